/- Blocks: the program's: its variables, its closure. -/
import Derived.Test.YtfmoemconapmhaaGreatExb
set_option linter.all false
namespace Go.Proofs.YtfmoemconapmhaaGreat.Ah
open Go
abbrev Spn:=Key × Nat × Nat
def se (p:Spn):List Value:=[.string (str p.1),.int .i64 (p.2.1:Int),.int .i64 (p.2.2:Int)]
theorem qmt (p:Spn):(se p).length=3:=rfl
def spn (a:Nat):List (List Ent)→List Spn
 | []=>[]
 | es :: D=>(q1p es,a,(enc es).length) :: spn (a + (enc es).length + 4) D
theorem qlc:∀ (G H:List (List Ent)) (a:Nat),spn a (G++H)=spn a G++spn (a + (q07 G).length) H
 | [],H,a=>by simp [spn,q07]
 | es :: G,H,a=>by
  rw [List.cons_append,spn,spn,qlc G H]
  have:(q07 (es :: G)).length=(enc es).length + 4 + (q07 G).length:=by
   rw [show es :: G=[es]++G from rfl,q4m,List.length_append,q71]
  rw [this,show a + ((enc es).length + 4 + (q07 G).length)=a + (enc es).length + 4 + (q07 G).length by omega]
  rfl
theorem q9h (a:Nat) (G:List (List Ent)):(spn a G).length=G.length:=by
 induction G generalizing a with
 | nil=>rfl
 | cons g G ih=>simp [spn,ih]
section
variable {w0:World} {h h':Hp} {q6 q7 q8 q9:Nat}
structure BLx (w0:World) (h:Hp) (q6 q7 q8 q9:Nat) (ob nb:List UInt8) (sl:List Spn) (ak:Key) (vo vn vs:Value) (So Sn Ss:List Nat):Prop where
 b6:h.blk q6=some [vo]
 b7:h.blk q7=some [vn]
 b8:h.blk q8=some [vs]
 b9:h.blk q9=some [.string (str ak)]
 w:∀ q,q∈[q6,q7,q8,q9]→w0.heap.size≤q∧q < h.next
 ne:q6≠q7∧q6≠q8∧q6≠q9∧q7≠q8∧q7≠q9∧q8≠q9
 go:Vec w0 h 1 vo ob.length (bvs ob) So
 gn:Vec w0 h 1 vn nb.length (bvs nb) Sn
 gs:Vec w0 h 3 vs sl.length (sl.flatMap se) Ss
 d1:∀ b,b∈Sn→b∉So
 d2:∀ b,b∈Ss→b∉So
 d3:∀ b,b∈Ss→b∉Sn
 dc:∀ q,q∈[q6,q7,q8,q9]→q∉So∧q∉Sn∧q∉Ss
abbrev q1c (q6 q7 q8 q9:Nat) (So Sn Ss:List Nat):List Nat:=[q6,q7,q8,q9]++(So++(Sn++Ss))
variable {ob nb:List UInt8} {sl:List Spn} {ak:Key} {vo vn vs:Value} {So Sn Ss:List Nat}
theorem BLx.lts (x:BLx w0 h q6 q7 q8 q9 ob nb sl ak vo vn vs So Sn Ss):∀ b,b∈q1c q6 q7 q8 q9 So Sn Ss→b < h.next:=by
 intro b hb
 rcases List.mem_append.1 hb with e | e
 ·exact (x.w b e).2
 ·rcases List.mem_append.1 e with e | e
  ·exact (x.go.lt b e).2
  ·rcases List.mem_append.1 e with e | e
   ·exact (x.gn.lt b e).2
   ·exact (x.gs.lt b e).2
theorem BLx.frame (x:BLx w0 h q6 q7 q8 q9 ob nb sl ak vo vn vs So Sn Ss) {T T':List Nat} (st:Step h h' T T') (hd:∀ b,b∈q1c q6 q7 q8 q9 So Sn Ss→b∉T):BLx w0 h' q6 q7 q8 q9 ob nb sl ak vo vn vs So Sn Ss:=by
 have k:∀ q,q∈[q6,q7,q8,q9]→h'.blk q=h.blk q:=λ q hq=>(st.keep q (x.w q hq).2 (hd q (List.mem_append.2 (.inl hq)))).1
 exact ⟨by rw [k _ (by simp)]; exact x.b6,by rw [k _ (by simp)]; exact x.b7,by rw [k _ (by simp)]; exact x.b8,by rw [k _ (by simp)]; exact x.b9,λ q hq=>⟨(x.w q hq).1,Nat.lt_of_lt_of_le (x.w q hq).2 st.1⟩,x.ne,
  x.go.frame st λ b hb=>hd b (by simp [hb]),x.gn.frame st λ b hb=>hd b (by simp [hb]),x.gs.frame st λ b hb=>hd b (by simp [hb]),x.d1,x.d2,x.d3,x.dc⟩
theorem Step.dj {S S' T:List Nat} (st:Step h h' S S') (hd:∀ b,b∈S→b∉T) (hT:∀ b,b∈T→b < h.next):∀ b,b∈S'→b∉T:=λ b hb hbT=>by
 rcases (st.own b hb).2 with e | e
 ·exact hd b e hbT
 ·have:=hT b hbT; omega
theorem BLx.setAhead (x:BLx w0 h q6 q7 q8 q9 ob nb sl ak vo vn vs So Sn Ss) (ak':Key):BLx w0 (h.put q9 [.string (str ak')]) q6 q7 q8 q9 ob nb sl ak' vo vn vs So Sn Ss:=by
 obtain ⟨n1,n2,n3,n4,n5,n6⟩:=x.ne
 have dc:=x.dc q9 (by simp)
 exact ⟨by rw [q17,if_neg n3]; exact x.b6,by rw [q17,if_neg n5]; exact x.b7,by rw [q17,if_neg n6]; exact x.b8,by simp,x.w,x.ne,x.go.put dc.1 _,x.gn.put dc.2.1 _,x.gs.put dc.2.2 _,x.d1,x.d2,x.d3,x.dc⟩
theorem BLx.setNow (x:BLx w0 h q6 q7 q8 q9 ob nb sl ak vo vn vs So Sn Ss) {nb':List UInt8} {vn':Value} {Sn':List Nat} (v:Vec w0 h' 1 vn' nb'.length (bvs nb') Sn') (st:Step h h' Sn Sn'):BLx w0 (h'.put q7 [vn']) q6 q7 q8 q9 ob nb' sl ak vo vn' vs So Sn' Ss:=by
 obtain ⟨n1,n2,n3,n4,n5,n6⟩:=x.ne
 have k:∀ q,q∈[q6,q7,q8,q9]→h'.blk q=h.blk q:=λ q hq=>(st.keep q (x.w q hq).2 (x.dc q hq).2.1).1
 have hSo:=λ b hb=>(x.go.lt b hb).2
 have hSs:=λ b hb=>(x.gs.lt b hb).2
 have dq:∀ q,q∈[q6,q7,q8,q9]→q∉Sn':=q6b st (λ q hq=>(x.dc q hq).2.1) (λ q hq=>(x.w q hq).2)
 have dc:=x.dc q7 (by simp)
 exact ⟨by rw [q17,if_neg n1,k _ (by simp)]; exact x.b6,by simp,by rw [q17,if_neg (Ne.symm n4),k _ (by simp)]; exact x.b8,by rw [q17,if_neg (Ne.symm n5),k _ (by simp)]; exact x.b9,
  λ q hq=>⟨(x.w q hq).1,Nat.lt_of_lt_of_le (x.w q hq).2 st.1⟩,x.ne,(x.go.frame st λ b hb e=>x.d1 b e hb).put dc.1 _,v.put (dq q7 (by simp)) _,(x.gs.frame st x.d3).put dc.2.2 _,
  st.dj x.d1 hSo,x.d2,q6b st x.d3 hSs,λ q hq=>⟨(x.dc q hq).1,dq q hq,(x.dc q hq).2.2⟩⟩
theorem BLx.setOut (x:BLx w0 h q6 q7 q8 q9 ob nb sl ak vo vn vs So Sn Ss) {ob':List UInt8} {vo':Value} {So':List Nat} (v:Vec w0 h' 1 vo' ob'.length (bvs ob') So') (st:Step h h' So So'):BLx w0 (h'.put q6 [vo']) q6 q7 q8 q9 ob' nb sl ak vo' vn vs So' Sn Ss:=by
 obtain ⟨n1,n2,n3,n4,n5,n6⟩:=x.ne
 have k:∀ q,q∈[q6,q7,q8,q9]→h'.blk q=h.blk q:=λ q hq=>(st.keep q (x.w q hq).2 (x.dc q hq).1).1
 have hSn:=λ b hb=>(x.gn.lt b hb).2
 have hSs:=λ b hb=>(x.gs.lt b hb).2
 have dq:∀ q,q∈[q6,q7,q8,q9]→q∉So':=q6b st (λ q hq=>(x.dc q hq).1) (λ q hq=>(x.w q hq).2)
 have dc:=x.dc q6 (by simp)
 exact ⟨by simp,by rw [q17,if_neg (Ne.symm n1),k _ (by simp)]; exact x.b7,by rw [q17,if_neg (Ne.symm n2),k _ (by simp)]; exact x.b8,by rw [q17,if_neg (Ne.symm n3),k _ (by simp)]; exact x.b9,
  λ q hq=>⟨(x.w q hq).1,Nat.lt_of_lt_of_le (x.w q hq).2 st.1⟩,x.ne,v.put (dq q6 (by simp)) _,(x.gn.frame st x.d1).put dc.2.1 _,(x.gs.frame st x.d2).put dc.2.2 _,
  q6b st x.d1 hSn,q6b st x.d2 hSs,x.d3,λ q hq=>⟨dq q hq,(x.dc q hq).2.1,(x.dc q hq).2.2⟩⟩
theorem BLx.setSp (x:BLx w0 h q6 q7 q8 q9 ob nb sl ak vo vn vs So Sn Ss) {sl':List Spn} {vs':Value} {Ss':List Nat} (v:Vec w0 h' 3 vs' sl'.length (sl'.flatMap se) Ss') (st:Step h h' Ss Ss'):BLx w0 (h'.put q8 [vs']) q6 q7 q8 q9 ob nb sl' ak vo vn vs' So Sn Ss':=by
 obtain ⟨n1,n2,n3,n4,n5,n6⟩:=x.ne
 have k:∀ q,q∈[q6,q7,q8,q9]→h'.blk q=h.blk q:=λ q hq=>(st.keep q (x.w q hq).2 (x.dc q hq).2.2).1
 have hSo:=λ b hb=>(x.go.lt b hb).2
 have hSn:=λ b hb=>(x.gn.lt b hb).2
 have dq:∀ q,q∈[q6,q7,q8,q9]→q∉Ss':=q6b st (λ q hq=>(x.dc q hq).2.2) (λ q hq=>(x.w q hq).2)
 have dc:=x.dc q8 (by simp)
 exact ⟨by rw [q17,if_neg n2,k _ (by simp)]; exact x.b6,by rw [q17,if_neg n4,k _ (by simp)]; exact x.b7,by simp,by rw [q17,if_neg (Ne.symm n6),k _ (by simp)]; exact x.b9,
  λ q hq=>⟨(x.w q hq).1,Nat.lt_of_lt_of_le (x.w q hq).2 st.1⟩,x.ne,(x.go.frame st λ b hb e=>x.d2 b e hb).put dc.1 _,(x.gn.frame st λ b hb e=>x.d3 b e hb).put dc.2.1 _,v.put (dq q8 (by simp)) _,
  x.d1,st.dj x.d2 hSo,st.dj x.d3 hSn,λ q hq=>⟨(x.dc q hq).1,(x.dc q hq).2.1,dq q hq⟩⟩
theorem BLx.wideNow (x:BLx w0 h q6 q7 q8 q9 ob nb sl ak vo vn vs So Sn Ss) {Sn':List Nat} (st:Step h h' Sn Sn') (c:List Value):Step h (h'.put q7 c) (q1c q6 q7 q8 q9 So Sn Ss) (q1c q6 q7 q8 q9 So Sn' Ss):=by
 refine (st.wide (λ b hb=>by simp [hb]) (λ b hb=>?_)).put (by simp) c
 by_cases e:b∈Sn'
 ·exact .inl e
 ·exact .inr (by
   have hm:b∈q1c q6 q7 q8 q9 So Sn Ss:=by simp only [q1c,List.mem_append] at hb ⊢; rcases hb with q | q | q | q; exact .inl q; exact .inr (.inl q); exact absurd q e; exact .inr (.inr (.inr q))
   exact ⟨hm,x.lts b hm⟩)
theorem BLx.wideOut (x:BLx w0 h q6 q7 q8 q9 ob nb sl ak vo vn vs So Sn Ss) {So':List Nat} (st:Step h h' So So') (c:List Value):Step h (h'.put q6 c) (q1c q6 q7 q8 q9 So Sn Ss) (q1c q6 q7 q8 q9 So' Sn Ss):=by
 refine (st.wide (λ b hb=>by simp [hb]) (λ b hb=>?_)).put (by simp) c
 by_cases e:b∈So'
 ·exact .inl e
 ·exact .inr (by
   have hm:b∈q1c q6 q7 q8 q9 So Sn Ss:=by simp only [q1c,List.mem_append] at hb ⊢; rcases hb with q | q | q | q; exact .inl q; exact absurd q e; exact .inr (.inr (.inl q)); exact .inr (.inr (.inr q))
   exact ⟨hm,x.lts b hm⟩)
theorem BLx.wideSp (x:BLx w0 h q6 q7 q8 q9 ob nb sl ak vo vn vs So Sn Ss) {Ss':List Nat} (st:Step h h' Ss Ss') (c:List Value):Step h (h'.put q8 c) (q1c q6 q7 q8 q9 So Sn Ss) (q1c q6 q7 q8 q9 So Sn Ss'):=by
 refine (st.wide (λ b hb=>by simp [hb]) (λ b hb=>?_)).put (by simp) c
 by_cases e:b∈Ss'
 ·exact .inl e
 ·exact .inr (by
   have hm:b∈q1c q6 q7 q8 q9 So Sn Ss:=by simp only [q1c,List.mem_append] at hb ⊢; rcases hb with q | q | q | q; exact .inl q; exact .inr (.inl q); exact .inr (.inr (.inl q)); exact absurd q e
   exact ⟨hm,x.lts b hm⟩)
theorem BLx.refl (x:BLx w0 h q6 q7 q8 q9 ob nb sl ak vo vn vs So Sn Ss):Step h h (q1c q6 q7 q8 q9 So Sn Ss) (q1c q6 q7 q8 q9 So Sn Ss):=.refl _ _ x.lts
theorem q0kw:Vec w0 h 1 (.slice none 0 0) ([]:List UInt8).length (bvs []) []:=.nil
end
def q4w (ob nb:List UInt8):List UInt8:=if nb=[] then ob else ob++(nb++be 4 (q14 nb))
def q3d (sl:List Spn) (nb:List UInt8):List Spn:=if nb=[] then sl else
 match sl.getLast? with
 | some p=>sl.dropLast++[(p.1,p.2.1,nb.length)]
 | none=>sl
theorem q0o7 (sl0:List Spn) (p:Spn) (n:Nat):((sl0++[p]).flatMap se).set (sl0.length * 3 + 2) (.int .i64 (n:Int))=(sl0++[(p.1,p.2.1,n)]).flatMap se:=by
 have hl:=q3f qmt sl0
 rw [List.flatMap_append,List.flatMap_append,List.set_append_right _ _ (by omega),hl]
 have:sl0.length * 3 + 2 - sl0.length * 3=2:=by omega
 rw [this]
 rfl
section
variable {w0:World} {h h':Hp} {q6 q7 q8 q9:Nat} {ob nb:List UInt8} {sl:List Spn} {ak:Key} {vo vn vs:Value} {So Sn Ss:List Nat}
theorem qya (x:BLx w0 h q6 q7 q8 q9 ob nb sl ak vo vn vs So Sn Ss) (hsl:nb≠[]→sl≠[]) (hol:ob.length≤1000000000) (hnl:nb.length≤1000000000) (hsl2:sl.length≤1000000000):
  qf prog w0 q8s [ptr q7,ptr q8,ptr q6,ptr q9] h λ _ h'=>∃ vo' So',BLx w0 h' q6 q7 q8 q9 (q4w ob nb) [] (q3d sl nb) [] vo' (.slice none 0 0) vs So' [] Ss∧Step h h' (q1c q6 q7 q8 q9 So Sn Ss) (q1c q6 q7 q8 q9 So' [] Ss):=by
 refine qf.of_fit (by simp [ptr]) λ f=>q0b2 (by simp [ptr]) ?_
 have w:=λ q hq=>(x.w q hq).1
 simp only [qtz]
 have fin:∀ {h1:Hp} {ob1:List UInt8} {sl1:List Spn} {vo1:Value} {So1 Sn1:List Nat} {nb1:List UInt8} {vn1:Value},BLx w0 h1 q6 q7 q8 q9 ob1 nb1 sl1 ak vo1 vn1 vs So1 Sn1 Ss→Step h h1 (q1c q6 q7 q8 q9 So Sn Ss) (q1c q6 q7 q8 q9 So1 Sn1 Ss)→ob1=q4w ob nb→sl1=q3d sl nb→
   q0q w0 (ptr q7) (.slice none 0 0) (λ _=>q0q w0 (ptr q9) (.string .empty) λ _=>qo [] λ _ h'=>∃ vo' So',BLx w0 h' q6 q7 q8 q9 (q4w ob nb) [] (q3d sl nb) [] vo' (.slice none 0 0) vs So' [] Ss∧Step h h' (q1c q6 q7 q8 q9 So Sn Ss) (q1c q6 q7 q8 q9 So' [] Ss)) h1:=by
  intro h1 ob1 sl1 vo1 So1 Sn1 nb1 vn1 x1 st1 e1 e2
  subst e1 e2
  refine q21 (w q7 (by simp)) x1.b7 (by simp) rfl ?_
  simp only [List.set_cons_zero]
  have s2:Step h1 h1 Sn1 []:=(Step.refl h1 Sn1 λ b hb=>(x1.gn.lt b hb).2).less (by simp)
  have x2:=x1.setNow (nb':=[]) q0kw s2
  have st2:=st1.trans (x1.wideNow s2 [.slice none 0 0])
  refine q21 (w q9 (by simp)) x2.b9 (by simp) rfl ?_
  simp only [List.set_cons_zero]
  have x3:=x2.setAhead []
  rw [← q75] at x3
  simp only [qu]
  exact ⟨by simp,_,_,x3,st2.put (by simp) _⟩
 refine qj (w q7 (by simp)) x.b7 rfl ?_
 simp only [x.gn.sl.lenv,wd, wa]
 rcases List.eq_nil_or_concat nb with hnb | ⟨n0,n1,hnb⟩
 ·have c1:decide ((0:Int) < (nb.length:Int))=false:=by rw [hnb]; rfl
  simp only [c1,wd, wa]
  exact fin x x.refl (by unfold q4w; rw [if_pos hnb]) (by unfold q3d; rw [if_pos hnb])
 ·have hnn:nb≠[]:=by rw [hnb]; simp
  have hnp:0 < nb.length:=List.length_pos_iff.2 hnn
  have c1:decide ((0:Int) < (nb.length:Int))=true:=decide_eq_true (by omega)
  simp only [c1,wd, wa]
  refine qj (w q8 (by simp)) x.b8 rfl ?_
  refine qj (w q8 (by simp)) x.b8 rfl ?_
  simp only [x.gs.sl.lenv,wd, wa]
  refine qj (w q7 (by simp)) x.b7 rfl ?_
  obtain ⟨sl0,p,hsl0⟩:∃ sl0 p,sl=sl0++[p]:=by
   rcases List.eq_nil_or_concat sl with e | ⟨a,b,e⟩
   ·exact absurd e (hsl hnn)
   ·exact ⟨a,b,by rw [e]; simp⟩
  have hsll:sl.length=sl0.length + 1:=by rw [hsl0]; simp
  have e5:IntKind.i64.wrap ((sl.length:Int) - 1)=(sl0.length:Int):=by rw [IntWalk.i64_in _ (by omega)]; omega
  obtain ⟨qs,hvs,hSs,hq1,hq2,hq3,hq4,hq5⟩:∃ q,vs=.slice (some ⟨q,0,none⟩) sl.length q0b∧Ss=[q]∧w0.heap.size≤q∧q < h.next∧h.blk q=some (sl.flatMap se)∧h.esz q=3∧(sl.flatMap se).length=sl.length * 3:=by
   rcases x.gs with ⟨-,e,-⟩ | e
   ·omega
   ·exact e
  have hvs':q04 3 vs (.int .i64 (sl0.length:Int))=q04 3 (.slice (some ⟨qs,0,none⟩) sl.length q0b) (.int .i64 (sl0.length:Int)):=by rw [hvs]
  simp only [x.gn.sl.lenv,wd, wa,e5,hvs',qc4]
  refine ⟨by omega,by omega,?_⟩
  simp only [wd, wa,Int.toNat_natCast]
  refine q21 hq1 hq3 (by omega) rfl ?_
  have hset:(sl.flatMap se).set (sl0.length * 3 + 2) (.int .i64 (nb.length:Int))=(q3d sl nb).flatMap se:=by
   unfold q3d
   rw [if_neg hnn,hsl0,q0o7]
   simp
  rw [hset]
  have hesl:(q3d sl nb).length=sl.length:=by unfold q3d; rw [if_neg hnn,hsl0]; simp
  have s1:Step h (h.put qs ((q3d sl nb).flatMap se)) Ss Ss:=(Step.refl h Ss λ b hb=>(x.gs.lt b hb).2).put (by rw [hSs]; simp) _
  have g1:Vec w0 (h.put qs ((q3d sl nb).flatMap se)) 3 vs (q3d sl nb).length ((q3d sl nb).flatMap se) Ss:=by
   rw [hesl]
   exact .inr ⟨qs,hvs,hSs,hq1,hq2,by simp,hq4,by rw [q3f qmt,hesl]⟩
  have x1:=x.setSp g1 s1
  have st1:=x.wideSp s1 [vs]
  have hb8:(h.put qs ((q3d sl nb).flatMap se)).blk q8=some [vs]:=by
   have:=(x.dc q8 (by simp)).2.2
   rw [q17,if_neg (by rw [hSs] at this; simpa using this)]
   exact x.b8
  have f1:Fit w0 (h.put qs ((q3d sl nb).flatMap se)):=f.put hq1 hq2 λ v hv=>by
   obtain ⟨a,-,ha⟩:=List.mem_flatMap.1 hv
   simp [se] at ha
   rcases ha with rfl | rfl | rfl <;> rfl
  rw [qyr f1 (w q8 (by simp)) hb8] at x1 st1
  generalize h.put qs ((q3d sl nb).flatMap se)=h1 at *
  refine qq (qfd 4 (by omega)) λ r h2 ⟨e,wr,s2⟩ f2=>?_
  subst e
  have hp2:∀ b,b∈q1c q6 q7 q8 q9 So Sn Ss→b∉[h1.next]:=λ b hb e=>by have:=x1.lts b hb; simp at e; omega
  have x2:=x1.frame s2 (by simp)
  have st2:Step h h2 (q1c q6 q7 q8 q9 So Sn Ss) (q1c q6 q7 q8 q9 So Sn Ss):=st1.trans ((s2.less (T:=[]) (by simp)).keepS x1.lts)
  refine qj (w q7 (by simp)) x2.b7 rfl ?_
  refine x2.gn.b2s ?_
  refine qq (qgf nb (by omega)) λ r h3 ⟨e,e'⟩ f3=>?_
  subst e e'
  refine qq (qce (q14 nb) wr (by simp)) λ r h4 ⟨S4,wr4,s4⟩ f4=>?_
  have x4:=x2.frame s4 hp2
  have hp4:∀ b,b∈q1c q6 q7 q8 q9 So Sn Ss→b < h3.next:=x2.lts
  have st4:Step h h4 (q1c q6 q7 q8 q9 So Sn Ss) (q1c q6 q7 q8 q9 So Sn Ss):=by
   have:=s2.trans s4
   exact st1.trans ((this.less (T:=[]) (by simp)).keepS x1.lts)
  refine qq (qad wr4) λ r h5 ⟨e,e'⟩ f5=>?_
  subst e e'
  have hout:((⟨max 4 0,[],false⟩:WS).put (be 4 (q14 nb))).out=be 4 (q14 nb):=by
   have:(⟨max 4 0,[],false⟩:WS).put (be 4 (q14 nb))=⟨max 4 0,be 4 (q14 nb),false⟩:=by
    unfold WS.put
    rw [if_neg (by simp),if_neg (by simp; decide)]
    simp
   rw [this]
   rfl
  simp only [hout,wd, wa]
  refine qj (w q6 (by simp)) x4.b6 rfl ?_
  refine qj (w q7 (by simp)) x4.b7 rfl ?_
  obtain ⟨an,cn,en⟩:=x4.gn.slice
  refine q3g (m:=nb.length) f5.base x4.go (by rw [en]; rfl) x4.gn.src (by simp) (by omega) (by omega) (by omega) λ vo6 h6 S6 g6 s6=>?_
  have fb6:=s6.base f5.base
  refine q3g (m:=(be 4 (q14 nb)).length) fb6 g6 (by simp [lenA]) (qau _) (by simp) (by simp; omega) (by simp; omega) (by omega) λ vo7 h7 S7 g7 s7=>?_
  have g7':Vec w0 h7 1 vo7 (q4w ob nb).length (bvs (q4w ob nb)) S7:=by
   have e1:bvs ob++bvs nb++bvs (be 4 (q14 nb))=bvs (q4w ob nb):=by unfold q4w; rw [if_neg hnn,← q5g,← q5g,List.append_assoc]
   have e2:ob.length + nb.length + (be 4 (q14 nb)).length=(q4w ob nb).length:=by unfold q4w; rw [if_neg hnn]; simp; omega
   rw [e1,e2] at g7
   exact g7
  have k6:h7.blk q6=some [vo]:=by rw [((s6.trans s7).keep q6 (x4.w q6 (by simp)).2 (x4.dc q6 (by simp)).1).1]; exact x4.b6
  refine q21 (w q6 (by simp)) k6 (by simp) g7'.gv.isC ?_
  simp only [List.set_cons_zero]
  exact fin (x4.setOut g7' (s6.trans s7)) (st4.trans (x4.wideOut (s6.trans s7) _)) rfl rfl
end
def spx (s:List (List Ent) × List Ent):List Spn:=spn 0 s.1++if s.2=[] then [] else [(q1p s.2,(q07 s.1).length,0)]
theorem qct {l:List Ent}:enc l=[]↔l=[]:=by
 constructor
 ·intro h
  cases l with
  | nil=>rfl
  | cons x l=>have:=qm7 (l:=x :: l) (by simp) []; rw [show q23 [] (x :: l)=enc (x :: l) from rfl,h] at this; simp at this
 ·rintro rfl; rfl
theorem qzu (s:List (List Ent) × List Ent):q4w (q07 s.1) (enc s.2)=q07 (q4v s):=by
 unfold q4w q4v
 by_cases h:s.2=[]
 ·rw [if_pos (qct.2 h),if_pos h]
 ·rw [if_neg (λ q=>h (qct.1 q)),if_neg h,q4m,qgi]
theorem qzl (s:List (List Ent) × List Ent):q3d (spx s) (enc s.2)=spn 0 (q4v s):=by
 unfold q3d q4v spx
 by_cases h:s.2=[]
 ·rw [if_pos (qct.2 h),if_pos h,if_pos h,List.append_nil]
 ·rw [if_neg (λ q=>h (qct.1 q)),if_neg h,if_neg h,qlc]
  simp [spn]
theorem qxc {l:List Ent} (h:l≠[]) (x:Ent):q1p (l++[x])=q1p l:=by
 cases l with
 | nil=>exact absurd rfl h
 | cons y l=>rfl
theorem q0la {l:List Ent} (h:∀ x,x∈l→q0e x=true):(q22 l).length≤64:=by
 unfold q22
 split
 ·rename_i x e
  have:=(q48 x).1 (h x (List.mem_of_getLast? e))
  omega
 ·simp
theorem qm9 (block:Nat) (l:List Ent):(q07 (q0l block l).1).length + (enc (q0l block l).2).length≤2 * q0f l∧(spx (q0l block l)).length≤l.length∧((q0l block l).1).length≤l.length:=by
 have hf:=ql9 block l
 have hne:=qlq block l ([],[]) (by simp)
 have h1:=qgp (q0l block l).1 hne
 have h2:(enc (q0l block l).2).length≤q0f (q0l block l).2:=qgt _ _
 have h3:q0f l=q0f (q0l block l).1.flatten + q0f (q0l block l).2:=by rw [← qbw,hf]
 have h4:∀ (G:List (List Ent)),(∀ g,g∈G→g≠[])→G.length≤G.flatten.length:=by
  intro G
  induction G with
  | nil=>intro _; simp
  | cons g G ih=>
   intro h
   have:=ih λ g hg=>h g (by simp [hg])
   have hg:=List.length_pos_iff.2 (h g (by simp))
   simp only [List.flatten_cons,List.length_cons,List.length_append]
   omega
 have h5:=h4 _ hne
 have h6:l.length=(q0l block l).1.flatten.length + (q0l block l).2.length:=by rw [← List.length_append,hf]
 refine ⟨by omega,?_,?_⟩
 ·unfold spx
  rw [List.length_append,q9h]
  split
  ·have:((q0l block l).1).length≤(q0l block l).1.flatten.length:=h5
   simp; omega
  ·rename_i q
   have:=List.length_pos_iff.2 q
   have:((q0l block l).1).length≤(q0l block l).1.flatten.length:=h5
   simp; omega
 ·have:((q0l block l).1).length≤(q0l block l).1.flatten.length:=h5
  omega
theorem q0f6 {block:Nat} {l:List Ent} (h:∀ x,x∈l→q0e x=true):∀ x,x∈(q0l block l).2→q0e x=true:=λ x hx=>h x (by
 have:=ql9 block l
 rw [← this]
 simp [hx])
section
variable {w0:World} {h h':Hp} {q6 q7 q8 q9:Nat} {ob nb:List UInt8} {sl:List Spn} {ak:Key} {vo vn vs:Value} {So Sn Ss:List Nat}
theorem q0fs {k0:Value→Value→Value→Hp→Prop} {v:Value} {l:List Ent} {block:Nat} {hh:Hp} (hv:Es w0 hh v l) (fh:Fit w0 hh) (hr:∀ x,x∈l→q0e x=true) (hl:l.length≤2000000) (hb:block≤4096) {T0:List Nat} (hT0:∀ b,b∈q0z v→b∉T0)
  (hk:∀ h' vo vn vs So Sn Ss,BLx w0 h' q6 q7 q8 q9 (q07 (q0l block l).1) (enc (q0l block l).2) (spx (q0l block l)) (q22 (q0l block l).2) vo vn vs So Sn Ss→Step hh h' T0 (q1c q6 q7 q8 q9 So Sn Ss)→k0 (ptr q6) (ptr q8) (.func (.func q8s) #[] #[ptr q7,ptr q8,ptr q6,ptr q9]) h'):
  ∀ (post pre:List Ent) (h1:Hp) (vo vn vs:Value) (So Sn Ss:List Nat),pre++post=l→BLx w0 h1 q6 q7 q8 q9 (q07 (q0l block pre).1) (enc (q0l block pre).2) (spx (q0l block pre)) (q22 (q0l block pre).2) vo vn vs So Sn Ss→Step hh h1 T0 (q1c q6 q7 q8 q9 So Sn Ss)→
   q66 prog w0 k0 (post.length + 1) (.int .i64 (block:Int)) (ptr q6) (ptr q7) (ptr q8) (ptr q9) (.func (.func q8s) #[] #[ptr q7,ptr q8,ptr q6,ptr q9]) v (.int .i64 (l.length:Int)) (.int .i64 (pre.length:Int)) h1:=by
 intro post
 induction post with
 | nil=>
  intro pre h1 vo vn vs So Sn Ss he x st
  have hpre:pre=l:=by simpa using he
  subst hpre
  rw [List.length_nil,q66]
  simp only [qff,wd, wa,Int.lt_irrefl,decide_false]
  exact hk h1 vo vn vs So Sn Ss x st
 | cons x post ih=>
  intro pre h1 vo vn vs So Sn Ss he b st
  have hlen:pre.length + (post.length + 1)=l.length:=by rw [← he]; simp
  have hg:l[pre.length]?=some x:=by rw [← he]; simp
  have hxr:q0e x=true:=hr x (List.mem_of_getElem? hg)
  obtain ⟨r1,r2,r3,r4⟩:=(q48 x).1 hxr
  have hprer:∀ y,y∈pre→q0e y=true:=λ y hy=>hr y (by rw [← he]; simp [hy])
  have c1:decide ((pre.length:Int) < (l.length:Int))=true:=decide_eq_true (by omega)
  have e6:=wrS pre x (by omega)
  obtain ⟨z1,z2,z3⟩:=qm9 block pre
  have hsz:q0f pre≤132 * pre.length:=by
   have:∀ l:List Ent,(∀ x,x∈l→q0e x=true)→q0f l≤132 * l.length:=by
    intro l
    induction l with
    | nil=>intro _; simp [q0f]
    | cons y l ih=>
     intro h
     have h1:=ih λ z hz=>h z (by simp [hz])
     have:=(q48 y).1 (h y (by simp))
     rw [q47,List.length_cons]
     omega
   exact this pre hprer
  have hlk:=q0la (q0f6 (block:=block) hprer)
  have hsn:=qlj block pre x
  generalize hs:q0l block pre=s at *
  have w:=λ q hq=>(b.w q hq).1
  have vs1:Es w0 h1 v l:=hv.step fh st hT0
  have fb:=st.base fh.base
  rw [List.length_cons,q66]
  simp only [qff,wd, wa,c1]
  refine vs1.elem (by omega) (q3u hg) ?_
  refine q2f fb rfl rfl (by simp [qv]) ?_
  have sx:Step h1 (h1.new (ee x) 3) [] [h1.next]:=(Step.refl h1 [] (by simp)).new _ _
  have hx:(h1.new (ee x) 3).blk h1.next=some (ee x):=by simp
  have stx:Step hh (h1.new (ee x) 3) T0 (q1c q6 q7 q8 q9 So Sn Ss):=st.trans ((sx.less (T:=[]) (by simp)).keepS b.lts)
  have bx:=b.frame sx (by simp)
  have nx:h1.next < (h1.new (ee x) 3).next:=by simp
  have hqx:∀ q,q∈q1c q6 q7 q8 q9 So Sn Ss→q≠h1.next:=λ q hq=>by have:=b.lts q hq; omega
  generalize h1.next=qx at *
  generalize h1.new (ee x) 3=hx1 at *
  simp only [wd, wa]
  refine qj (w q9 (by simp)) bx.b9 rfl ?_
  refine q16 fb hx rfl ?_
  refine qq (qwl (q22 s.2) x (by omega) hxr) λ ev h2 ⟨Se,ge,s2⟩ f2=>?_
  have b2:=bx.frame s2 (by simp)
  have hx2:h2.blk qx=some (ee x):=by rw [(s2.keep _ nx (by simp)).1]; exact hx
  have n2:qx < h2.next:=Nat.lt_of_lt_of_le nx s2.1
  have st2:Step hh h2 T0 (q1c q6 q7 q8 q9 So Sn Ss):=stx.trans ((s2.less (T:=[]) (by simp)).keepS bx.lts)
  have hSe:∀ c,c∈Se→c∉q1c q6 q7 q8 q9 So Sn Ss:=λ c hc hcA=>by
   have:=bx.lts c hcA
   rcases (s2.own c hc).2 with e | e
   ·simp at e
   ·omega
  have rest:∀ (h3:Hp) (s0:List (List Ent) × List Ent) (a:Key) (ev:Value) (Se:List Nat) (sl:List Spn) (vo vn vs:Value) (So Sn Ss:List Nat) (ak:Key),GV w0 h3 1 ev (eb a x).length (bvs (eb a x)) Se→(∀ c,c∈Se→c∉q1c q6 q7 q8 q9 So Sn Ss)→BLx w0 h3 q6 q7 q8 q9 (q07 s0.1) (enc s0.2) sl ak vo vn vs So Sn Ss→Step hh h3 T0 (q1c q6 q7 q8 q9 So Sn Ss)→h3.blk qx=some (ee x)→qx∉q1c q6 q7 q8 q9 So Sn Ss→qx < h3.next→
    a=q22 s0.2→(enc s0.2).length≤1000000000→q2z block s x=(s0.1,s0.2++[x])→sl=spx (s0.1,s0.2++[x])→
    qg w0 (ptr q7) (λ v51=>q0h w0 1 1 v51 ev λ v53=>q0q w0 (ptr q7) v53 λ _=>qg w0 (.pointer (some ⟨qx,0,none⟩)) λ v55=>q0q w0 (ptr q9) v55 λ _=>
     q66 prog w0 k0 (post.length + 1) (.int .i64 (block:Int)) (ptr q6) (ptr q7) (ptr q8) (ptr q9) (.func (.func q8s) #[] #[ptr q7,ptr q8,ptr q6,ptr q9]) v (.int .i64 (l.length:Int)) (.int .i64 (((pre++[x]).length:Nat):Int))) h3:=by
   intro h3 s0 a ev Se sl vo vn vs So Sn Ss ak ge hSe b3 st3 hx3 hqa hqn ea hel hst esl
   have w:=λ q hq=>(b3.w q hq).1
   have fb3:w0.heap.size≤h3.next:=st3.base fh.base
   obtain ⟨r1,r2,r3,r4⟩:=(q48 x).1 hxr
   refine qj (w q7 (by simp)) b3.b7 rfl ?_
   obtain ⟨ae,ce,ee'⟩:=ge.slice
   have hebl:=q7g a x
   refine q3g (m:=(eb a x).length) fb3 b3.gn (by rw [ee']; rfl) ge.src (by simp) (by omega) (by omega) (by omega) λ vn4 h4 Sn4 g4 s4=>?_
   have eenc:enc (s0.2++[x])=enc s0.2++eb a x:=by rw [ea]; exact qx2 s0.2 x
   have g4':Vec w0 h4 1 vn4 (enc (s0.2++[x])).length (bvs (enc (s0.2++[x]))) Sn4:=by
    rw [eenc,q5g,List.length_append]
    exact g4
   have k7:h4.blk q7=some [vn]:=by rw [(s4.keep q7 (b3.w q7 (by simp)).2 (b3.dc q7 (by simp)).2.1).1]; exact b3.b7
   refine q21 (w q7 (by simp)) k7 (by simp) g4'.gv.isC ?_
   simp only [List.set_cons_zero]
   have b5:=b3.setNow g4' s4
   have st5:=st3.trans (b3.wideNow s4 [vn4])
   have hqn4:qx∉Sn:=λ e=>hqa (by simp [e])
   have hq7:qx≠q7:=λ e=>hqa (by simp [e])
   have hx5:(h4.put q7 [vn4]).blk qx=some (ee x):=by rw [q17,if_neg hq7,(s4.keep qx hqn hqn4).1]; exact hx3
   refine qj fb hx5 rfl ?_
   refine q21 (w q9 (by simp)) b5.b9 (by simp) rfl ?_
   simp only [List.set_cons_zero]
   have b6:=b5.setAhead x.k
   have st6:=st5.put (p:=q9) (by simp) [.string (str x.k)]
   have eg:q0l block (pre++[x])=(s0.1,s0.2++[x]):=by rw [hsn,hst]
   have:=ih (pre++[x]) _ vo vn4 vs So Sn4 Ss (by simpa using he) (by rw [eg,qww]; rw [esl] at b6; exact b6) st6
   exact this
  have begin_:∀ (h3:Hp) (s0:List (List Ent) × List Ent) (a:Key) (ev:Value) (Se:List Nat) (vo vn vs:Value) (So Sn Ss:List Nat) (ak:Key),GV w0 h3 1 ev (eb a x).length (bvs (eb a x)) Se→(∀ c,c∈Se→c∉q1c q6 q7 q8 q9 So Sn Ss)→BLx w0 h3 q6 q7 q8 q9 (q07 s0.1) (enc s0.2) (spn 0 s0.1) ak vo vn vs So Sn Ss→Step hh h3 T0 (q1c q6 q7 q8 q9 So Sn Ss)→h3.blk qx=some (ee x)→qx∉q1c q6 q7 q8 q9 So Sn Ss→qx < h3.next→
    a=q22 s0.2→s0.2=[]→q2z block s x=(s0.1,s0.2++[x])→(spn 0 s0.1).length≤2000000→(q07 s0.1).length≤1000000000→
    qg w0 (ptr q8) (λ v43=>qg w0 (.pointer (some ⟨qx,0,none⟩)) λ v45=>qg w0 (ptr q6) λ v46=>qb (q05 v46) λ v47=>q1t [(0,1,false,v45),(1,1,false,v47)] [.string .empty,.int .i64 0,.int .i64 0] λ v48=>
     q0j [(0,3,true,v48)] (q00 [.string .empty,.int .i64 0,.int .i64 0] 1) 1 3 λ v49=>q0h w0 3 32 v43 v49 λ v50=>q0q w0 (ptr q8) v50 λ _=>
     qg w0 (ptr q7) λ v51=>q0h w0 1 1 v51 ev λ v53=>q0q w0 (ptr q7) v53 λ _=>qg w0 (.pointer (some ⟨qx,0,none⟩)) λ v55=>q0q w0 (ptr q9) v55 λ _=>
     q66 prog w0 k0 (post.length + 1) (.int .i64 (block:Int)) (ptr q6) (ptr q7) (ptr q8) (ptr q9) (.func (.func q8s) #[] #[ptr q7,ptr q8,ptr q6,ptr q9]) v (.int .i64 (l.length:Int)) (.int .i64 (((pre++[x]).length:Nat):Int))) h3:=by
   intro h3 s0 a ev Se vo vn vs So Sn Ss ak ge hSe b3 st3 hx3 hqa hqn ea e0 hst hspl hol
   have w:=λ q hq=>(b3.w q hq).1
   have fb3:w0.heap.size≤h3.next:=st3.base fh.base
   refine qj (w q8 (by simp)) b3.b8 rfl ?_
   refine qj fb hx3 rfl ?_
   refine qj (w q6 (by simp)) b3.b6 rfl ?_
   simp only [b3.go.sl.lenv,wd, wa,q2w,q28,q1u,List.set_cons_zero,List.set_cons_succ]
   refine ⟨rfl,by simp,rfl,by simp,?_⟩
   refine q4a (e:=se (x.k,(q07 s0.1).length,0)) fb3 b3.gs.gv rfl rfl (by omega) (by omega) (by omega) λ vs4 h4 Ss4 g4 s4=>?_
   have esp:spx (s0.1,s0.2++[x])=spn 0 s0.1++[(x.k,(q07 s0.1).length,0)]:=by
    unfold spx
    rw [e0]
    simp [q1p]
   have g4':Vec w0 h4 3 vs4 (spx (s0.1,s0.2++[x])).length ((spx (s0.1,s0.2++[x])).flatMap se) Ss4:=by
    rw [esp,List.length_append,List.flatMap_append]
    simpa using g4
   have k8:h4.blk q8=some [vs]:=by rw [(s4.keep q8 (b3.w q8 (by simp)).2 (b3.dc q8 (by simp)).2.2).1]; exact b3.b8
   refine q21 (w q8 (by simp)) k8 (by simp) g4'.gv.isC ?_
   simp only [List.set_cons_zero]
   have b5:=b3.setSp g4' s4
   have st5:=st3.trans (b3.wideSp s4 [vs4])
   have hqn4:qx∉Ss:=λ e=>hqa (by simp [e])
   have hq8:qx≠q8:=λ e=>hqa (by simp [e])
   have hx5:(h4.put q8 [vs4]).blk qx=some (ee x):=by rw [q17,if_neg hq8,(s4.keep qx hqn hqn4).1]; exact hx3
   have hSeS:∀ c,c∈Se→c∉Ss:=λ c hc e=>hSe c hc (by simp [e])
   have ge4:=ge.frame s4 hSeS
   have hSe8:∀ c,c∈Se→c∉[q8]:=λ c hc e=>by simp at e; exact hSe c hc (by simp [e])
   have s8:Step h4 (h4.put q8 [vs4]) [q8] [q8]:=(Step.refl h4 [q8] (by have:=b5.w q8 (by simp); simpa using this.2)).put (by simp) _
   have ge5:=ge4.frame s8 hSe8
   have hSs4:∀ c,c∈Se→c∉Ss4:=q6b s4 hSeS (λ c hc=>(ge.lt c hc).2)
   have hqs4:qx∉Ss4:=λ e=>by
    rcases (s4.own _ e).2 with q | q
    ·exact hqn4 q
    ·omega
   refine rest _ s0 a ev Se _ vo vn vs4 So Sn Ss4 ak ge5 (λ c hc e=>?_) b5 st5 hx5 (λ e=>?_) (Nat.lt_of_lt_of_le hqn s4.1) ea (by rw [e0]; simp [q23]) hst rfl
   ·have h1:=hSe c hc
    have h2:=hSs4 c hc
    simp only [q1c,List.mem_append,not_or] at h1 e
    rcases e with e | e | e | e
    ·exact h1.1 e
    ·exact h1.2.1 e
    ·exact h1.2.2.1 e
    ·exact h2 e
   ·have h1:=hqa
    simp only [q1c,List.mem_append,not_or] at h1 e
    rcases e with e | e | e | e
    ·exact h1.1 e
    ·exact h1.2.1 e
    ·exact h1.2.2.1 e
    ·exact hqs4 e
  have hqA:qx∉q1c q6 q7 q8 q9 So Sn Ss:=λ e=>hqx qx e rfl
  refine qj (w q7 (by simp)) b2.b7 rfl ?_
  simp only [b2.gn.sl.lenv,wd, wa]
  by_cases h0:s.2=[]
  ·have hn0:(enc s.2).length=0:=by rw [h0]; rfl
   have c2:decide ((0:Int) < ((enc s.2).length:Int))=false:=decide_eq_false (by omega)
   simp only [c2,wd, wa]
   refine qj (w q7 (by simp)) b2.b7 rfl ?_
   have c3:(((enc s.2).length:Int) == 0)=true:=by rw [hn0]; rfl
   simp only [b2.gn.sl.lenv,c3,wd, wa,e6]
   have hspx:spx s=spn 0 s.1:=by unfold spx; rw [if_pos h0,List.append_nil]
   rw [hspx] at b2 z2
   exact begin_ h2 s _ ev Se vo vn vs So Sn Ss _ ge hSe b2 st2 hx2 hqA n2 rfl h0 (by unfold q2z; rw [if_neg (by rw [h0]; simp)]) (by omega) (by omega)
  ·have hnp:0 < (enc s.2).length:=qm7 h0 []
   have c2:decide ((0:Int) < ((enc s.2).length:Int))=true:=decide_eq_true (by omega)
   simp only [c2,wd, wa]
   refine qj (w q7 (by simp)) b2.b7 rfl ?_
   have hebl:=q7g (q22 s.2) x
   have e7:IntKind.i64.wrap (((enc s.2).length:Int) + ((eb (q22 s.2) x).length:Int))=(((enc s.2).length + (eb (q22 s.2) x).length:Nat):Int):=by rw [IntWalk.i64_in _ (by omega)]; simp
   simp only [b2.gn.sl.lenv,ge.sl.lenv,wd, wa,e7]
   by_cases hbig:block < (enc s.2).length + (eb (q22 s.2) x).length
   ·have c3:decide ((block:Int) < (((enc s.2).length + (eb (q22 s.2) x).length:Nat):Int))=true:=decide_eq_true (by omega)
    simp only [c3,wd, wa]
    have hst:q2z block s x=(s.1++[s.2],[]++[x]):=by unfold q2z; rw [if_pos ⟨h0,hbig⟩]; rfl
    have hspne:enc s.2≠[]→spx s≠[]:=λ _=>by unfold spx; rw [if_neg h0]; simp
    refine q4o (by kernel_rfl) (qya b2 hspne (by omega) (by omega) (by omega)) λ r h3 ⟨vo3,So3,b3,s3⟩ f3=>?_
    rw [qzu,qzl] at b3
    have hgal:q4v s=s.1++[s.2]:=by unfold q4v; rw [if_neg h0]
    rw [hgal] at b3
    have hx3:h3.blk qx=some (ee x):=by rw [(s3.keep _ n2 hqA).1]; exact hx2
    have n3:qx < h3.next:=Nat.lt_of_lt_of_le n2 s3.1
    have hq3:qx∉q1c q6 q7 q8 q9 So3 [] Ss:=λ e=>by
     rcases (s3.own _ e).2 with q | q
     ·exact hqA q
     ·omega
    refine q16 fb hx3 rfl ?_
    have es:=q75
    rw [es]
    refine qq (qwl [] x (by simp) hxr) λ ev4 h4 ⟨Se4,ge4,s4⟩ f4=>?_
    have b4:=b3.frame s4 (by simp)
    have hx4:h4.blk qx=some (ee x):=by rw [(s4.keep _ n3 (by simp)).1]; exact hx3
    have n4:qx < h4.next:=Nat.lt_of_lt_of_le n3 s4.1
    have st4:Step hh h4 T0 (q1c q6 q7 q8 q9 So3 [] Ss):=(st2.trans s3).trans ((s4.less (T:=[]) (by simp)).keepS b3.lts)
    have hSe4:∀ c,c∈Se4→c∉q1c q6 q7 q8 q9 So3 [] Ss:=λ c hc hcA=>by
     have:=b3.lts c hcA
     rcases (s4.own c hc).2 with e | e
     ·simp at e
     ·omega
    have w4:=λ q hq=>(b4.w q hq).1
    refine qj (w4 q7 (by simp)) b4.b7 rfl ?_
    have c4:(((([]:List UInt8).length:Nat):Int) == 0)=true:=rfl
    simp only [b4.gn.sl.lenv,c4,wd, wa,e6,← es]
    have hz2:(q07 (s.1++[s.2])).length≤1000000000:=by rw [q4m,List.length_append,q71]; omega
    exact begin_ h4 (s.1++[s.2],[]) [] ev4 Se4 vo3 _ vs So3 [] Ss _ ge4 hSe4 b4 st4 hx4 hq3 n4 rfl rfl hst (by rw [q9h]; simp; omega) hz2
   ·have c3:decide ((block:Int) < (((enc s.2).length + (eb (q22 s.2) x).length:Nat):Int))=false:=decide_eq_false (by omega)
    simp only [c3,wd, wa]
    refine qj (w q7 (by simp)) b2.b7 rfl ?_
    have c4:(((enc s.2).length:Int) == 0)=false:=by rw [beq_eq_false_iff_ne]; omega
    simp only [b2.gn.sl.lenv,c4,wd, wa,e6]
    have hst:q2z block s x=(s.1,s.2++[x]):=by unfold q2z; rw [if_neg (λ q=>hbig q.2)]
    refine rest h2 s _ ev Se _ vo vn vs So Sn Ss _ ge hSe b2 st2 hx2 hqA n2 rfl (by omega) hst ?_
    unfold spx
    rw [if_neg h0,if_neg (by simp),qxc h0]
theorem q0fp {v:Value} {l:List Ent} {block:Nat} {h:Hp} (hv:Es w0 h v l) (hr:∀ x,x∈l→q0e x=true) (hl:l.length≤2000000) (hb:block≤4096):
  qf prog w0 qki [v,.int .i64 (block:Int)] h λ r h'=>∃ vo vs So Ss,r=.tuple #[vo,vs]∧Vec w0 h' 1 vo (q07 (grp block l)).length (bvs (q07 (grp block l))) So∧Vec w0 h' 3 vs (grp block l).length ((spn 0 (grp block l)).flatMap se) Ss∧(∀ b,b∈Ss→b∉So)∧Step h h' [] (So++Ss):=by
 refine qf.of_fit (by simpa using hv.junk) λ f=>q0do (by simpa using hv.junk) ?_
 simp only [qkk,q2t]
 have fb:=f.base
 obtain ⟨h4,hh4⟩:∃ h4,h4=(((h.new [.slice none 0 0] 1).new [.slice none 0 0] 1).new [.slice none 0 0] 1).new [.string .empty] 1:=⟨_,rfl⟩
 have n4:h4.next=h.next + 4:=by rw [hh4]; rfl
 have t6:h4.blk h.next=some [.slice none 0 0]:=by rw [hh4]; simp only [q3a,qci]; rw [if_neg (by omega),if_neg (by omega),if_neg (by omega)]; simp
 have t7:h4.blk (h.next + 1)=some [.slice none 0 0]:=by rw [hh4]; simp only [q3a,qci]; rw [if_neg (by omega),if_neg (by omega)]; simp
 have t8:h4.blk (h.next + 2)=some [.slice none 0 0]:=by rw [hh4]; simp only [q3a,qci]; rw [if_neg (by omega)]; simp
 have t9:h4.blk (h.next + 3)=some [.string .empty]:=by rw [hh4]; simp only [q3a,qci]; simp
 have st4:Step h h4 [] [h.next,h.next + 1,h.next + 2,h.next + 3]:=by
  have:Step h h4 [] []:=by rw [hh4]; exact (((((Step.refl h [] (by simp)).new _ _).new _ _).new _ _).new _ _).less (by simp)
  exact this.claim (by simp; omega)
 refine ⟨by simp [qv],by simp [qv],by simp [qv],by simp [qv],?_⟩
 have u1:(h.new [.slice none 0 0] 1).next=h.next + 1:=rfl
 have u2:((h.new [.slice none 0 0] 1).new [.slice none 0 0] 1).next=h.next + 2:=rfl
 have u3:(((h.new [.slice none 0 0] 1).new [.slice none 0 0] 1).new [.slice none 0 0] 1).next=h.next + 3:=rfl
 rw [u3,u2,u1]
 clear u1 u2 u3
 show q0q w0 (.pointer (some ⟨h.next + 3,0,none⟩)) _ _ (((( h.new [.slice none 0 0] 1).new [.slice none 0 0] 1).new [.slice none 0 0] 1).new [.string .empty] 1)
 rw [← hh4]
 refine q21 (by omega) t9 (by simp) rfl ?_
 simp only [List.set_cons_zero]
 have f4':Fit w0 h4:=by rw [hh4]; exact (((f.new (by simp [qv])).new (by simp [qv])).new (by simp [qv])).new (by simp [qv])
 rw [qyr f4' (by omega) t9]
 clear hh4
 generalize hq:h.next=q at *
 have b4:BLx w0 h4 q (q + 1) (q + 2) (q + 3) [] [] [] [] (.slice none 0 0) (.slice none 0 0) (.slice none 0 0) [] [] []:=
  ⟨t6,t7,t8,t9,by simp; omega,by omega,.nil,.nil,.nil,by simp,by simp,by simp,by simp⟩
 refine ⟨by simp [junk],?_⟩
 have v4:Es w0 h4 v l:=hv.step f st4 (by simp)
 simp only [v4.lenv,wd, wa]
 refine ⟨l.length + 1,q0fs (hh:=h) (T0:=[]) (q6:=q) (q7:=q + 1) (q8:=q + 2) (q9:=q + 3) hv f hr hl hb (by simp) (λ h5 vo vn vs So Sn Ss b5 st5=>?_) l [] h4 _ _ _ [] [] [] rfl b4 (by simpa using st4)⟩
 obtain ⟨z1,z2,z3⟩:=qm9 block l
 have hsz:q0f l≤132 * l.length:=by
  have:∀ l:List Ent,(∀ x,x∈l→q0e x=true)→q0f l≤132 * l.length:=by
   intro l
   induction l with
   | nil=>intro _; simp [q0f]
   | cons y l ih=>
    intro h
    have h1:=ih λ z hz=>h z (by simp [hz])
    have:=(q48 y).1 (h y (by simp))
    rw [q47,List.length_cons]
    omega
  exact this l hr
 refine q4o (by kernel_rfl) (qya b5 (λ hne=>?_) (by omega) (by omega) (by omega)) λ r h6 ⟨vo6,So6,b6,s6⟩ f6=>?_
 ·unfold spx
  rw [if_neg (λ e=>hne (qct.2 e))]
  simp
 rw [qzu,qzl] at b6
 refine qj (b6.w q (by simp)).1 b6.b6 rfl ?_
 refine qj (b6.w (q + 2) (by simp)).1 b6.b8 rfl ?_
 simp only [qu,q19]
 refine ⟨by simpa using ⟨b6.go.gv.nj,b6.gs.gv.nj⟩,vo6,vs,So6,Ss,rfl,b6.go,?_,b6.d2,(st5.trans s6).less (λ b hb=>?_)⟩
 ·have:=b6.gs
  rw [q9h] at this
  exact this
 ·simp only [List.mem_append] at hb ⊢
  rcases hb with e | e
  ·exact .inr (.inl e)
  ·exact .inr (.inr (.inr e))
end
def spb (p:Spn):List UInt8:=vi p.1.length++p.1++(vi p.2.1++vi p.2.2)
theorem qgx:∀ (G:List (List Ent)) (a:Nat),idx a G=(spn a G).flatMap spb
 | [],a=>rfl
 | es :: G,a=>by rw [idx,spn,List.flatMap_cons,qgx G]; rfl
def okS (p:Spn):Prop:=p.1.length≤64∧p.2.1 < 1000000000000∧p.2.2 < 1000000000000
theorem q0m9 {p:Spn} (h:okS p):(spb p).length≤94:=by
 have v1:=q2j (n:=p.1.length) (by have:=h.1; omega)
 have v2:=q2j (n:=p.2.1) (by have:=h.2.1; omega)
 have v3:=q2j (n:=p.2.2) (by have:=h.2.2; omega)
 have:=h.1
 simp [spb]
 omega
theorem qgl:∀ (l:List Spn),(∀ p,p∈l→okS p)→(l.flatMap spb).length≤94 * l.length
 | [],_=>by simp
 | p :: l,h=>by
  have h1:=qgl l λ q hq=>h q (by simp [hq])
  have h2:=q0m9 (h p (by simp))
  rw [List.flatMap_cons,List.length_append,List.length_cons]
  omega
theorem qh0:∀ (G:List (List Ent)) (a:Nat),(∀ g,g∈G→∀ x,x∈g→q0e x=true)→a + (q07 G).length < 1000000000000→∀ p,p∈spn a G→okS p
 | [],a,_,_,p,hp=>by simp [spn] at hp
 | es :: G,a,hr,ha,p,hp=>by
  rw [show es :: G=[es]++G from rfl,q4m,List.length_append,q71] at ha
  rw [spn] at hp
  rcases List.mem_cons.1 hp with rfl | hp
  ·refine ⟨?_,by simp only; omega,by simp only; omega⟩
   cases es with
   | nil=>simp [q1p]
   | cons x l=>exact ((q48 x).1 (hr (x :: l) (by simp) x (by simp))).2.1
  ·exact qh0 G _ (λ g hg=>hr g (by simp [hg])) (by omega) p hp
theorem q0nm {l:List Spn} {i:Nat} {x:Spn} (h:l[i]?=some x):((l.flatMap se).drop (i * 3)).take 3=se x:=by
 have:=q2l qmt [] h
 rwa [List.append_nil] at this
theorem q0m5 (l:List Nat):(l.flatMap (be 4)).length=l.length * 4:=by
 induction l with
 | nil=>rfl
 | cons n l ih=>rw [List.flatMap_cons,List.length_append,ih,q6c,List.length_cons]; omega
section
variable {w0:World} {h h':Hp}
theorem Wr.refl' {p:Nat} {st:WS} {S:List Nat} (w:Wr w0 h p st S):Step h h S S:=.refl _ _ λ b hb=>(w.lt b hb).2
theorem q0er {k0:Value→Value→Value→Value→Value→Hp→Prop} {v x0 x1 x7:Value} {sl:List Spn} {p:Nat} {hh:Hp} {T0:List Nat} (hv:Sl w0 hh 3 v sl.length (sl.flatMap se)) (fh:Fit w0 hh) (hT0:∀ b,b∈q0z v→b∉T0) (hok:∀ q,q∈sl→okS q) (hl:sl.length≤2000000)
  (hk:∀ h' S,Fit w0 h'→Wr w0 h' p ⟨1073741824,sl.flatMap spb,false⟩ S→Step hh h' T0 S→k0 x0 x1 x7 v (ptr p) h'):∀ (post pre:List Spn) (h1:Hp) (S:List Nat),pre++post=sl→Fit w0 h1→Wr w0 h1 p ⟨1073741824,pre.flatMap spb,false⟩ S→Step hh h1 T0 S→
   q8w prog w0 k0 (post.length + 1) x0 x1 x7 v (ptr p) v (.int .i64 (sl.length:Int)) (.int .i64 (pre.length:Int)) h1:=by
 intro post
 induction post with
 | nil=>
  intro pre h1 S he f1 w st
  have hpre:pre=sl:=by simpa using he
  subst hpre
  rw [List.length_nil,q8w]
  simp only [qfo,wd, wa,Int.lt_irrefl,decide_false]
  exact hk h1 S f1 w st
 | cons x post ih=>
  intro pre h1 S he f1 w st
  have hlen:pre.length + (post.length + 1)=sl.length:=by rw [← he]; simp
  have hg:sl[pre.length]?=some x:=by rw [← he]; simp
  have hxo:=hok x (List.mem_of_getElem? hg)
  have hpl:=qgl pre λ q hq=>hok q (by rw [← he]; simp [hq])
  have c1:decide ((pre.length:Int) < (sl.length:Int))=true:=decide_eq_true (by omega)
  have e6:=wrS pre x (by omega)
  have vs:=hv.step fh st hT0
  have fb:=f1.base
  obtain ⟨o1,o2,o3⟩:=hxo
  rw [List.length_cons,q8w]
  simp only [qfo,wd, wa,c1]
  refine vs.elem (by omega) (q0nm hg) ?_
  refine q2f fb rfl rfl (by simp [qv]) ?_
  have sx:Step h1 (h1.new (se x) 3) [] [h1.next]:=(Step.refl h1 [] (by simp)).new _ _
  have hx:(h1.new (se x) 3).blk h1.next=some (se x):=by simp
  have stx:Step hh (h1.new (se x) 3) T0 S:=st.trans ((sx.less (T:=[]) (by simp)).keepS λ b hb=>(w.lt b hb).2)
  have wx:=w.frame sx (by simp)
  have nx:h1.next < (h1.new (se x) 3).next:=by simp
  have hqS:h1.next∉S:=λ e=>by have:=(w.lt _ e).2; omega
  generalize h1.next=qx at *
  generalize h1.new (se x) 3=hx1 at *
  simp only [wd, wa]
  refine qj fb hx rfl ?_
  have v1:=q2j (n:=x.1.length) (by omega)
  have v2:=q2j (n:=x.2.1) (by omega)
  have v3:=q2j (n:=x.2.2) (by omega)
  refine qq (q0j0 x.1 (by omega) wx (by simp only; omega)) λ _ h2 ⟨S2,w2,s2⟩ f2=>?_
  rw [q4u (by simp only [List.length_append]; omega)] at w2
  have hx2:h2.blk qx=some (se x):=by rw [(s2.keep _ nx hqS).1]; exact hx
  have n2:=Nat.lt_of_lt_of_le nx s2.1
  have hq2:qx∉S2:=λ e=>by
   rcases (s2.own _ e).2 with q | q
   ·exact hqS q
   ·omega
  refine qj fb hx2 rfl ?_
  have u1:IntKind.u64.wrap ((x.2.1:Nat):Int)=((x.2.1:Nat):Int):=IntWalk.u64_in _ (by omega)
  simp only [wd, wa,u1]
  refine qq (qku x.2.1 (by omega) w2 (by simp only [List.length_append]; omega)) λ _ h3 ⟨S3,w3,s3⟩ f3=>?_
  rw [q4u (by simp only [List.length_append]; omega)] at w3
  have hx3:h3.blk qx=some (se x):=by rw [(s3.keep _ n2 hq2).1]; exact hx2
  refine qj fb hx3 rfl ?_
  have u2:IntKind.u64.wrap ((x.2.2:Nat):Int)=((x.2.2:Nat):Int):=IntWalk.u64_in _ (by omega)
  simp only [wd, wa,u2]
  refine qq (qku x.2.2 (by omega) w3 (by simp only [List.length_append]; omega)) λ _ h4 ⟨S4,w4,s4⟩ f4=>?_
  rw [q4u (by simp only [List.length_append]; omega)] at w4
  simp only [e6]
  have eb:pre.flatMap spb++(vi x.1.length++x.1)++vi x.2.1++vi x.2.2=(pre++[x]).flatMap spb:=by simp [spb]
  rw [eb] at w4
  exact ih (pre++[x]) h4 S4 (by simpa using he) f4 w4 (((stx.trans s2).trans s3).trans s4)
def q5c (l:List Nat):List Value:=l.map λ (n:Nat)=>.int .i64 (n:Int)
theorem q0kr {l:List Nat} {i n:Nat} (h:l[i]?=some n):(q5c l)[i]?=some (.int .i64 (n:Int)):=by simp [q5c,h]
theorem q0fe {k2:Value→Value→Hp→Prop} {v x7:Value} {ns:List Nat} {bs:List UInt8} {p:Nat} {hh:Hp} {T0:List Nat} (hv:Sl w0 hh 1 v ns.length (q5c ns)) (fh:Fit w0 hh) (hT0:∀ b,b∈q0z v→b∉T0) (hok:∀ n,n∈ns→n < 4294967296) (hl:ns.length≤100) (hb:bs.length≤500000000)
  (hk:∀ h' S,Fit w0 h'→Wr w0 h' p ⟨1073741824,bs++ns.flatMap (be 4),false⟩ S→Step hh h' T0 S→k2 x7 (ptr p) h'):∀ (post pre:List Nat) (h1:Hp) (S:List Nat),pre++post=ns→Fit w0 h1→Wr w0 h1 p ⟨1073741824,bs++pre.flatMap (be 4),false⟩ S→Step hh h1 T0 S→
   q90 prog w0 k2 (post.length + 1) x7 (ptr p) v (.int .i64 (ns.length:Int)) (.int .i64 (pre.length:Int)) h1:=by
 intro post
 induction post with
 | nil=>
  intro pre h1 S he f1 w st
  have hpre:pre=ns:=by simpa using he
  subst hpre
  rw [List.length_nil,q90]
  simp only [qfp,wd, wa,Int.lt_irrefl,decide_false]
  exact hk h1 S f1 w st
 | cons x post ih=>
  intro pre h1 S he f1 w st
  have hlen:pre.length + (post.length + 1)=ns.length:=by rw [← he]; simp
  have hg:ns[pre.length]?=some x:=by rw [← he]; simp
  have hxo:=hok x (List.mem_of_getElem? hg)
  have hfl:(pre.flatMap (be 4)).length=pre.length * 4:=by
   have:=q0m5 pre
   exact this
  have c1:decide ((pre.length:Int) < (ns.length:Int))=true:=decide_eq_true (by omega)
  have e6:=wrS pre x (by omega)
  have vs:=hv.step fh st hT0
  rw [List.length_cons,q90]
  simp only [qfp,wd, wa,c1]
  refine vs.one (q0kr hg) ?_
  have u1:IntKind.u32.wrap ((x:Nat):Int)=((x:Nat):Int):=IntWalk.u32_in _ (by omega)
  simp only [wd, wa,u1]
  refine qq (qce x w (by simp only [List.length_append]; omega)) λ _ h2 ⟨S2,w2,s2⟩ f2=>?_
  rw [q4u (by simp only [List.length_append,q6c]; omega)] at w2
  simp only [e6]
  have eb:bs++pre.flatMap (be 4)++be 4 x=bs++(pre++[x]).flatMap (be 4):=by simp
  rw [eb] at w2
  exact ih (pre++[x]) h2 S2 (by simpa using he) f2 w2 (st.trans s2)
def q1r (block:Int) (l:List Ent):Int:=if block < 256∨4096 < block then 1 else if q27 l=true then 0 else 120
def q0i (block:Int) (l:List Ent):List UInt8:=if q1r block l=0 then bld block.toNat l else []
theorem q0mc {block:Int} {l:List Ent} (h:q1r block l=0):256≤block∧block≤4096∧q27 l=true:=by
 unfold q1r at h
 split at h
 ·omega
 ·split at h
  ·rename_i a b; exact ⟨by omega,by omega,b⟩
  ·omega
theorem qxv (l:List Ent) (h:∀ x,x∈l→q0e x=true):q0f l≤132 * l.length:=by
 induction l with
 | nil=>simp [q0f]
 | cons y l ih=>
  have h1:=ih λ z hz=>h z (by simp [hz])
  have:=(q48 y).1 (h y (by simp))
  rw [q47,List.length_cons]
  omega
theorem qmu {block:Nat} {l:List Ent} (h:∀ x,x∈l→q0e x=true) (hl:l.length≤2000000):(q07 (grp block l)).length≤264 * l.length∧(idx 0 (grp block l)).length≤94 * l.length∧(bld block l).length≤358 * l.length + 24:=by
 have hne:∀ g,g∈grp block l→g≠[]:=λ g hg=>qd4 hg
 have h1:=qgp (grp block l) hne
 rw [q5i] at h1
 have h2:=qxv l h
 have h3:=qcr block l
 have hrg:∀ g,g∈grp block l→∀ x,x∈g→q0e x=true:=λ g hg x hx=>h x (by
  have:x∈(grp block l).flatten:=List.mem_flatten.2 ⟨g,hg,hx⟩
  rwa [q5i] at this)
 have h4:=qgl (spn 0 (grp block l)) (qh0 _ 0 hrg (by omega))
 rw [← qgx,q9h] at h4
 have h5:=qae block l
 omega
theorem qwv {v:Value} {l:List Ent} (block:Int) (hv:Es w0 h v l) (hl:l.length≤2000000):
  qf prog w0 qfv [v,.int .i64 block] h λ r h'=>∃ y S',r=.tuple #[y,.int .i64 (q1r block l)]∧Vec w0 h' 1 y (q0i block l).length (bvs (q0i block l)) S'∧Step h h' [] S':=by
 refine qf.of_fit (by simpa using hv.junk) λ f=>q0fn (by simpa using hv.junk) ?_
 have nilR:q1r block l≠0→∀ h1,Step h h1 [] []→∀ e,e=q1r block l→qo [.slice none 0 0,.int .i64 e] (λ r h'=>∃ y S',r=.tuple #[y,.int .i64 (q1r block l)]∧Vec w0 h' 1 y (q0i block l).length (bvs (q0i block l)) S'∧Step h h' [] S') h1:=by
  intro hne h1 st e he
  subst he
  have:q0i block l=[]:=by unfold q0i; rw [if_neg hne]
  rw [this]
  simp only [qu,q19]
  exact ⟨by simp,_,[],rfl,.nil,st⟩
 simp only [qkw]
 by_cases hb1:block < 256
 ·have c1:decide (block < 256)=true:=decide_eq_true hb1
  simp only [c1,wd, wa]
  have he:q1r block l=1:=by unfold q1r; rw [if_pos (.inl hb1)]
  exact nilR (by rw [he]; omega) h (.refl _ _ (by simp)) 1 he.symm
 have c1:decide (block < 256)=false:=decide_eq_false hb1
 simp only [c1,wd, wa]
 by_cases hb2:4096 < block
 ·have c2:decide (4096 < block)=true:=decide_eq_true hb2
  simp only [c2,wd, wa]
  have he:q1r block l=1:=by unfold q1r; rw [if_pos (.inr hb2)]
  exact nilR (by rw [he]; omega) h (.refl _ _ (by simp)) 1 he.symm
 have c2:decide (4096 < block)=false:=decide_eq_false hb2
 simp only [c2,wd, wa]
 obtain ⟨bk,rfl⟩:=Int.eq_ofNat_of_zero_le (show 0≤block by omega)
 refine qq (qvp hv (by omega)) λ r h1 ⟨e,s1⟩ f1=>?_
 subst e
 cases hc:q27 l with
 | false=>
  have he:q1r (bk:Int) l=120:=by unfold q1r; rw [if_neg (by omega),hc]; rfl
  have c3:((120:Int) != 0)=true:=rfl
  simp only [Bool.false_eq_true,if_false,c3,wd, wa]
  exact nilR (by rw [he]; omega) h1 s1 120 he.symm
 | true=>
  have he:q1r (bk:Int) l=0:=by unfold q1r; rw [if_neg (by omega),hc]; rfl
  have hR:q0i (bk:Int) l=bld bk l:=by unfold q0i; rw [if_pos he,Int.toNat_natCast]
  have hr:∀ x,x∈l→q0e x=true:=qc7 hc
  simp only [if_true,bne_self_eq_false,wd, wa]
  obtain ⟨z1,z2,z3⟩:=qmu (block:=bk) hr hl
  have v1:Es w0 h1 v l:=hv.step f s1 (by simp)
  refine qq (q0fp (block:=bk) v1 hr hl (by omega)) λ r h2 ⟨vo,vs,So,Ss,e,go,gs,dj,s2⟩ f2=>?_
  subst e
  have hgl:=qae bk l
  have hrg:∀ g,g∈grp bk l→∀ x,x∈g→q0e x=true:=λ g hg x hx=>hr x (by
   have:x∈(grp bk l).flatten:=List.mem_flatten.2 ⟨g,hg,hx⟩
   rwa [q5i] at this)
  simp only [wd, wa]
  refine qq (qfd 1073741824 (by omega)) λ r h3 ⟨e,w3,s3⟩ f3=>?_
  subst e
  have go3:=go.frame s3 (by simp)
  have gs3:=gs.frame s3 (by simp)
  have hSo2:=λ b hb=>(go.lt b hb).2
  have hSs2:=λ b hb=>(gs.lt b hb).2
  have hp3:∀ b,b∈So++Ss→b∉[h2.next]:=λ b hb e=>by
   simp at e
   subst e
   rcases List.mem_append.1 hb with q | q
   ·have:=hSo2 _ q; omega
   ·have:=hSs2 _ q; omega
  have st3:Step h h3 [] (So++Ss):=(s1.trans s2).trans ((s3.less (T:=[]) (by simp)).keepS λ b hb=>by
   rcases List.mem_append.1 hb with q | q
   ·exact hSo2 _ q
   ·exact hSs2 _ q)
  have hm:max (1073741824:Int) 0=1073741824:=by decide
  rw [hm] at w3
  generalize hpn:h2.next=p at *
  have gsl:Sl w0 h3 3 vs (spn 0 (grp bk l)).length ((spn 0 (grp bk l)).flatMap se):=by rw [q9h]; exact gs3.sl
  simp only [gsl.lenv,wd, wa]
  refine ⟨(spn 0 (grp bk l)).length + 1,q0er (hh:=h3) (T0:=[p]) gsl f3 (λ b hb=>by rw [gs3.sblk_eq] at hb; exact hp3 b (by simp [hb])) (qh0 _ 0 hrg (by omega)) (by rw [q9h]; omega) (λ h4 S4 f4 w4 s4=>?_) (spn 0 (grp bk l)) [] h3 [p] rfl f3 w3 (.refl _ _ (by simpa using (w3.lt p (by simp)).2))⟩
  rw [← qgx] at w4
  have dS4:∀ b,b∈So++Ss→b∉S4:=q6b s4 hp3 (λ b hb=>by
   rcases List.mem_append.1 hb with q | q
   ·exact (go3.lt b q).2
   ·exact (gs3.lt b q).2)
  have go4:=go3.frame s4 λ b hb=>hp3 b (by simp [hb])
  have gs4:=gs3.frame s4 λ b hb=>hp3 b (by simp [hb])
  have hz4:q00 [(.int .i64 0:Value)] 4=[.int .i64 0,.int .i64 0,.int .i64 0,.int .i64 0]:=rfl
  have hls:q05 vs=some (.int .i64 ((grp bk l).length:Int)):=gs4.sl.lenv
  have hlo:q05 vo=some (.int .i64 ((q07 (grp bk l)).length:Int)):=go4.sl.lenv
  simp only [hv.lenv,hls,hlo,wd, wa,q3s,hz4,q28,q1u,List.set_cons_zero,List.set_cons_succ]
  refine ⟨rfl,by simp,rfl,by simp,rfl,by simp,rfl,by simp,?_⟩
  have hcells:[Value.int IntKind.i64 (bk:Int),.int .i64 (l.length:Int),.int .i64 ((grp bk l).length:Int),.int .i64 ((q07 (grp bk l)).length:Int)]=q5c [bk,l.length,(grp bk l).length,(q07 (grp bk l)).length]:=rfl
  rw [hcells]
  have s5:Step h4 (h4.new (q5c [bk,l.length,(grp bk l).length,(q07 (grp bk l)).length]) 1) [] [h4.next]:=(Step.refl h4 [] (by simp)).new _ _
  have f5:Fit w0 (h4.new (q5c [bk,l.length,(grp bk l).length,(q07 (grp bk l)).length]) 1):=f4.new (by simp [q5c,qv])
  have g5:GV w0 (h4.new (q5c [bk,l.length,(grp bk l).length,(q07 (grp bk l)).length]) 1) 1 (.slice (some ⟨h4.next,0,none⟩) 4 4) 4 (q5c [bk,l.length,(grp bk l).length,(q07 (grp bk l)).length]) [h4.next]:=GV.new f4.base rfl (by decide)
  have w5:=w4.frame s5 (by simp)
  have hS4:=λ b hb=>(w4.lt b hb).2
  have go5:=go4.frame s5 (by simp)
  have hSo4:=λ b hb=>(go4.lt b hb).2
  have hq4:∀ b,b∈[h4.next]→b∉S4:=λ b hb e=>by simp at hb; subst hb; have:=hS4 _ e; omega
  generalize hqn:h4.next=q4 at *
  generalize h4.new (q5c [bk,l.length,(grp bk l).length,(q07 (grp bk l)).length]) 1=h5 at *
  have g5l:Sl w0 h5 1 (.slice (some ⟨q4,0,none⟩) 4 4) [bk,l.length,(grp bk l).length,(q07 (grp bk l)).length].length (q5c [bk,l.length,(grp bk l).length,(q07 (grp bk l)).length]):=g5.sl
  refine ⟨5,q0fe (hh:=h5) (T0:=S4) (ns:=[bk,l.length,(grp bk l).length,(q07 (grp bk l)).length]) (bs:=idx 0 (grp bk l)) g5l f5 (by simpa [q0z] using hq4) (by
   intro n hn
   simp at hn
   rcases hn with rfl | rfl | rfl | rfl <;> omega) (by simp) (by omega) (λ h6 S6 f6 w6 s6=>?_) [bk,l.length,(grp bk l).length,(q07 (grp bk l)).length] [] h5 S4 rfl f5 (by simpa using w5) w5.refl'⟩
  have ets:idx 0 (grp bk l)++[bk,l.length,(grp bk l).length,(q07 (grp bk l)).length].flatMap (be 4)=q1q bk l:=by simp [q1q,q3y]
  rw [ets] at w6
  have hft:(q1q bk l).length=(idx 0 (grp bk l)).length + 16:=by simp [q1q,q9d]
  refine qq (qad w6) λ r h7 ⟨e,e'⟩ f7=>?_
  subst e e'
  have ho1:(⟨1073741824,q1q bk l,false⟩:WS).out=q1q bk l:=rfl
  simp only [ho1,wd, wa]
  refine qq (qgf (q1q bk l) (by omega)) λ r h8 ⟨e,e'⟩ f8=>?_
  subst e e'
  refine qq (qce (q14 (q1q bk l)) w6 (by simp only; omega)) λ r h9 ⟨S9,w9,s9⟩ f9=>?_
  rw [q4u (by simp only [q6c]; omega)] at w9
  have hdr:(⟨#[68,82,85,78]⟩:ByteArray)=str q2r:=rfl
  rw [hdr]
  refine qq (qlw q2r (by simp [q2r]) w9 (by simp only [List.length_append,q6c,q2r]; simp; omega)) λ r h10 ⟨S10,w10,s10⟩ f10=>?_
  rw [q4u (by simp only [List.length_append,q6c,q2r]; simp; omega)] at w10
  refine qq (qad w10) λ r h11 ⟨e,e'⟩ f11=>?_
  subst e e'
  have ho2:(⟨1073741824,q1q bk l++be 4 (q14 (q1q bk l))++q2r,false⟩:WS).out=q1q bk l++be 4 (q14 (q1q bk l))++q2r:=rfl
  have ho3:(⟨1073741824,q1q bk l++be 4 (q14 (q1q bk l))++q2r,false⟩:WS).err=0:=rfl
  simp only [ho2,ho3,bne_self_eq_false,wd, wa]
  have st5:Step h5 h11 S4 S10:=(s6.trans s9).trans s10
  have go11:Vec w0 h11 1 vo (q07 (grp bk l)).length (bvs (q07 (grp bk l))) So:=go5.frame st5 λ b hb=>dS4 b (by simp [hb])
  refine q3g (m:=(q1q bk l++be 4 (q14 (q1q bk l))++q2r).length) f11.base go11 (by simp [lenA]) (qau _) (by simp) (by simp [q2r]; omega) (by simp [q2r]; omega) (by omega) λ y h12 S12 g12 s12=>?_
  simp only [qu,q19]
  have eb:bvs (q07 (grp bk l))++bvs (q1q bk l++be 4 (q14 (q1q bk l))++q2r)=bvs (q0i (bk:Int) l):=by rw [hR,← q5g,bld]; simp
  have el:(q07 (grp bk l)).length + (q1q bk l++be 4 (q14 (q1q bk l))++q2r).length=(q0i (bk:Int) l).length:=by rw [hR,bld]; simp
  rw [eb,el] at g12
  refine ⟨by simpa using g12.gv.nj,y,S12,by rw [he],g12,?_⟩
  have q1:Step h h2 [] So:=(s1.trans s2).less λ b hb=>by simp [hb]
  have m3:=s3.more So (λ b hb=>by rw [hpn]; exact hSo2 b hb)
  have m4:=s4.more So λ b hb=>(go3.lt b hb).2
  have m5:Step h4 h5 (S4++So) (S4++So):=(s5.less (T:=[]) (by simp)).keepS λ b hb=>by
   rcases List.mem_append.1 hb with q | q
   ·rw [hqn]; exact hS4 b q
   ·exact (go4.lt b q).2
  have m6:=st5.more So λ b hb=>(go5.lt b hb).2
  have m7:Step h11 h12 (S10++So) S12:=s12.wide (λ b hb=>by simp [hb]) (λ b hb=>.inl hb)
  exact q1.trans (m3.trans (m4.trans (m5.trans (m6.trans m7))))
end
section
variable {w0:World} {h h':Hp}
theorem qw2 (a:Key) (x:Ent) (hr:q0e x=true):qf prog w0 qbm [.agg (ee x).toArray,.string (str a)] h λ r h'=>r=.string (str (eb a x))∧Step h h' [] []:=by
 refine qf.of_fit (by simp) λ f=>q09p (by simp) ?_
 obtain ⟨r1,r2,r3,r4⟩:=(q48 x).1 hr
 obtain ⟨hn2,hn1,hn3⟩:=qh2 a x.k
 have fb:=f.base
 simp only [qtb,q4c]
 have s1:Step h (h.new (ee x) 3) [] []:=((Step.refl h [] (by simp)).new _ _).less (by simp)
 have b1:(h.new (ee x) 3).blk h.next=some (ee x):=by simp
 have f1:Fit w0 (h.new (ee x) 3):=f.new (by simp [ee,qv])
 have n1:h.next < (h.new (ee x) 3).next:=by simp
 show qk _ 0 _ (h.new (ee x) 3)
 generalize h.new (ee x) 3=h1 at *
 simp only [wd, wa]
 refine qj fb b1 rfl ?_
 refine qq (q0d4 x.k a (by omega)) λ r h2 ⟨e,e'⟩ f2=>?_
 rw [qyq] at e
 subst e e'
 have b2:=b1
 have c1:bv (UInt8.ofNat (shd a x.k))=.int .u8 ((shd a x.k:Nat):Int):=by rw [q3r,Nat.mod_eq_of_lt (by omega)]
 have c2:bv (UInt8.ofNat (x.k.length - shd a x.k))=.int .u8 ((x.k.length - shd a x.k:Nat):Int):=by rw [q3r,Nat.mod_eq_of_lt (by omega)]
 have c3:bv (UInt8.ofNat x.v.length)=.int .u8 ((x.v.length:Nat):Int):=by rw [q3r,Nat.mod_eq_of_lt (by omega)]
 have u1:IntKind.u8.wrap ((shd a x.k:Nat):Int)=((shd a x.k:Nat):Int):=IntWalk.u8_in _ (by omega)
 have u2:IntKind.u8.wrap ((x.k.length - shd a x.k:Nat):Int)=((x.k.length - shd a x.k:Nat):Int):=IntWalk.u8_in _ (by omega)
 have u3:IntKind.u8.wrap ((x.v.length:Nat):Int)=((x.v.length:Nat):Int):=IntWalk.u8_in _ (by omega)
 have e5:IntKind.i64.wrap ((x.k.length:Int) - (shd a x.k:Int))=((x.k.length - shd a x.k:Nat):Int):=by rw [IntWalk.i64_in _ (by omega)]; omega
 have hz4:q00 [(.int .u8 0:Value)] 4=[.int .u8 0,.int .u8 0,.int .u8 0,.int .u8 0]:=rfl
 simp only [wd, wa]
 refine qj fb b2 rfl ?_
 cases hg:x.g with
 | true=>
  have c0:bv (q1l x.g)=.int .u8 1:=by rw [hg]; rfl
  simp only [wd, wa,u1]
  refine qj fb b2 rfl ?_
  simp only [wd, wa,e5,u2]
  refine qj fb b2 rfl ?_
  simp only [wd, wa,u3]
  refine qj fb b2 rfl ?_
  simp only [q93 _ _ _ hn1,wd, wa]
  refine qj fb b2 rfl ?_
  simp only [wd, wa,q3s,hz4,q28,q1u,List.set_cons_zero,List.set_cons_succ]
  refine ⟨rfl,by simp,rfl,by simp,rfl,by simp,rfl,by simp,?_⟩
  have hcells:[Value.int IntKind.u8 ((shd a x.k:Nat):Int),.int .u8 ((x.k.length - shd a x.k:Nat):Int),.int .u8 1,.int .u8 (x.v.length:Int)]=bvs [UInt8.ofNat (shd a x.k),UInt8.ofNat (x.k.length - shd a x.k),q1l x.g,UInt8.ofNat x.v.length]:=by
   simp only [qck,qgv,c0,c1,c2,c3]
  rw [hcells]
  have g3:GV w0 (h2.new (bvs [UInt8.ofNat (shd a x.k),UInt8.ofNat (x.k.length - shd a x.k),q1l x.g,UInt8.ofNat x.v.length]) 1) 1 (.slice (some ⟨h2.next,0,none⟩) 4 4) 4 (bvs [UInt8.ofNat (shd a x.k),UInt8.ofNat (x.k.length - shd a x.k),q1l x.g,UInt8.ofNat x.v.length]) [h2.next]:=GV.new f2.base (by simp) (by decide)
  have s3:Step h2 (h2.new (bvs [UInt8.ofNat (shd a x.k),UInt8.ofNat (x.k.length - shd a x.k),q1l x.g,UInt8.ofNat x.v.length]) 1) [] [h2.next]:=(Step.refl h2 [] (by simp)).new _ _
  have b3:(h2.new (bvs [UInt8.ofNat (shd a x.k),UInt8.ofNat (x.k.length - shd a x.k),q1l x.g,UInt8.ofNat x.v.length]) 1).blk h.next=some (ee x):=by rw [(s3.keep _ n1 (by simp)).1]; exact b2
  generalize h2.new (bvs [UInt8.ofNat (shd a x.k),UInt8.ofNat (x.k.length - shd a x.k),q1l x.g,UInt8.ofNat x.v.length]) 1=h3 at *
  simp only [q3o,q3z,q32,q4n]
  refine ⟨⟨qj fb b3 rfl rfl,qj fb b3 rfl rfl⟩,?_⟩
  refine q7d g3.src ?_
  have hdl:(x.k.drop (shd a x.k)).length=x.k.length - shd a x.k:=by simp
  have a1:qd .add (.string (str [UInt8.ofNat (shd a x.k),UInt8.ofNat (x.k.length - shd a x.k),q1l x.g,UInt8.ofNat x.v.length])) (.string (str (x.k.drop (shd a x.k))))=some (.string (str ([UInt8.ofNat (shd a x.k),UInt8.ofNat (x.k.length - shd a x.k),q1l x.g,UInt8.ofNat x.v.length]++x.k.drop (shd a x.k)))):=by
   rw [q36 _ _ (by rw [q1v,q1v,hdl]; simp; omega),q35]
  have a2:qd .add (.string (str ([UInt8.ofNat (shd a x.k),UInt8.ofNat (x.k.length - shd a x.k),q1l x.g,UInt8.ofNat x.v.length]++x.k.drop (shd a x.k)))) (.string (str x.v))=some (.string (str (eb a x))):=by
   rw [q36 _ _ (by rw [q1v,q1v,List.length_append,hdl]; simp; omega),q35,eb,List.append_assoc]
  simp only [a1,a2,wd, wa,qu,q06]
  exact ⟨by simp,trivial,s1.trans (s3.less (by simp))⟩
 | false=>
  have c0:bv (q1l x.g)=.int .u8 0:=by rw [hg]; rfl
  simp only [wd, wa,u1]
  refine qj fb b2 rfl ?_
  simp only [wd, wa,e5,u2]
  refine qj fb b2 rfl ?_
  simp only [wd, wa,u3]
  refine qj fb b2 rfl ?_
  simp only [q93 _ _ _ hn1,wd, wa]
  refine qj fb b2 rfl ?_
  simp only [wd, wa,q3s,hz4,q28,q1u,List.set_cons_zero,List.set_cons_succ]
  refine ⟨rfl,by simp,rfl,by simp,rfl,by simp,rfl,by simp,?_⟩
  have hcells:[Value.int IntKind.u8 ((shd a x.k:Nat):Int),.int .u8 ((x.k.length - shd a x.k:Nat):Int),.int .u8 0,.int .u8 (x.v.length:Int)]=bvs [UInt8.ofNat (shd a x.k),UInt8.ofNat (x.k.length - shd a x.k),q1l x.g,UInt8.ofNat x.v.length]:=by
   simp only [qck,qgv,c0,c1,c2,c3]
  rw [hcells]
  have g3:GV w0 (h2.new (bvs [UInt8.ofNat (shd a x.k),UInt8.ofNat (x.k.length - shd a x.k),q1l x.g,UInt8.ofNat x.v.length]) 1) 1 (.slice (some ⟨h2.next,0,none⟩) 4 4) 4 (bvs [UInt8.ofNat (shd a x.k),UInt8.ofNat (x.k.length - shd a x.k),q1l x.g,UInt8.ofNat x.v.length]) [h2.next]:=GV.new f2.base (by simp) (by decide)
  have s3:Step h2 (h2.new (bvs [UInt8.ofNat (shd a x.k),UInt8.ofNat (x.k.length - shd a x.k),q1l x.g,UInt8.ofNat x.v.length]) 1) [] [h2.next]:=(Step.refl h2 [] (by simp)).new _ _
  have b3:(h2.new (bvs [UInt8.ofNat (shd a x.k),UInt8.ofNat (x.k.length - shd a x.k),q1l x.g,UInt8.ofNat x.v.length]) 1).blk h.next=some (ee x):=by rw [(s3.keep _ n1 (by simp)).1]; exact b2
  generalize h2.new (bvs [UInt8.ofNat (shd a x.k),UInt8.ofNat (x.k.length - shd a x.k),q1l x.g,UInt8.ofNat x.v.length]) 1=h3 at *
  simp only [q3o,q3z,q32,q4n]
  refine ⟨⟨qj fb b3 rfl rfl,qj fb b3 rfl rfl⟩,?_⟩
  refine q7d g3.src ?_
  have hdl:(x.k.drop (shd a x.k)).length=x.k.length - shd a x.k:=by simp
  have a1:qd .add (.string (str [UInt8.ofNat (shd a x.k),UInt8.ofNat (x.k.length - shd a x.k),q1l x.g,UInt8.ofNat x.v.length])) (.string (str (x.k.drop (shd a x.k))))=some (.string (str ([UInt8.ofNat (shd a x.k),UInt8.ofNat (x.k.length - shd a x.k),q1l x.g,UInt8.ofNat x.v.length]++x.k.drop (shd a x.k)))):=by
   rw [q36 _ _ (by rw [q1v,q1v,hdl]; simp; omega),q35]
  have a2:qd .add (.string (str ([UInt8.ofNat (shd a x.k),UInt8.ofNat (x.k.length - shd a x.k),q1l x.g,UInt8.ofNat x.v.length]++x.k.drop (shd a x.k)))) (.string (str x.v))=some (.string (str (eb a x))):=by
   rw [q36 _ _ (by rw [q1v,q1v,List.length_append,hdl]; simp; omega),q35,eb,List.append_assoc]
  simp only [a1,a2,wd, wa,qu,q06]
  exact ⟨by simp,trivial,s1.trans (s3.less (by simp))⟩
end
def svl (l:List (List UInt8)):List Value:=l.map λ t=>.string (str t)
theorem q0mu (l:List (List UInt8)):(svl l).length=l.length:=by simp [svl]
theorem qgr {l:List (List UInt8)} {i:Nat} {t:List UInt8} (h:l[i]?=some t):(svl l)[i]?=some (.string (str t)):=by simp [svl,h]
theorem qyf (l:List (List UInt8)) (t:List UInt8):svl (l++[t])=svl l++[.string (str t)]:=by simp [svl]
theorem q0n5 (l:List (List UInt8)) (i:Nat) (t:List UInt8):(svl l).set i (.string (str t))=svl (l.set i t):=by simp [svl,List.map_set]
theorem q0kn (block:Nat) (s:List (List Ent) × List Ent) (x:Ent):(q2z block s x).2≠[]:=by
 unfold q2z
 split <;> simp
theorem q0if {block:Nat} {l:List Ent} (h:l≠[]):(q0l block l).2≠[]:=by
 rcases List.eq_nil_or_concat l with e | ⟨a,b,e⟩
 ·exact absurd e h
 ·rw [e,List.concat_eq_append,qlj]
  exact q0kn _ _ _
section
variable {w0:World} {h h':Hp}
theorem q0e7 {k0:Value→Value→Hp→Prop} {v:Value} {l:List Ent} {block:Nat} {hh:Hp} (hv:Es w0 hh v l) (fh:Fit w0 hh) (hr:∀ x,x∈l→q0e x=true) (hl:l.length≤2000000) (hb:block≤4096)
  (hk:∀ h' x4 x5 S4 S5,Vec w0 h' 1 x4 (grp block l).length (svl ((grp block l).map enc)) S4→Vec w0 h' 1 x5 (grp block l).length (svl ((grp block l).map q1p)) S5→(∀ b,b∈S5→b∉S4)→Step hh h' [] (S4++S5)→k0 x4 x5 h'):
  ∀ (post pre:List Ent) (h1:Hp) (x4 x5:Value) (S4 S5:List Nat),pre++post=l→Vec w0 h1 1 x4 (grp block pre).length (svl ((grp block pre).map enc)) S4→Vec w0 h1 1 x5 (grp block pre).length (svl ((grp block pre).map q1p)) S5→(∀ b,b∈S5→b∉S4)→Step hh h1 [] (S4++S5)→
   q6t prog w0 k0 (post.length + 1) (.int .i64 (block:Int)) x4 x5 (.string (str (q22 (q0l block pre).2))) v (.int .i64 (l.length:Int)) (.int .i64 (pre.length:Int)) h1:=by
 intro post
 induction post with
 | nil=>
  intro pre h1 x4 x5 S4 S5 he g4 g5 dj st
  have hpre:pre=l:=by simpa using he
  subst hpre
  rw [List.length_nil,q6t]
  simp only [qeh,wd, wa,Int.lt_irrefl,decide_false]
  exact hk h1 x4 x5 S4 S5 g4 g5 dj st
 | cons x post ih=>
  intro pre h1 x4 x5 S4 S5 he g4 g5 dj st
  have hlen:pre.length + (post.length + 1)=l.length:=by rw [← he]; simp
  have hg:l[pre.length]?=some x:=by rw [← he]; simp
  have hxr:q0e x=true:=hr x (List.mem_of_getElem? hg)
  have hprer:∀ y,y∈pre→q0e y=true:=λ y hy=>hr y (by rw [← he]; simp [hy])
  have c1:decide ((pre.length:Int) < (l.length:Int))=true:=decide_eq_true (by omega)
  have e6:=wrS pre x (by omega)
  obtain ⟨z1,z2,z3⟩:=qm9 block pre
  have hsz:=qxv pre hprer
  have hsn:=qlj block pre x
  have hgl:=qae block pre
  have vs1:Es w0 h1 v l:=hv.step fh st (by simp)
  have fb:=st.base fh.base
  have hS4:=λ b hb=>(g4.lt b hb).2
  have hS5:=λ b hb=>(g5.lt b hb).2
  have hS45:∀ b,b∈S4++S5→b < h1.next:=λ b hb=>by
   rcases List.mem_append.1 hb with e | e
   ·exact hS4 b e
   ·exact hS5 b e
  rw [List.length_cons,q6t]
  simp only [qeh,wd, wa,c1]
  refine vs1.elem (by omega) (q3u hg) ?_
  refine q2f fb rfl rfl (by simp [qv]) ?_
  have sx:Step h1 (h1.new (ee x) 3) [] []:=((Step.refl h1 [] (by simp)).new _ _).less (by simp)
  have hx:(h1.new (ee x) 3).blk h1.next=some (ee x):=by simp
  have stx:=st.trans (sx.keepS hS45)
  have g4x:=g4.frame sx (by simp)
  have g5x:=g5.frame sx (by simp)
  have nx:h1.next < (h1.new (ee x) 3).next:=by simp
  have hqx:∀ q,q∈S4++S5→q≠h1.next:=λ q hq=>by have:=hS45 q hq; omega
  generalize h1.next=qx at *
  generalize h1.new (ee x) 3=hx1 at *
  simp only [wd, wa]
  refine q16 fb hx rfl ?_
  refine qq (qw2 (q22 (q0l block pre).2) x hxr) λ r h2 ⟨e,s2⟩ f2=>?_
  subst e
  have g42:=g4x.frame s2 (by simp)
  have g52:=g5x.frame s2 (by simp)
  have hx2:h2.blk qx=some (ee x):=by rw [(s2.keep _ nx (by simp)).1]; exact hx
  have n2:qx < h2.next:=Nat.lt_of_lt_of_le nx s2.1
  have hS42:=λ b hb=>(g42.lt b hb).2
  have hS52:=λ b hb=>(g52.lt b hb).2
  have hS452:∀ b,b∈S4++S5→b < h2.next:=λ b hb=>by
   rcases List.mem_append.1 hb with e | e
   ·exact hS42 b e
   ·exact hS52 b e
  have st2:Step hh h2 [] (S4++S5):=stx.trans (s2.keepS λ b hb=>by
   rcases List.mem_append.1 hb with e | e
   ·exact (g4x.lt b e).2
   ·exact (g5x.lt b e).2)
  have hebl:=q7g (q22 (q0l block pre).2) x
  obtain ⟨r1,r2,r3,r4⟩:=(q48 x).1 hxr
  have fresh:grp block (pre++[x])=grp block pre++[[x]]→(q0l block (pre++[x])).2=[x]→qw w0 (.pointer (some ⟨qx,0,none⟩)) 3 (λ v38=>qi prog w0 qbm [v38,.string .empty] λ v39=>
    q0j [(0,1,false,v39)] (q00 [.string .empty] 1) 1 1 λ v40=>q0h w0 1 16 x4 v40 λ v41=>qg w0 (.pointer (some ⟨qx,0,none⟩)) λ v44=>
    q0j [(0,1,false,v44)] (q00 [.string .empty] 1) 1 1 λ v45=>q0h w0 1 16 x5 v45 λ v46=>qg w0 (.pointer (some ⟨qx,0,none⟩)) λ v56=>
    q6t prog w0 k0 (post.length + 1) (.int .i64 (block:Int)) v41 v46 v56 v (.int .i64 (l.length:Int)) (.int .i64 (((pre++[x]).length:Nat):Int))) h2:=by
   intro hgr hg2
   refine q16 fb hx2 rfl ?_
   rw [q75]
   refine qq (qw2 [] x hxr) λ r h3 ⟨e,s3⟩ f3=>?_
   subst e
   have g43:=g42.frame s3 (by simp)
   have g53:=g52.frame s3 (by simp)
   have hx3:h3.blk qx=some (ee x):=by rw [(s3.keep _ n2 (by simp)).1]; exact hx2
   have n3:=Nat.lt_of_lt_of_le n2 s3.1
   have hq4:qx∉S4:=λ e=>hqx qx (by simp [e]) rfl
   have hq5:qx∉S5:=λ e=>hqx qx (by simp [e]) rfl
   refine q79 f3.base g43.gv rfl (by omega) (by omega) λ x4' h4 S4' g44 s4=>?_
   have g54:=g53.frame s4 dj
   have hx4:h4.blk qx=some (ee x):=by rw [(s4.keep _ n3 hq4).1]; exact hx3
   have n4:=Nat.lt_of_lt_of_le n3 s4.1
   have dj4:∀ b,b∈S5→b∉S4':=q6b s4 dj (λ b hb=>(g53.lt b hb).2)
   refine qj fb hx4 rfl ?_
   refine q79 (s4.base f3.base) g54.gv rfl (by omega) (by omega) λ x5' h5 S5' g55 s5=>?_
   have g45:=g44.frame s5 λ b hb e=>dj4 b e hb
   have hx5:h5.blk qx=some (ee x):=by rw [(s5.keep _ n4 hq5).1]; exact hx4
   refine qj fb hx5 rfl ?_
   have dj5:∀ b,b∈S5'→b∉S4':=λ b hb e4=>by
    rcases (s5.own b hb).2 with e | e
    ·exact dj4 b e e4
    ·have:=(g44.lt b e4).2; omega
   have e1:enc [x]=eb [] x:=by show q23 [] [x]=_; rw [q23,q23,List.append_nil]
   have k1:svl ((grp block pre).map enc)++[.string (str (eb [] x))]=svl ((grp block (pre++[x])).map enc):=by rw [hgr,← qyf,List.map_append]; simp [e1]
   have k2:svl ((grp block pre).map q1p)++[.string (str x.k)]=svl ((grp block (pre++[x])).map q1p):=by rw [hgr,← qyf,List.map_append]; rfl
   have k3:(grp block pre).length + 1=(grp block (pre++[x])).length:=by rw [hgr]; simp
   rw [k1,k3] at g45
   rw [k2,k3] at g55
   have:=ih (pre++[x]) h5 x4' x5' S4' S5' (by simpa using he) g45 g55 dj5 ?_
   ·have hlk:q22 (q0l block (pre++[x])).2=x.k:=by rw [hg2]; rfl
    rw [hlk] at this
    exact this
   ·have m1:Step hh h3 [] (S4++S5):=st2.trans (s3.keepS hS452)
    have m2:=s4.more S5 λ b hb=>(g53.lt b hb).2
    have m3:Step h4 h5 (S4'++S5) (S4'++S5'):=s5.wide (λ b hb=>by simp [hb]) (λ b hb=>by
     rcases List.mem_append.1 hb with e | e
     ·exact .inr ⟨by simp [e],(g44.lt b e).2⟩
     ·exact .inl e)
    exact m1.trans (m2.trans m3)
  have hl4:q05 x4=some (.int .i64 ((grp block pre).length:Int)):=g42.sl.lenv
  simp only [hl4,wd, wa]
  by_cases hp0:pre=[]
  ·have hG0:grp block pre=[]:=by rw [hp0]; rfl
   have c2:(((grp block pre).length:Int) == 0)=true:=by rw [hG0]; rfl
   have hgr:grp block (pre++[x])=grp block pre++[[x]]:=by rw [hp0]; rfl
   simp only [c2,wd, wa,e6]
   exact fresh hgr (by rw [hp0]; rfl)
  ·have h2ne:=q0if (block:=block) hp0
   have hG:grp block pre=(q0l block pre).1++[(q0l block pre).2]:=by unfold grp q4v; rw [if_neg h2ne]
   have hGl:(grp block pre).length=(q0l block pre).1.length + 1:=by rw [hG]; simp
   have c2:(((grp block pre).length:Int) == 0)=false:=by rw [beq_eq_false_iff_ne]; omega
   have e5:IntKind.i64.wrap (((grp block pre).length:Int) - 1)=((q0l block pre).1.length:Int):=by rw [IntWalk.i64_in _ (by omega)]; omega
   have hlast:((grp block pre).map enc)[(q0l block pre).1.length]?=some (enc (q0l block pre).2):=by rw [hG]; simp
   simp only [c2,wd, wa,e5]
   refine g42.sl.one (qgr hlast) ?_
   have e7:IntKind.i64.wrap (((enc (q0l block pre).2).length:Int) + ((eb (q22 (q0l block pre).2) x).length:Int))=(((enc (q0l block pre).2).length + (eb (q22 (q0l block pre).2) x).length:Nat):Int):=by rw [IntWalk.i64_in _ (by omega)]; simp
   simp only [wd, wa,e7]
   by_cases hbig:block < (enc (q0l block pre).2).length + (eb (q22 (q0l block pre).2) x).length
   ·have c3:decide ((block:Int) < (((enc (q0l block pre).2).length + (eb (q22 (q0l block pre).2) x).length:Nat):Int))=true:=decide_eq_true (by omega)
    have hst:q0l block (pre++[x])=((q0l block pre).1++[(q0l block pre).2],[x]):=by rw [hsn]; unfold q2z; rw [if_pos ⟨h2ne,hbig⟩]
    have hgr:grp block (pre++[x])=grp block pre++[[x]]:=by
     rw [hG]
     unfold grp q4v
     rw [hst]
     simp
    simp only [c3,wd, wa,e6]
    exact fresh hgr (by rw [hst])
   ·have c3:decide ((block:Int) < (((enc (q0l block pre).2).length + (eb (q22 (q0l block pre).2) x).length:Nat):Int))=false:=decide_eq_false (by omega)
    have hst:q0l block (pre++[x])=((q0l block pre).1,(q0l block pre).2++[x]):=by rw [hsn]; unfold q2z; rw [if_neg (λ q=>hbig q.2)]
    have hgr:grp block (pre++[x])=(q0l block pre).1++[(q0l block pre).2++[x]]:=by
     unfold grp q4v
     rw [hst,if_neg (by simp)]
    simp only [c3,wd, wa,e5]
    refine g42.sl.one (qgr hlast) ?_
    have a1:qd .add (.string (str (enc (q0l block pre).2))) (.string (str (eb (q22 (q0l block pre).2) x)))=some (.string (str (enc ((q0l block pre).2++[x])))):=by
     rw [q36 _ _ (by rw [q1v,q1v]; omega),q35]
     have:enc ((q0l block pre).2++[x])=enc (q0l block pre).2++eb (q22 (q0l block pre).2) x:=qx2 _ _
     rw [this]
    obtain ⟨q,hq0,hq1,hq2,hq3,hq4,hq5,hq6⟩:∃ q,x4=.slice (some ⟨q,0,none⟩) (grp block pre).length q0b∧S4=[q]∧w0.heap.size≤q∧q < h2.next∧h2.blk q=some (svl ((grp block pre).map enc))∧h2.esz q=1∧(svl ((grp block pre).map enc)).length=(grp block pre).length * 1:=by
     rcases g42 with ⟨-,e,-⟩ | e
     ·omega
     ·exact e
    simp only [a1,wd, wa]
    have hx4':q04 1 x4 (.int .i64 ((q0l block pre).1.length:Int))=q04 1 (.slice (some ⟨q,0,none⟩) (grp block pre).length q0b) (.int .i64 ((q0l block pre).1.length:Int)):=by rw [hq0]
    rw [hx4',qc4]
    refine ⟨by omega,by omega,?_⟩
    simp only [wd, wa,Int.toNat_natCast,Nat.mul_one]
    refine q21 hq2 hq4 (by omega) rfl ?_
    rw [q0n5]
    have kset:((grp block pre).map enc).set (q0l block pre).1.length (enc ((q0l block pre).2++[x]))=(grp block (pre++[x])).map enc:=by
     rw [hgr,hG,List.map_append,List.map_append,List.set_append_right _ _ (by simp)]
     simp
    rw [kset]
    have s3:Step h2 (h2.put q (svl ((grp block (pre++[x])).map enc))) S4 S4:=(Step.refl h2 S4 hS42).put (by rw [hq1]; simp) _
    have hqx':qx≠q:=λ e=>hqx q (by rw [hq1]; simp) e.symm
    have hx3:(h2.put q (svl ((grp block (pre++[x])).map enc))).blk qx=some (ee x):=by rw [q17,if_neg hqx']; exact hx2
    refine qj fb hx3 rfl ?_
    rw [e6]
    have k3:(grp block (pre++[x])).length=(grp block pre).length:=by rw [hgr,hG]; simp
    have kf:(grp block (pre++[x])).map q1p=(grp block pre).map q1p:=by rw [hgr,hG,List.map_append,List.map_append]; simp [qxc h2ne]
    have g43:Vec w0 (h2.put q (svl ((grp block (pre++[x])).map enc))) 1 x4 (grp block (pre++[x])).length (svl ((grp block (pre++[x])).map enc)) S4:=by
     rw [k3]
     exact .inr ⟨q,hq0,hq1,hq2,hq3,by simp,hq5,by rw [q0mu,List.length_map,k3,Nat.mul_one]⟩
    have g53:=g52.frame s3 dj
    rw [← kf,← k3] at g53
    have:=ih (pre++[x]) _ x4 x5 S4 S5 (by simpa using he) g43 g53 dj (st2.trans (s3.more S5 hS52))
    have hlk:q22 (q0l block (pre++[x])).2=x.k:=by rw [hst]; exact qww _ _
    rw [hlk] at this
    exact this
theorem q0ee {v:Value} {l:List Ent} {block:Nat} (hv:Es w0 h v l) (hr:∀ x,x∈l→q0e x=true) (hl:l.length≤2000000) (hb:block≤4096):
  qf prog w0 qj5 [v,.int .i64 (block:Int)] h λ r h'=>∃ x4 x5 S4 S5,r=.tuple #[x4,x5]∧Vec w0 h' 1 x4 (grp block l).length (svl ((grp block l).map enc)) S4∧Vec w0 h' 1 x5 (grp block l).length (svl ((grp block l).map q1p)) S5∧(∀ b,b∈S5→b∉S4)∧Step h h' [] (S4++S5):=by
 refine qf.of_fit (by simpa using hv.junk) λ f=>q08i (by simpa using hv.junk) ?_
 simp only [qj9,hv.lenv,wd, wa,q75]
 refine ⟨l.length + 1,q0e7 hv f hr hl hb (λ h' x4 x5 S4 S5 g4 g5 dj st=>?_) l [] h _ _ [] [] rfl .nil .nil (by simp) (.refl _ _ (by simp))⟩
 simp only [qu,q19]
 exact ⟨by simpa using ⟨g4.gv.nj,g5.gv.nj⟩,x4,x5,S4,S5,rfl,g4,g5,dj,st⟩
end
theorem q40 (a b:List UInt8) (h:a.length + b.length≤9223372036854775807):qd .add (.string (str a)) (.string (str b))=some (.string (str (a++b))):=by
 rw [q36 _ _ (by rw [q1v,q1v]; exact h),q35]
section
variable {w0:World} {h h':Hp}
theorem q0fw {k0:Value→Value→Value→Value→Value→Hp→Prop} {v4 v5 x0 x1:Value} {G:List (List Ent)} {hh:Hp} (hv4:Sl w0 hh 1 v4 G.length (svl (G.map enc))) (hv5:Sl w0 hh 1 v5 G.length (svl (G.map q1p))) (fh:Fit w0 hh) (hG:G.length≤2000000) (hok:∀ p,p∈spn 0 G→okS p) (ho:(q07 G).length≤1000000000)
  (hk:∀ h',Fit w0 h'→Step hh h' [] []→k0 x0 x1 (.string (str (q07 G))) (.string (str (idx 0 G))) v4 h'):∀ (post pre:List (List Ent)) (h1:Hp),pre++post=G→Fit w0 h1→Step hh h1 [] []→
   q8f prog w0 k0 (post.length + 1) x0 x1 (.string (str (q07 pre))) (.string (str (idx 0 pre))) v4 v5 v4 (.int .i64 (G.length:Int)) (.int .i64 (pre.length:Int)) h1:=by
 intro post
 induction post with
 | nil=>
  intro pre h1 he f1 st
  have hpre:pre=G:=by simpa using he
  subst hpre
  rw [List.length_nil,q8f]
  simp only [qeo,wd, wa,Int.lt_irrefl,decide_false]
  exact hk h1 f1 st
 | cons g post ih=>
  intro pre h1 he f1 st
  have hlen:pre.length + (post.length + 1)=G.length:=by rw [← he]; simp
  have hg1:(G.map enc)[pre.length]?=some (enc g):=by rw [← he]; simp
  have hg2:(G.map q1p)[pre.length]?=some (q1p g):=by rw [← he]; simp
  have hspn:spn 0 G=spn 0 pre++((q1p g,(q07 pre).length,(enc g).length) :: spn ((q07 pre).length + (enc g).length + 4) post):=by rw [← he,qlc]; simp [spn]
  have hgo:okS (q1p g,(q07 pre).length,(enc g).length):=hok _ (by rw [hspn]; simp)
  have hpok:∀ p,p∈spn 0 pre→okS p:=λ p hp=>hok p (by rw [hspn]; simp [hp])
  have hil:=qgl (spn 0 pre) hpok
  rw [← qgx,q9h] at hil
  have hol:(q07 G).length=(q07 pre).length + ((enc g).length + 4 + (q07 post).length):=by rw [← he,q4m,List.length_append,show g :: post=[g]++post from rfl,q4m,List.length_append,q71]
  obtain ⟨o1,o2,o3⟩:=hgo
  simp only at o1 o2 o3
  have c1:decide ((pre.length:Int) < (G.length:Int))=true:=decide_eq_true (by omega)
  have e6:=wrS pre g (by omega)
  have v4:=hv4.step fh st (by simp)
  have v5:=hv5.step fh st (by simp)
  rw [List.length_cons,q8f]
  simp only [qeo,wd, wa,c1]
  refine v4.one (qgr hg1) ?_
  refine v5.one (qgr hg2) ?_
  refine qq (q0ha (q1p g) (by omega)) λ r h2 ⟨e,s2⟩ f2=>?_
  subst e
  have u1:IntKind.u64.wrap (((q07 pre).length:Nat):Int)=(((q07 pre).length:Nat):Int):=IntWalk.u64_in _ (by omega)
  simp only [wd, wa,u1]
  refine qq (q8x (q07 pre).length (by omega)) λ r h3 ⟨e,s3⟩ f3=>?_
  subst e
  have w1:=q2j (n:=(q1p g).length) (by omega)
  have w2:=q2j (n:=(q07 pre).length) (by omega)
  have w3:=q2j (n:=(enc g).length) (by omega)
  have u2:IntKind.u64.wrap (((enc g).length:Nat):Int)=(((enc g).length:Nat):Int):=IntWalk.u64_in _ (by omega)
  simp only [q40 _ _ (show (vi (q1p g).length++q1p g).length + (vi (q07 pre).length).length≤9223372036854775807 by simp only [List.length_append]; omega),wd, wa,u2]
  refine qq (q8x (enc g).length (by omega)) λ r h4 ⟨e,s4⟩ f4=>?_
  subst e
  simp only [q40 _ _ (show (vi (q1p g).length++q1p g++vi (q07 pre).length).length + (vi (enc g).length).length≤9223372036854775807 by simp only [List.length_append]; omega),
   q40 _ _ (show (idx 0 pre).length + (vi (q1p g).length++q1p g++vi (q07 pre).length++vi (enc g).length).length≤9223372036854775807 by simp only [List.length_append]; omega),wd, wa]
  refine qq (qg4 (enc g) (by omega)) λ r h5 ⟨e,e'⟩ f5=>?_
  subst e e'
  have hcl:=q78 (enc g)
  have u3:IntKind.u64.wrap ((q14 (enc g):Nat):Int)=((q14 (enc g):Nat):Int):=IntWalk.u64_in _ (by omega)
  simp only [wd, wa,u3]
  refine qq (q68 (q14 (enc g)) 4 (by omega)) λ r h6 ⟨e,s6⟩ f6=>?_
  subst e
  simp only [q40 _ _ (show (enc g).length + (be 4 (q14 (enc g))).length≤9223372036854775807 by simp; omega),
   q40 _ _ (show (q07 pre).length + (enc g++be 4 (q14 (enc g))).length≤9223372036854775807 by simp; omega),wd, wa,e6]
  have k1:q07 pre++(enc g++be 4 (q14 (enc g)))=q07 (pre++[g]):=by rw [q4m,qgi]
  have k2:idx 0 pre++(vi (q1p g).length++q1p g++vi (q07 pre).length++vi (enc g).length)=idx 0 (pre++[g]):=by rw [qwx,Nat.zero_add,idx,idx,List.append_nil]; simp
  rw [k1,k2]
  exact ih (pre++[g]) h6 (by simpa using he) f6 (st.trans (s2.trans (s3.trans (s4.trans s6))))
theorem q0fu {v:Value} {l:List Ent} (block:Int) (hv:Es w0 h v l) (hl:l.length≤2000000):
  qf prog w0 qjr [v,.int .i64 block] h λ r h'=>r=.tuple #[.string (str (q0i block l)),.int .i64 (q1r block l)]∧Step h h' [] []:=by
 refine qf.of_fit (by simpa using hv.junk) λ f=>q091 (by simpa using hv.junk) ?_
 have nilR:q1r block l≠0→∀ h1,Step h h1 [] []→∀ e,e=q1r block l→qo [.string .empty,.int .i64 e] (λ r h'=>r=.tuple #[.string (str (q0i block l)),.int .i64 (q1r block l)]∧Step h h' [] []) h1:=by
  intro hne h1 st e he
  subst he
  have:q0i block l=[]:=by unfold q0i; rw [if_neg hne]
  rw [this]
  simp only [qu,q19,q75]
  exact ⟨by simp,trivial,st⟩
 simp only [qjq]
 by_cases hb1:block < 256
 ·have c1:decide (block < 256)=true:=decide_eq_true hb1
  simp only [c1,wd, wa]
  have he:q1r block l=1:=by unfold q1r; rw [if_pos (.inl hb1)]
  exact nilR (by rw [he]; omega) h (.refl _ _ (by simp)) 1 he.symm
 have c1:decide (block < 256)=false:=decide_eq_false hb1
 simp only [c1,wd, wa]
 by_cases hb2:4096 < block
 ·have c2:decide (4096 < block)=true:=decide_eq_true hb2
  simp only [c2,wd, wa]
  have he:q1r block l=1:=by unfold q1r; rw [if_pos (.inr hb2)]
  exact nilR (by rw [he]; omega) h (.refl _ _ (by simp)) 1 he.symm
 have c2:decide (4096 < block)=false:=decide_eq_false hb2
 simp only [c2,wd, wa]
 obtain ⟨bk,rfl⟩:=Int.eq_ofNat_of_zero_le (show 0≤block by omega)
 refine qq (q0dv hv (by omega)) λ r h1 ⟨e,s1⟩ f1=>?_
 subst e
 cases hc:q27 l with
 | false=>
  have he:q1r (bk:Int) l=120:=by unfold q1r; rw [if_neg (by omega),hc]; rfl
  have c3:((120:Int) != 0)=true:=rfl
  simp only [Bool.false_eq_true,if_false,c3,wd, wa]
  exact nilR (by rw [he]; omega) h1 s1 120 he.symm
 | true=>
  have he:q1r (bk:Int) l=0:=by unfold q1r; rw [if_neg (by omega),hc]; rfl
  have hR:q0i (bk:Int) l=bld bk l:=by unfold q0i; rw [if_pos he,Int.toNat_natCast]
  have hr:∀ x,x∈l→q0e x=true:=qc7 hc
  simp only [if_true,bne_self_eq_false,wd, wa]
  obtain ⟨z1,z2,z3⟩:=qmu (block:=bk) hr hl
  have v1:Es w0 h1 v l:=hv.step f s1 (by simp)
  refine qq (q0ee (block:=bk) v1 hr hl (by omega)) λ r h2 ⟨x4,x5,S4,S5,e,g4,g5,dj,s2⟩ f2=>?_
  subst e
  have hgl:=qae bk l
  have hrg:∀ g,g∈grp bk l→∀ x,x∈g→q0e x=true:=λ g hg x hx=>hr x (by
   have:x∈(grp bk l).flatten:=List.mem_flatten.2 ⟨g,hg,hx⟩
   rwa [q5i] at this)
  have hl4:q05 x4=some (.int .i64 ((grp bk l).length:Int)):=g4.sl.lenv
  simp only [hl4,wd, wa,q75]
  refine ⟨(grp bk l).length + 1,q0fw g4.sl g5.sl f2 (by omega) (qh0 _ 0 hrg (by omega)) (by omega) (λ h3 f3 s3=>?_) (grp bk l) [] h2 rfl f2 (.refl _ _ (by simp))⟩
  have u1:IntKind.u64.wrap ((bk:Nat):Int)=((bk:Nat):Int):=IntWalk.u64_in _ (by omega)
  have u2:IntKind.u64.wrap ((l.length:Nat):Int)=((l.length:Nat):Int):=IntWalk.u64_in _ (by omega)
  have u3:IntKind.u64.wrap (((grp bk l).length:Nat):Int)=(((grp bk l).length:Nat):Int):=IntWalk.u64_in _ (by omega)
  have u4:IntKind.u64.wrap (((q07 (grp bk l)).length:Nat):Int)=(((q07 (grp bk l)).length:Nat):Int):=IntWalk.u64_in _ (by omega)
  simp only [wd, wa,u1]
  refine qq (q68 bk 4 (by omega)) λ r h4 ⟨e,s4⟩ f4=>?_
  subst e
  simp only [hv.lenv,wd, wa,u2]
  refine qq (q68 l.length 4 (by omega)) λ r h5 ⟨e,s5⟩ f5=>?_
  subst e
  simp only [q40 _ _ (show (be 4 bk).length + (be 4 l.length).length≤9223372036854775807 by simp),hl4,wd, wa,u3]
  refine qq (q68 (grp bk l).length 4 (by omega)) λ r h6 ⟨e,s6⟩ f6=>?_
  subst e
  simp only [q40 _ _ (show (be 4 bk++be 4 l.length).length + (be 4 (grp bk l).length).length≤9223372036854775807 by simp),wd, wa,u4]
  refine qq (q68 (q07 (grp bk l)).length 4 (by omega)) λ r h7 ⟨e,s7⟩ f7=>?_
  subst e
  have hfe:be 4 bk++be 4 l.length++be 4 (grp bk l).length++be 4 (q07 (grp bk l)).length=q3y bk l.length (grp bk l).length (q07 (grp bk l)).length:=rfl
  simp only [q40 _ _ (show (be 4 bk++be 4 l.length++be 4 (grp bk l).length).length + (be 4 (q07 (grp bk l)).length).length≤9223372036854775807 by simp),hfe,
   q40 _ _ (show (q07 (grp bk l)).length + (idx 0 (grp bk l)).length≤9223372036854775807 by omega),
   q40 _ _ (show (q07 (grp bk l)++idx 0 (grp bk l)).length + (q3y bk l.length (grp bk l).length (q07 (grp bk l)).length).length≤9223372036854775807 by rw [q9d,List.length_append]; omega),
   q40 _ _ (show (idx 0 (grp bk l)).length + (q3y bk l.length (grp bk l).length (q07 (grp bk l)).length).length≤9223372036854775807 by rw [q9d]; omega),wd, wa]
  have hft:(q1q bk l).length=(idx 0 (grp bk l)).length + 16:=by simp [q1q,q9d]
  have htl:idx 0 (grp bk l)++q3y bk l.length (grp bk l).length (q07 (grp bk l)).length=q1q bk l:=rfl
  rw [htl]
  refine qq (qg4 (q1q bk l) (by omega)) λ r h8 ⟨e,e'⟩ f8=>?_
  subst e e'
  have hcl:=q78 (q1q bk l)
  have u5:IntKind.u64.wrap ((q14 (q1q bk l):Nat):Int)=((q14 (q1q bk l):Nat):Int):=IntWalk.u64_in _ (by omega)
  simp only [wd, wa,u5]
  refine qq (q68 (q14 (q1q bk l)) 4 (by omega)) λ r h9 ⟨e,s9⟩ f9=>?_
  subst e
  have hdr:(⟨#[68,82,85,78]⟩:ByteArray)=str q2r:=rfl
  have hbe:=qcr bk l
  simp only [hdr,q40 _ _ (show (q07 (grp bk l)++idx 0 (grp bk l)++q3y bk l.length (grp bk l).length (q07 (grp bk l)).length).length + (be 4 (q14 (q1q bk l))).length≤9223372036854775807 by simp only [List.length_append,q9d,q6c]; omega),
   q40 _ _ (show (q07 (grp bk l)++idx 0 (grp bk l)++q3y bk l.length (grp bk l).length (q07 (grp bk l)).length++be 4 (q14 (q1q bk l))).length + q2r.length≤9223372036854775807 by simp only [List.length_append,q9d,q6c,q2r]; simp; omega),wd, wa,qu,q19]
  have hfin:q07 (grp bk l)++idx 0 (grp bk l)++q3y bk l.length (grp bk l).length (q07 (grp bk l)).length++be 4 (q14 (q1q bk l))++q2r=q0i (bk:Int) l:=by rw [hR,bld,q1q]; simp
  rw [hfin,he]
  exact ⟨by simp,rfl,(s1.trans (s2.less (by simp))).trans (s3.trans (s4.trans (s5.trans (s6.trans (s7.trans s9)))))⟩
end
theorem q5n (st:RS) (n:Int):(st.raw n).2.s.length≤st.s.length:=by
 unfold RS.raw
 split
 ·exact Nat.le_refl _
 ·split
  ·exact Nat.le_refl _
  ·split
   ·exact Nat.le_refl _
   ·simp
theorem q005 {st:RS} (h:st.left≠0):(st.raw 1).2.s.length < st.s.length:=by
 unfold RS.left at h
 split at h
 ·exact absurd rfl h
 ·rename_i he
  unfold RS.raw
  rw [if_neg he,if_neg (by omega),if_neg (by omega)]
  simp
  omega
theorem qh5 (st:RS):rdn (st.raw 1).1 < 256:=by
 have:=q9g st 1
 simpa using this
theorem qzf (st:RS) (n:Nat):(st.raw (n:Int)).1.length≤n:=by
 unfold RS.raw
 split
 ·simp
 ·split
  ·simp
  ·split
   ·simp
   ·simp; omega
theorem Step.consR {h h':Hp} {S S':List Nat} (a:Step h h' S S') {r:Nat} (hr:r < h.next):Step h h' (r :: S) (r :: S'):=a.wide (λ b hb=>List.mem_cons_of_mem _ hb) λ b hb=>by
 rcases List.mem_cons.1 hb with e | e
 ·subst e; exact .inr ⟨by simp,hr⟩
 ·exact .inl e
def zE:List Value:=[.string .empty,.string .empty,.bool false]
section
variable {w0:World} {h h':Hp}
theorem q0ld {k0 kr:Value→Value→Value→Hp→Prop} {r qx:Nat} {x1:Value} {acc:List Ent} {st5:RS} {y:Ent} {m:Nat} {S:List Nat} (w5:Rd w0 h r st5) (wq:w0.heap.size≤qx) (hq:h.blk qx=some (ee y)) (lq:qx < h.next) (hrS:r∉S) (hqS:qx∉S) (hqr:qx≠r) (g:Vec w0 h 3 x1 acc.length (acc.flatMap ee) S) (hacc:acc.length≤3510000000000)
  (hbad:st5.err≠0→∀ h1,Step h h1 [] []→kr x1 (.slice none 0 0) (.bool false) h1)
  (hok:st5.err=0→∀ h1 x1' S',Rd w0 h1 r st5→Vec w0 h1 3 x1' (acc++[y]).length ((acc++[y]).flatMap ee) S'→r∉S'→Step h h1 S S'→q52 prog w0 k0 kr m x1' (.slice none 0 0) (.bool false) (.string (str y.k)) (ptr r) h1):
  qi prog w0 q51 [ptr r] (λ v51=>qb (qd .neq v51 (.int .i64 0)) λ v52=>qt v52 (kr x1 (.slice none 0 0) (.bool false)) (
   qg w0 (.pointer (some ⟨qx,0,none⟩)) λ v54=>qw w0 (.pointer (some ⟨qx,0,none⟩)) 3 λ v56=>
   q0j [(0,3,true,v56)] (q00 [.string .empty,.string .empty,.bool false] 1) 1 3 λ v57=>q0h w0 3 40 x1 v57 λ v58=>q52 prog w0 k0 kr m v58 (.slice none 0 0) (.bool false) v54 (ptr r))) h:=by
 refine qf.fit ((qx9 w5).mono λ v h1 ⟨e,e'⟩ f1=>?_)
 subst e e'
 by_cases he:st5.err=0
 ·have c1:(st5.err != 0)=false:=by simp [he]
  simp only [c1,wd, wa]
  refine qj wq hq rfl ?_
  refine q16 wq hq rfl ?_
  refine q4a f1.base g.gv rfl rfl (by omega) (by omega) (by omega) λ x' h2 S2 g2 s2=>?_
  have e1:acc.flatMap ee++ee y=(acc++[y]).flatMap ee:=by simp
  have e2:acc.length + 1=(acc++[y]).length:=by simp
  rw [e1,e2] at g2
  have hlr:=w5.2.2.1
  exact hok he h2 x' S2 (w5.frame s2 hrS) g2 (λ e=>by
   rcases (s2.own _ e).2 with q | q
   ·exact hrS q
   ·omega) s2
 ·have c1:(st5.err != 0)=true:=by simp [he]
  simp only [c1,wd, wa]
  exact hbad he h1 (.refl _ _ (by simp))
theorem q0fy {k0 kr:Value→Value→Value→Hp→Prop} {r T:Nat} {hh:Hp} {S0:List Nat} {res:Option (List Ent)} (hT:T≤3500000000000)
  (hk:∀ l,res=some l→∀ h' x' S' y z,Vec w0 h' 3 x' l.length (l.flatMap ee) S'→Step hh h' (r :: S0) (r :: S')→l.length≤T→k0 x' y z h') (hkr:res=none→∀ h' x' S',Step hh h' (r :: S0) (r :: S')→kr x' (.slice none 0 0) (.bool false) h'):
  ∀ (m:Nat) (st:RS) (ahead:Key) (acc:List Ent) (h1:Hp) (x1:Value) (S:List Nat),st.s.length < m→acc.length + st.s.length≤T→ahead.length≤1000→res=rdB m st ahead acc→Rd w0 h1 r st→Vec w0 h1 3 x1 acc.length (acc.flatMap ee) S→r∉S→Step hh h1 (r :: S0) (r :: S)→
   q52 prog w0 k0 kr m x1 (.slice none 0 0) (.bool false) (.string (str ahead)) (ptr r) h1:=by
 intro m
 induction m with
 | zero=>intro st ahead acc h1 x1 S hm; omega
 | succ m ih=>
  intro st ahead acc h1 x1 S hm hac hah hres w g hrS stp
  rw [q52]
  simp only [ql1]
  refine qq (q0gy w) λ v h2 ⟨e,e'⟩ f2=>?_
  subst e e'
  by_cases hl:st.left=0
  ·have c1:decide ((0:Int) < (st.left:Int))=false:=decide_eq_false (by omega)
   simp only [wd, wa,c1]
   rw [rdB,if_pos hl] at hres
   exact hk acc hres h2 x1 S _ _ g stp (by omega)
  ·have c1:decide ((0:Int) < (st.left:Int))=true:=decide_eq_true (by omega)
   simp only [wd, wa,c1]
   rw [rdB,if_neg hl] at hres
   simp only at hres
   have d1:=q005 hl
   refine qq (qgd w) λ v h3 ⟨e,w3,s3⟩ f3=>?_
   subst e
   have l1:=qh5 st
   generalize ha:st.raw 1=a at *
   have i1:IntKind.i64.wrap ((rdn a.1:Nat):Int)=((rdn a.1:Nat):Int):=IntWalk.i64_in _ (by omega)
   simp only [wd, wa,i1]
   refine qq (qgd w3) λ v h4 ⟨e,w4,s4⟩ f4=>?_
   subst e
   have l2:=qh5 a.2
   have d2:=q5n a.2 1
   generalize hb:a.2.raw 1=b at *
   have i2:IntKind.i64.wrap ((rdn b.1:Nat):Int)=((rdn b.1:Nat):Int):=IntWalk.i64_in _ (by omega)
   simp only [wd, wa,i2]
   refine qq (qgd w4) λ v h5 ⟨e,w5,s5⟩ f5=>?_
   subst e
   have l3:=qh5 b.2
   have d3:=q5n b.2 1
   generalize hc:b.2.raw 1=c at *
   refine qq (qgd w5) λ v h6 ⟨e,w6,s6⟩ f6=>?_
   subst e
   have l4:=qh5 c.2
   have d4:=q5n c.2 1
   generalize hd:c.2.raw 1=d at *
   have i4:IntKind.i64.wrap ((rdn d.1:Nat):Int)=((rdn d.1:Nat):Int):=IntWalk.i64_in _ (by omega)
   have s26:Step h2 h6 [r] [r]:=s3.trans (s4.trans (s5.trans s6))
   have g6:=g.frame s26 (by simpa using λ b hb=>(λ e=>hrS (by rw [← e]; exact hb):b≠r))
   have hSlt:=λ b hb=>(g.lt b hb).2
   have hSlt2:=λ b hb=>(g6.lt b hb).2
   have st6:Step hh h6 (r :: S0) (r :: S):=stp.trans (s26.more S hSlt)
   simp only [wd, wa,i4]
   by_cases hn:ahead.length < rdn a.1
   ·have c2:decide ((ahead.length:Int) < ((rdn a.1:Nat):Int))=true:=decide_eq_true (by omega)
    simp only [wd, wa,c2]
    rw [if_pos (.inl hn)] at hres
    exact hkr hres h6 x1 S st6
   have c2:decide ((ahead.length:Int) < ((rdn a.1:Nat):Int))=false:=decide_eq_false (by omega)
   simp only [wd, wa,c2]
   by_cases hg:1 < rdn c.1
   ·have c3:decide ((1:Int) < ((rdn c.1:Nat):Int))=true:=decide_eq_true (by omega)
    simp only [wd, wa,c3]
    rw [if_pos (.inr hg)] at hres
    exact hkr hres h6 x1 S st6
   have c3:decide ((1:Int) < ((rdn c.1:Nat):Int))=false:=decide_eq_false (by omega)
   rw [if_neg (λ q=>q.elim hn hg)] at hres
   have htl:(ahead.take (rdn a.1)).length=rdn a.1:=by rw [List.length_take]; omega
   have hnb:decide (((rdn c.1:Nat):Int)=1)=decide (rdn c.1=1):=by by_cases q:rdn c.1=1 <;> simp [q] <;> omega
   have e1:=qzf d.2 (rdn b.1)
   have d5:=q5n d.2 (rdn b.1)
   have e2:=qzf (d.2.raw (rdn b.1)).2 (rdn d.1)
   have d6:=q5n (d.2.raw (rdn b.1)).2 (rdn d.1)
   have R1:=λ (hX:Hp) (wX:Rd w0 hX r d.2)=>qg9 wX ((rdn b.1:Nat):Int) (by omega)
   have R2:=λ (hX:Hp) (wX:Rd w0 hX r (d.2.raw (rdn b.1)).2)=>qg9 wX ((rdn d.1:Nat):Int) (by omega)
   generalize (d.2.raw (rdn b.1))=e at *
   generalize (e.2.raw (rdn d.1))=f at *
   have hadd:qd .add (.string (str (ahead.take (rdn a.1)))) (.string (str e.1))=some (.string (str (ahead.take (rdn a.1)++e.1))):=q40 _ _ (by omega)
   have hgn:(((rdn c.1:Nat):Int) == 1)=decide (rdn c.1=1):=by by_cases q:rdn c.1=1 <;> simp [q] <;> omega
   have hz:[Value.string .empty,.string .empty,.bool false]=zE:=rfl
   generalize hy:(⟨ahead.take (rdn a.1)++e.1,f.1,decide (rdn c.1=1)⟩:Ent)=y at *
   have hyk:y.k=ahead.take (rdn a.1)++e.1:=by rw [← hy]
   have hagg:([Value.string (str (ahead.take (rdn a.1)++e.1)),.string (str f.1),.bool (decide (rdn c.1=1))])=ee y:=by rw [← hy]; rfl
   have hsz:w0.heap.size≤h6.next:=f6.base
   have fin:∀ (hX:Hp) (q:Nat),Rd w0 hX r f.2→Step h6 hX [r] [r,q]→h6.next≤q→hX.blk q=some (ee y)→q < hX.next→
     qi prog w0 q51 [ptr r] (λ v51=>qb (qd .neq v51 (.int .i64 0)) λ v52=>qt v52 (kr x1 (.slice none 0 0) (.bool false)) (
      qg w0 (.pointer (some ⟨q,0,none⟩)) λ v54=>qw w0 (.pointer (some ⟨q,0,none⟩)) 3 λ v56=>
      q0j [(0,3,true,v56)] (q00 [.string .empty,.string .empty,.bool false] 1) 1 3 λ v57=>q0h w0 3 40 x1 v57 λ v58=>q52 prog w0 k0 kr m v58 (.slice none 0 0) (.bool false) v54 (ptr r))) hX:=by
    intro hX q wX sX hq bX lX
    have sr:Step h6 hX [r] [r]:=sX.less (by simp)
    have hSr:∀ b,b∈S→b∉[r]:=λ b hb=>by simpa using λ e=>hrS (by rw [← e]; exact hb)
    have gX:=g6.frame sr hSr
    have hqS:q∉S:=λ q'=>by have:=hSlt2 q q'; omega
    have hrl:=w6.2.2.1
    have stX:Step hh hX (r :: S0) (r :: S):=st6.trans (sr.more S hSlt2)
    refine q0ld wX (by omega) bX lX hrS hqS (by omega) gX (by omega) (λ he h8 s8=>?_) λ he h8 x8 S8 w8 g8 hr8 s8=>?_
    ·rw [if_pos he] at hres
     exact hkr hres h8 x1 S (stX.trans (s8.keepS λ b hb=>(stX.own b hb).1))
    ·rw [if_neg (by simpa using he)] at hres
     rw [← hyk]at hres
     refine ih f.2 y.k (acc++[y]) h8 x8 S8 (by omega) (by simp; omega) (by rw [hyk,List.length_append]; omega) hres w8 g8 hr8 (stX.trans (s8.consR wX.2.2.1))
   have fin2:∀ (hX:Hp) (q:Nat),Rd w0 hX r f.2→Step h6 hX [r] [r,q]→h6.next≤q→hX.blk q=some zE→q < hX.next→
     q0k w0 (.pointer (some ⟨q,0,none⟩)) (.agg (ee y).toArray) 3 (λ _=>qi prog w0 q51 [ptr r] (λ v51=>qb (qd .neq v51 (.int .i64 0)) λ v52=>qt v52 (kr x1 (.slice none 0 0) (.bool false)) (
      qg w0 (.pointer (some ⟨q,0,none⟩)) λ v54=>qw w0 (.pointer (some ⟨q,0,none⟩)) 3 λ v56=>
      q0j [(0,3,true,v56)] (q00 [.string .empty,.string .empty,.bool false] 1) 1 3 λ v57=>q0h w0 3 40 x1 v57 λ v58=>q52 prog w0 k0 kr m v58 (.slice none 0 0) (.bool false) v54 (ptr r)))) hX:=by
    intro hX q wX sX hq bX lX
    have hrl:=w6.2.2.1
    refine q4l (by omega) bX rfl rfl ?_
    have sp:Step hX (hX.put q (ee y)) [q] [q]:=(Step.refl hX [q] (by simpa using lX)).put (by simp) _
    exact fin _ q (wX.frame sp (by simp; omega)) (sX.put (by simp) _) hq (by simp) (by simpa using lX)
   have fin3:∀ (hX:Hp),Rd w0 hX r f.2→Step h6 hX [r] [r]→q0k w0 (.pointer (some ⟨hX.next,0,none⟩)) (.agg (ee y).toArray) 3 (λ _=>qi prog w0 q51 [ptr r] (λ v51=>qb (qd .neq v51 (.int .i64 0)) λ v52=>qt v52 (kr x1 (.slice none 0 0) (.bool false)) (
      qg w0 (.pointer (some ⟨hX.next,0,none⟩)) λ v54=>qw w0 (.pointer (some ⟨hX.next,0,none⟩)) 3 λ v56=>
      q0j [(0,3,true,v56)] (q00 [.string .empty,.string .empty,.bool false] 1) 1 3 λ v57=>q0h w0 3 40 x1 v57 λ v58=>q52 prog w0 k0 kr m v58 (.slice none 0 0) (.bool false) v54 (ptr r)))) (hX.new zE 3):=by
    intro hX wX sX
    have sn:Step hX (hX.new zE 3) [] [hX.next]:=(Step.refl hX [] (by simp)).new _ _
    exact fin2 _ hX.next (wX.frame sn (by simp)) ((sX.new _ _).less (by simp)) sX.next (by simp) (by simp)
   simp only [wd, wa,c3,qw1 _ _ _ (show rdn a.1≤ahead.length by omega),hgn,q3z]
   have hcell:∀ v,v∈[Value.string .empty,.string .empty,.bool false]→qv v=true:=by simp [qv]
   refine ⟨?_,?_⟩
   ·refine qq (R1 _ w6) λ v h7 ⟨e7,w7,s7⟩ f7=>?_
    subst e7
    simp only [hadd,wd, wa,q3z]
    refine ⟨?_,?_⟩
    ·refine qq (R2 _ w7) λ v h8 ⟨e8,w8,s8⟩ f8=>?_
     subst e8
     simp only [q3z,q2w,q2t,q28,q1u,List.set_cons_zero,List.set_cons_succ,hagg,wd, wa]
     have c7:qv (.string (str (ahead.take (rdn a.1)++e.1)))=true:=rfl
     exact ⟨⟨rfl,by simp,rfl,by simp,rfl,by simp,hcell,fin3 h8 w8 (s7.trans s8)⟩,hcell,rfl,by simp,rfl,by simp,rfl,by simp,fin3 h8 w8 (s7.trans s8)⟩
    ·simp only [q2t]
     refine ⟨hcell,?_⟩
     have sn:Step h7 (h7.new zE 3) [] [h7.next]:=(Step.refl h7 [] (by simp)).new _ _
     have n1:h7.next < (h7.new zE 3).next:=by simp
     have wn:=w7.frame sn (by simp)
     have bn:(h7.new zE 3).blk h7.next=some zE:=by simp
     have sX:Step h6 (h7.new zE 3) [r] [r,h7.next]:=(s7.new _ _).less (by simp)
     have fn:Fit w0 (h7.new zE 3):=f7.new hcell
     have hr7:=w7.2.2.1
     have hq7:=s7.next
     show qi _ _ _ _ _ (h7.new zE 3)
     generalize h7.new zE 3=h7' at *
     generalize h7.next=q at *
     refine qq (R2 _ wn) λ v h8 ⟨e8,w8,s8⟩ f8=>?_
     subst e8
     simp only [q3z,q2w,q28,q1u,List.set_cons_zero,List.set_cons_succ,hagg,wd, wa]
     have b8:h8.blk q=some zE:=by rw [(s8.keep q n1 (by simp; omega)).1]; exact bn
     exact ⟨rfl,by simp,rfl,by simp,rfl,by simp,fin2 h8 q w8 (sX.trans (s8.more [q] (by simpa using n1))) hq7 b8 (Nat.lt_of_lt_of_le n1 s8.next)⟩
   ·simp only [q2t]
    refine ⟨hcell,?_⟩
    have sn:Step h6 (h6.new zE 3) [] [h6.next]:=(Step.refl h6 [] (by simp)).new _ _
    have n1:h6.next < (h6.new zE 3).next:=by simp
    have wn:=w6.frame sn (by simp)
    have bn:(h6.new zE 3).blk h6.next=some zE:=by simp
    have sX:Step h6 (h6.new zE 3) [r] [r,h6.next]:=((Step.refl h6 [r] (by simpa using w6.2.2.1)).new _ _).less (by simp)
    have fn:Fit w0 (h6.new zE 3):=f6.new hcell
    have hr7:=w6.2.2.1
    show qi _ _ _ _ _ (h6.new zE 3)
    generalize h6.new zE 3=h6' at *
    refine qq (R1 _ wn) λ v h7 ⟨e7,w7,s7⟩ f7=>?_
    subst e7
    simp only [hadd,wd, wa,q3z]
    refine qq (R2 _ w7) λ v h8 ⟨e8,w8,s8⟩ f8=>?_
    subst e8
    simp only [q3z,q2w,q28,q1u,List.set_cons_zero,List.set_cons_succ,hagg,wd, wa]
    have s78:=s7.trans s8
    have b8:h8.blk h6.next=some zE:=by rw [(s78.keep h6.next n1 (by simp; omega)).1]; exact bn
    exact ⟨rfl,by simp,rfl,by simp,rfl,by simp,fin2 h8 h6.next w8 (sX.trans (s78.more [h6.next] (by simpa using n1))) (Nat.le_refl _) b8 (Nat.lt_of_lt_of_le n1 s78.next)⟩
end
theorem qyv:∀ (m:Nat) (st:RS) (a:Key) (acc l:List Ent),rdB m st a acc=some l→l.length≤acc.length + st.s.length
 | 0,st,a,acc,l,h=>by simp [rdB] at h
 | m + 1,st,a,acc,l,h=>by
  rw [rdB] at h
  split at h
  ·cases h; omega
  ·rename_i hl
   simp only at h
   split at h
   ·cases h
   ·split at h
    ·cases h
    ·have:=qyv m _ _ _ _ h
     have d1:=q005 hl
     have d2:=q5n (st.raw 1).2 1
     have d3:=q5n ((st.raw 1).2.raw 1).2 1
     have d4:=q5n (((st.raw 1).2.raw 1).2.raw 1).2 1
     have d5:=q5n ((((st.raw 1).2.raw 1).2.raw 1).2.raw 1).2 (rdn ((st.raw 1).2.raw 1).1)
     have d6:=q5n (((((st.raw 1).2.raw 1).2.raw 1).2.raw 1).2.raw (rdn ((st.raw 1).2.raw 1).1)).2 (rdn ((((st.raw 1).2.raw 1).2.raw 1).2.raw 1).1)
     simp only [List.length_append,List.length_singleton] at this
     omega
section
variable {w0:World} {h h':Hp}
theorem q0kq {v:Value} {acc:List Ent} {S:List Nat} (s:List UInt8) (g:Vec w0 h 3 v acc.length (acc.flatMap ee) S) (hb:acc.length + s.length≤3500000000000):
  qf prog w0 qla [.string (str s),v] h λ r h'=>match rdB (s.length + 1) ⟨s,0⟩ [] acc with
   | none=>r=.tuple #[.slice none 0 0,.bool false]∧Step h h' S []
   | some l=>∃ x S',r=.tuple #[x,.bool true]∧Vec w0 h' 3 x l.length (l.flatMap ee) S'∧Step h h' S S':=by
 refine qf.of_fit (by simpa using g.gv.nj) λ f=>q0hn (by simpa using g.gv.nj) ?_
 simp only [qlk]
 refine qq (qk9 s (by omega)) λ v1 h1 ⟨e,w1,s1⟩ f1=>?_
 subst e
 have hSlt:=λ b hb=>(g.lt b hb).2
 have hrS:h.next∉S:=λ q=>by have:=hSlt _ q; omega
 have g1:=g.frame s1 (by simp)
 have s01:Step h h1 S (h.next :: S):=(s1.more S hSlt)
 have lts:=λ b hb=>(s01.own b hb).1
 refine ⟨s.length + 1,?_⟩
 have em:ByteArray.empty=str ([]:Key):=rfl
 rw [em]
 refine q0fy (S0:=S) (hh:=h1) (T:=acc.length + s.length) (res:=rdB (s.length + 1) ⟨s,0⟩ [] acc) (by omega) ?_ ?_ (s.length + 1) ⟨s,0⟩ [] acc h1 v S (by simp) (by simp) (by simp) rfl w1 g1 hrS (.refl _ _ lts)
 ·intro l hl h' x' S' y z gx sx hlen
  simp only [hl,qu,q19]
  exact ⟨by simp [gx.gv.nj],x',S',rfl,gx,(s01.trans sx).less λ b hb=>List.mem_cons_of_mem _ hb⟩
 ·intro hl h' x' S' sx
  simp only [hl,qu,q19]
  exact ⟨by simp,trivial,(s01.trans sx).less (by simp)⟩
theorem qzh (st:RS):st.varint.1 < 18446744073709551616:=by
 have hb:=qxt st.s 0 0 (by omega) (by simp)
 unfold RS.varint
 split
 ·simp
 ·split
  ·simp
  ·exact hb.1
def qd2 (b:List UInt8):Nat:=rdn ((((⟨b.drop (b.length - 24),0⟩:RS).raw 4).2.raw 4).2.raw 4).1
theorem q0h1 {k0 kr:Value→Value→Value→Value→Value→Value→Hp→Prop} {b:List UInt8} {r at_ N:Nat} {hh:Hp} {x3 x4 x7 x8:Value} {res:Option (List Ent)} (hb:b.length≤1000000000) (hat:at_≤b.length) (hN:N * b.length≤3500000000000) (hN2:N≤b.length)
  (hk:∀ l,res=some l→∀ h' x' S' y,Vec w0 h' 3 x' l.length (l.flatMap ee) S'→Step hh h' [r] (r :: S')→l.length≤3500000000000→k0 x' x3 x4 y x7 x8 h')
  (hkr:res=none→∀ h',Step hh h' [r] [r]→kr (.slice none 0 0) (.int .i64 0) (.int .i64 0) (.bool false) x7 x8 h'):
  ∀ (m n:Nat) (st:RS) (acc:List Ent) (h1:Hp) (x1 y:Value) (S:List Nat),n + m=N→res=q7l b at_ m st acc→Rd w0 h1 r st→Vec w0 h1 3 x1 acc.length (acc.flatMap ee) S→r∉S→Step hh h1 [r] (r :: S)→acc.length + m * b.length≤N * b.length→
   q8z prog w0 k0 kr (m + 1) (.string (str b)) x1 x3 x4 y (ptr r) x7 x8 (.int .i64 (at_:Int)) (.int .i64 (N:Int)) (.int .i64 (n:Int)) h1:=by
 intro m
 induction m with
 | zero=>
  intro n st acc h1 x1 y S hn hres w g hrS stp hl
  have c1:decide ((n:Int) < (N:Int))=false:=decide_eq_false (by omega)
  rw [q8z]
  simp only [qfn,wd, wa,c1]
  exact hk acc hres h1 x1 S y g stp (by omega)
 | succ m ih=>
  intro n st acc h1 x1 y S hn hres w g hrS stp hl
  have hSlt:=λ b hb=>(g.lt b hb).2
  have c1:decide ((n:Int) < (N:Int))=true:=decide_eq_true (by omega)
  rw [q8z]
  simp only [qfn,wd, wa,c1]
  rw [q7l] at hres
  refine qq (q0hx w) λ v h2 ⟨e,w2,s2⟩ f2=>?_
  generalize st.text=t at *
  refine qq (qkl w2) λ v h3 ⟨e,w3,s3⟩ f3=>?_
  subst e
  have v1:=qzh t.2
  generalize t.2.varint=f at *
  refine qq (qkl w3) λ v h4 ⟨e,w4,s4⟩ f4=>?_
  subst e
  have v2:=qzh f.2
  generalize f.2.varint=z at *
  refine qq (qx9 w4) λ v h5 ⟨e,e'⟩ f5=>?_
  subst e e'
  have s14:Step h1 h5 [r] [r]:=s2.trans (s3.trans s4)
  have g5:=g.frame s14 (by simpa using λ b hb=>(λ e=>hrS (by rw [← e]; exact hb):b≠r))
  have st5:Step hh h5 [r] (r :: S):=stp.trans (s14.more S hSlt)
  by_cases he:z.2.err=0
  ·have c2:(z.2.err != 0)=false:=by simp [he]
   have u1:IntKind.u64.wrap (at_:Int)=(at_:Int):=IntWalk.u64_in _ (by omega)
   simp only [wd, wa,c2,u1]
   by_cases hf:at_ < f.1
   ·have c3:decide ((at_:Int) < (f.1:Int))=true:=decide_eq_true (by omega)
    simp only [wd, wa,c3]
    rw [if_pos (.inr (.inl hf))] at hres
    exact hkr hres h5 (st5.less (by simp))
   ·have c3:decide ((at_:Int) < (f.1:Int))=false:=decide_eq_false (by omega)
    have u2:IntKind.u64.wrap ((at_:Int) - (f.1:Int))=((at_ - f.1:Nat):Int):=by rw [IntWalk.u64_in _ (by omega)]; omega
    simp only [wd, wa,c3,u1,u2]
    by_cases hz:at_ - f.1 < z.1
    ·have c4:decide (((at_ - f.1:Nat):Int) < (z.1:Int))=true:=decide_eq_true (by omega)
     simp only [wd, wa,c4,u1,u2]
     rw [if_pos (.inr (.inr hz))] at hres
     exact hkr hres h5 (st5.less (by simp))
    ·have c4:decide (((at_ - f.1:Nat):Int) < (z.1:Int))=false:=decide_eq_false (by omega)
     have u3:IntKind.u64.wrap ((f.1:Int) + (z.1:Int))=((f.1 + z.1:Nat):Int):=by rw [IntWalk.u64_in _ (by omega)]; omega
     simp only [wd, wa,c4,u1,u2,u3,qwt b _ _ f.1 (f.1 + z.1) (by omega) (by omega)]
     rw [if_neg (by
      intro q
      rcases q with q | q | q
      ·exact q he
      ·exact hf q
      ·exact hz q)] at hres
     have hsl:(b.take (f.1 + z.1)).drop f.1=(b.drop f.1).take z.1:=by rw [List.drop_take]; congr 1; omega
     have hsll:((b.drop f.1).take z.1).length=z.1:=by rw [List.length_take,List.length_drop]; omega
     rw [hsl]
     have hmb:(m + 1) * b.length=m * b.length + b.length:=by rw [Nat.add_mul,Nat.one_mul]
     refine qq (q0kq _ g5 (by rw [hsll]; omega)) λ v h6 hv f6=>?_
     rw [hsll] at hv
     have hrl:=w4.2.2.1
     cases hr:rdB (z.1 + 1) ⟨(b.drop f.1).take z.1,0⟩ [] acc with
     | none=>
      rw [hr] at hv hres
      obtain ⟨e,s6⟩:=hv
      subst e
      simp only [wd, wa]
      exact hkr hres h6 (st5.trans ((s6.consR hrl).wide (λ b hb=>hb) λ b hb=>.inl hb))
     | some l=>
      rw [hr] at hv hres
      obtain ⟨x,S',e,g6,s6⟩:=hv
      subst e
      have hlen:=qyv _ _ _ _ _ hr
      simp only [hsll] at hlen
      have e6:=wrN n (by omega)
      simp only [wd, wa,e6]
      have hrS':r∉S':=λ q=>by
       rcases (s6.own _ q).2 with q | q
       ·exact hrS q
       ·omega
      exact ih (n + 1) z.2 l h6 x _ S' (by omega) hres (w4.frame s6 hrS) g6 hrS' (st5.trans (s6.consR hrl)) (by omega)
  ·have c2:(z.2.err != 0)=true:=by simp [he]
   simp only [wd, wa,c2]
   rw [if_pos (.inl he)] at hres
   exact hkr hres h5 (st5.less (by simp))
theorem q0gq (b:List UInt8) (hb:b.length≤1000000000) (hN:min (qd2 b) b.length * b.length≤3500000000000):
  qf prog w0 ql6 [.string (str b)] h λ r h'=>match prs b with
   | none=>(∃ v e1 e2,r=.tuple #[v,e1,e2,.bool false])∧Step h h' [] []
   | some (l,block,n)=>∃ x S',r=.tuple #[x,.int .i64 (block:Int),.int .i64 (n:Int),.bool true]∧Vec w0 h' 3 x l.length (l.flatMap ee) S'∧l.length≤3500000000000∧Step h h' [] S':=by
 refine qf.of_fit (by simp) λ f=>q0fk (by simp) ?_
 simp only [qkx]
 generalize hP:prs b=P
 by_cases hl:b.length < 24
 ·have c1:decide ((b.length:Int) < 24)=true:=decide_eq_true (by omega)
  simp only [wd, wa,c1,qu,q19]
  rw [prs,if_pos hl] at hP
  subst hP
  exact ⟨by simp,⟨_,_,_,rfl⟩,.refl _ _ (by simp)⟩
 have c1:decide ((b.length:Int) < 24)=false:=decide_eq_false (by omega)
 have e1:IntKind.i64.wrap ((b.length:Int) - 24)=((b.length - 24:Nat):Int):=by rw [IntWalk.i64_in _ (by omega)]; omega
 simp only [wd, wa,c1,e1,q93 b _ _ (show b.length - 24≤b.length by omega)]
 rw [prs,if_neg hl] at hP
 simp only at hP
 unfold qd2 at hN
 refine qq (qk9 _ (by simp; omega)) λ v h1 ⟨e,w1,s1⟩ f1=>?_
 subst e
 generalize hs0:(⟨b.drop (b.length - 24),0⟩:RS)=s0 at *
 have l1:=q9g s0 4
 refine qq (qgb w1) λ v h2 ⟨e,w2,s2⟩ f2=>?_
 subst e
 generalize s0.raw 4=a at *
 have u1:IntKind.i64.wrap ((rdn a.1:Nat):Int)=((rdn a.1:Nat):Int):=IntWalk.i64_in _ (by omega)
 simp only [wd, wa,u1]
 have l2:=q9g a.2 4
 refine qq (qgb w2) λ v h3 ⟨e,w3,s3⟩ f3=>?_
 subst e
 generalize a.2.raw 4=c at *
 have u2:IntKind.i64.wrap ((rdn c.1:Nat):Int)=((rdn c.1:Nat):Int):=IntWalk.i64_in _ (by omega)
 simp only [wd, wa,u2]
 have l3:=q9g c.2 4
 refine qq (qgb w3) λ v h4 ⟨e,w4,s4⟩ f4=>?_
 subst e
 generalize c.2.raw 4=d at *
 have u3:IntKind.i64.wrap ((rdn d.1:Nat):Int)=((rdn d.1:Nat):Int):=IntWalk.i64_in _ (by omega)
 simp only [wd, wa,u3]
 have l4:=q9g d.2 4
 refine qq (qgb w4) λ v h5 ⟨e,w5,s5⟩ f5=>?_
 subst e
 generalize d.2.raw 4=e at *
 have u4:IntKind.i64.wrap ((rdn e.1:Nat):Int)=((rdn e.1:Nat):Int):=IntWalk.i64_in _ (by omega)
 simp only [wd, wa,u4,e1]
 have s15:Step h h5 [] [h.next]:=s1.trans (s2.trans (s3.trans (s4.trans s5)))
 by_cases ha:b.length - 24 < rdn e.1
 ·have c2:decide (((b.length - 24:Nat):Int) < ((rdn e.1:Nat):Int))=true:=decide_eq_true (by omega)
  simp only [wd, wa,c2,qu,q19]
  rw [if_pos ha] at hP
  subst hP
  exact ⟨by simp,⟨_,_,_,rfl⟩,s15.less (by simp)⟩
 have c2:decide (((b.length - 24:Nat):Int) < ((rdn e.1:Nat):Int))=false:=decide_eq_false (by omega)
 simp only [wd, wa,c2,e1,qwt b _ _ (rdn e.1) (b.length - 24) (by omega) (by omega)]
 rw [if_neg ha] at hP
 refine qq (qk9 _ (by simp; omega)) λ v h6 ⟨e,w6,s6⟩ f6=>?_
 subst e
 have hmin:min (rdn d.1:Int) (b.length:Int)=((min (rdn d.1) b.length:Nat):Int):=by omega
 simp only [wd, wa,q0gv,q0jz,q0ie,Option.bind_some,hmin]
 refine ⟨min (rdn d.1) b.length + 1,?_⟩
 have s06:Step h h6 [] [h5.next]:=(s15.less (T:=[]) (by simp)).trans s6
 refine q0h1 (hh:=h6) (res:=q7l b (rdn e.1) (min (rdn d.1) b.length) ⟨(b.take (b.length - 24)).drop (rdn e.1),0⟩ []) hb (by omega) hN (by omega) ?_ ?_ _ 0 _ [] h6 _ _ [] (by omega) rfl w6 .nil (by simp) (.refl _ _ (by simpa using w6.2.2.1)) (by simp)
 ·intro l hl h7 x S7 y g7 s7 hlen
  have hl7:q05 x=some (.int .i64 (l.length:Int)):=g7.sl.lenv
  rw [hl] at hP
  simp only at hP
  simp only [hl7,wd, wa,qu,q19]
  refine ⟨by simp [g7.gv.nj],?_⟩
  by_cases hq:l.length=rdn c.1
  ·rw [if_pos hq] at hP
   subst hP
   exact ⟨x,S7,by simp [hq],g7,hlen,(s06.trans s7).less λ b hb=>List.mem_cons_of_mem _ hb⟩
  ·rw [if_neg hq] at hP
   subst hP
   exact ⟨⟨x,.int .i64 (rdn a.1:Nat),.int .i64 (rdn d.1:Nat),by simp; omega⟩,(s06.trans s7).less (by simp)⟩
 ·intro hl h7 s7
  rw [hl] at hP
  subst hP
  simp only [qu,q19]
  exact ⟨by simp,⟨_,_,_,rfl⟩,(s06.trans s7).less (by simp)⟩
end
end Go.Proofs.YtfmoemconapmhaaGreat.Ah
