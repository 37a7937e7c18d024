/- From contracts over abstract heaps to the rows: a call of the whole program. -/
import Derived.Test.YtfmoemconapmhaaGreatAhg
import Derived.ProofKit
import Derived.OpenShut
set_option linter.all false
namespace Go.Proofs.YtfmoemconapmhaaGreat.Ah
open Go Go.ChangeShapes Go.WideShapes Go.ChangeAt Go.RowKit
def hp0(w:World):Hp:={ blk:=λi=>if i<w.heap.size then sg w i else none,next:=w.heap.size,esz:=λ_=>1,lp:=λ_=>none,cp:=λ_=>none,um:=λ_=>false }
theorem aR.init(w:World):aR w (λ_=>⟨0,0,0,1⟩) (hp0 w) w:=by
 refine ⟨bF _,bF _,λ_ _=>rfl,λi hi=>by simp[hp0,hi],rfl,rfl,rfl,λb cs hb hc=>?_,λb b' cs cs' hb hb' hc=>?_,⟨λb g s e=>by simp[hp0]at e,λb b' x x' e=>by simp[hp0]at e⟩⟩
 ·simp[hp0,iQ.2 hb]at hc
 ·simp[hp0,iQ.2 hb]at hc
theorem Qx{P:Program}{w:World}{f:FuncId}{args:Array Value}(hc:∀v,v∈args.toList→Cl w.heap.size v)(c:aj P w f args.toList (hp0 w) λv _=>v=.bool true):
  Calls P f args w λe w'=>e=.returned (.bool true)∧Below w.heap.size w w':=by
 have:=c.2 (λ_=>⟨0,0,0,1⟩) w args (aR.init w) ⟨rfl,λi v v' h h'=>by
  rw[h]at h'
  cases h'
  exact hc v (cK h) _ _⟩
 refine callsIn_wide.1 (this.mono ?_)
 rintro e w' ⟨v',ι',h',v,rfl,hx,hr,hv,rfl⟩
 cases hv
 exact ⟨rfl,hr.os,hr.tape,hr.output,hr.size,hr.ext⟩
theorem ad2{H:Type}{enc:TypeId×Value→H}{P:Program}(hl:laidOutB P=true){W W':World}(hB:Below W.heap.size W W'):∀{ts:List TypeId} {vs:List Value} {ds:List (DataW H)} {ps:List MemPlace},
  (ts.all λt=>P.readableRec t&&decide (t<P.types.size))=true→DataW.TrodAll enc P W 0 (λ_=>true) true ts vs ds ps→(∀p,p∈ps→p.block<W.heap.size)→
  DataW.TrodAll enc P W' 0 (λb=>decide (b<W.heap.size)) true ts vs ds ps:=by
 intro ts
 induction ts with
 |nil=>
  intro vs ds ps _ h _
  obtain ⟨rfl,rfl,rfl⟩:=trodAll_nil h
  exact trodAll_mk0
 |cons t ts ih=>
  intro vs ds ps hr h hp
  obtain ⟨v,vs1,d,ds1,a,b,rfl,rfl,rfl,h1,h2⟩:=trodAll_cons h
  simp only[List.all_cons,iE,decide_eq_true_eq]at hr
  exact trodAll_cons_mk (Below.trod hl hr.1.1 hr.1.2 h1 hB λx hx=>hp x (by simp[hx])) (ih (by simpa using hr.2) h2 λx hx=>hp x (by simp[hx]))
theorem Zp{H:Type}{enc:TypeId×Value→H}{P:Program}{f:Func}{s:ChangeSpec}{apart fresh handsOn:Bool}{W W':World}{args:Array Value}{ds gs:List (DataW H)}{before:List MemPlace}{t:TypeId}
  (hl:laidOutB P=true) (hr:(f.params.toList.all λt=>P.readableRec t&&decide (t<P.types.size))=true) (ht:f.resultTypes = #[t]) (hu:P.underlying t=some .bool)
  (hW:DataW.Whole enc P f.params.toList s.vars apart W args.toList ds gs before) (hv:s.vars=[])
  (hs:s.fn H (ds++gs)={ results:=[.lit (.bool true)],args:=ds }) (hB:Below W.heap.size W W'):
  s.post enc P f apart fresh handsOn false W args (.bool true) W':=by
 have hlt:=λp hp=>hW.lt (p:=p) hp
 have hW2:=hW
 obtain ⟨p,q,hA,hV,rfl,hz,hn⟩:=hW2
 rw[hv]at hV
 obtain ⟨rfl,rfl⟩:=trodVars_none hV
 refine ⟨ds,[],_,[],p,[],hW,?_,?_,?_,World.keptBut_mono (λx hx=>⟨hx,?_⟩) (hB.frame (·∈p++[])),λh=>by simp at h⟩
 ·rw[hs,ht]
  exact trodAll_mk1 (shut_bool hu true)
 ·rw[hs]
  exact ad2 hl hB hr hA λx hx=>hlt x (by simp[hx])
 ·rw[hs,hv]
  rfl
 ·simp at hx
  exact .inr (.inl hx)
