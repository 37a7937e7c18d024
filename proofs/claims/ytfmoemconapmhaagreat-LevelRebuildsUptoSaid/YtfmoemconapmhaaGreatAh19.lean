/- From contracts over abstract heaps to the rows: a call of the whole program. -/
import Derived.Test.YtfmoemconapmhaaGreatAhg
import Derived.ProofKit
import Derived.OpenShut
set_option linter.all false
namespace Go.Proofs.YtfmoemconapmhaaGreat.Ah
open Go Go.ChangeShapes Go.WideShapes Go.ChangeAt Go.RowKit
def hp0 (w:World):Hp:={ blk:=λ i=>if i < w.heap.size then qd5 w i else none,next:=w.heap.size,esz:=λ _=>1,lp:=λ _=>none,cp:=λ _=>none,um:=λ _=>false }
theorem q01.init (w:World):q01 w (λ _=>⟨0,0,0,1⟩) (hp0 w) w:=by
 refine ⟨Nat.le_refl _,Nat.le_refl _,λ _ _=>rfl,λ i hi=>by simp [hp0,hi],rfl,rfl,rfl,λ b cs hb hc=>?_,λ b b' cs cs' hb hb' hc=>?_,⟨λ b g s e=>by simp [hp0] at e,λ b b' x x' e=>by simp [hp0] at e⟩⟩
 ·simp [hp0,Nat.not_lt.2 hb] at hc
 ·simp [hp0,Nat.not_lt.2 hb] at hc
theorem q0bb {P:Program} {w:World} {f:FuncId} {args:Array Value} (hc:∀ v,v∈args.toList→Cl w.heap.size v) (c:qf P w f args.toList (hp0 w) λ v _=>v=.bool true):
  Calls P f args w λ e w'=>e=.returned (.bool true)∧Below w.heap.size w w':=by
 have:=c.2 (λ _=>⟨0,0,0,1⟩) w args (q01.init w) ⟨rfl,λ i v v' h h'=>by
  rw [h] at h'
  cases h'
  exact hc v (List.mem_of_getElem? h) _ _⟩
 refine callsIn_wide.1 (this.mono ?_)
 rintro e w' ⟨v',ι',h',v,rfl,hx,hr,hv,rfl⟩
 cases hv
 exact ⟨rfl,hr.os,hr.tape,hr.output,hr.size,hr.ext⟩
theorem q0cn {H:Type} {enc:TypeId × Value→H} {P:Program} (hl:laidOutB P=true) {W W':World} (hB:Below W.heap.size W W'):∀ {ts:List TypeId} {vs:List Value} {ds:List (DataW H)} {ps:List MemPlace},
  (ts.all λ t=>P.readableRec t && decide (t < P.types.size))=true→DataW.TrodAll enc P W 0 (λ _=>true) true ts vs ds ps→(∀ p,p∈ps→p.block < W.heap.size)→
  DataW.TrodAll enc P W' 0 (λ b=>decide (b < W.heap.size)) true ts vs ds ps:=by
 intro ts
 induction ts with
 | nil=>
  intro vs ds ps _ h _
  obtain ⟨rfl,rfl,rfl⟩:=trodAll_nil h
  exact trodAll_mk0
 | cons t ts ih=>
  intro vs ds ps hr h hp
  obtain ⟨v,vs1,d,ds1,a,b,rfl,rfl,rfl,h1,h2⟩:=trodAll_cons h
  simp only [List.all_cons,Bool.and_eq_true,decide_eq_true_eq] at hr
  exact trodAll_cons_mk (Below.trod hl hr.1.1 hr.1.2 h1 hB λ x hx=>hp x (by simp [hx])) (ih (by simpa using hr.2) h2 λ x hx=>hp x (by simp [hx]))
theorem q0hy {H:Type} {enc:TypeId × Value→H} {P:Program} {f:Func} {s:ChangeSpec} {apart fresh handsOn:Bool} {W W':World} {args:Array Value} {ds gs:List (DataW H)} {before:List MemPlace} {t:TypeId}
  (hl:laidOutB P=true) (hr:(f.params.toList.all λ t=>P.readableRec t && decide (t < P.types.size))=true) (ht:f.resultTypes = #[t]) (hu:P.underlying t=some .bool)
  (hW:DataW.Whole enc P f.params.toList s.vars apart W args.toList ds gs before) (hv:s.vars=[])
  (hs:s.fn H (ds++gs) = { results:=[.lit (.bool true)],args:=ds }) (hB:Below W.heap.size W W'):
  s.post enc P f apart fresh handsOn false W args (.bool true) W':=by
 have hlt:=λ p hp=>hW.lt (p:=p) hp
 have hW2:=hW
 obtain ⟨p,q,hA,hV,rfl,hz,hn⟩:=hW2
 rw [hv] at hV
 obtain ⟨rfl,rfl⟩:=trodVars_none hV
 refine ⟨ds,[],_,[],p,[],hW,?_,?_,?_,World.keptBut_mono (λ x hx=>⟨hx,?_⟩) (hB.frame (·∈p++[])),λ h=>by simp at h⟩
 ·rw [hs,ht]
  exact trodAll_mk1 (shut_bool hu true)
 ·rw [hs]
  exact q0cn hl hB hr hA λ x hx=>hlt x (by simp [hx])
 ·rw [hs,hv]
  rfl
 ·simp at hx
  exact .inr (.inl hx)
end Go.Proofs.YtfmoemconapmhaaGreat.Ah
