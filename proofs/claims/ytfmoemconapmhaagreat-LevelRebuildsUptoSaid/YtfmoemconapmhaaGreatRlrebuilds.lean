/- LevelRebuilds, proved: the second form: it returns true, where what it reads is of bulk at most 1048576. -/
import Derived.Test.YtfmoemconapmhaaGreatTxc
set_option linter.all false
namespace Go.Proofs.YtfmoemconapmhaaGreat.lrebuilds
open Go Go.ChangeShapes Go.WideShapes Go.ChangeAt Go.RowKit Go.ChangeMaps Go.Proofs.YtfmoemconapmhaaGreat.Ah
theorem own:ownKnob Tryz.prog.godebug=none:=by kernel_rfl
theorem laidOut:laidOutB Tryz.prog=true:=by kernel_rfl
set_option maxRecDepth 100000 in
theorem dec0 (W:World):(q9f (q3w (q4y .i64) (q3w (q4y .i64) (q3w (q4y .i64) (q6k))))).Of Tryz.prog W 23 3:=(qwk Tryz.underlying23 (by kernel_rfl) (qak rfl (qmh Tryz.underlying3 (by kernel_rfl)) (qak rfl (qmh Tryz.underlying3 (by kernel_rfl)) (qak rfl (qmh Tryz.underlying3 (by kernel_rfl)) qyg))))
set_option maxRecDepth 100000 in
theorem dec1 (W:World):qda.Of Tryz.prog W 61 3:=
 Dec.Of.map (D:=q9f (q3w (q7j) (q3w (q7j) (q3w (qb3) (q6k))))) (qwk Tryz.underlying61 (by kernel_rfl) (qak rfl (qzm Tryz.underlying9 (by kernel_rfl)) (qak rfl (qzm Tryz.underlying9 (by kernel_rfl)) (qak rfl (q0kx Tryz.underlying4 (by kernel_rfl)) qyg)))) (λ x=>(⟨x.1,x.2.1,x.2.2.1⟩:Ent)) (λ _=>rfl) (λ a h=>by simp only [q3w,q9f,q4y,q00q,q7j,qb3,q6k,qda,IntKind.min,IntKind.max,IntKind.signed,IntKind.bits] at h ⊢; try simp at h ⊢; try omega) (λ a=>by simp [q3w,q9f,q4y,q00q,q7j,qb3,q6k,qda]; try omega) (λ _=>rfl) (λ b _ v hv=>by
  simp [qda,ee] at hv
  rcases hv with rfl | rfl | rfl <;> first | exact qz4 _ _ _ | exact qwq _ _ | exact qyj _ _)
set_option maxRecDepth 100000 in
theorem contract (H:Type) (enc:TypeId × Value→H) (W:World) (base:Nat) (args:Array Value) (ds gs:List (DataW H)) (before:List MemPlace)
  (hval:∀ (j:Nat) t v,Tryz.f7.params[j]?=some t→args[j]?=some v→Value.okWide Tryz.prog W .any base t v)
  (hW:DataW.Whole enc Tryz.prog Tryz.f7.params.toList Rows.levelRebuildsSpec.vars false W args.toList ds gs before) (hk:Rows.uptoSmall H (ds++gs)=true):
  Calls Tryz.prog 7 args W λ e W'=>∃ v,e=.returned v∧Rows.levelRebuildsSpec.post enc Tryz.prog Tryz.f7 false true false false W args v W':=by
 have hW':=hW
 obtain ⟨p,q,hA0,hV,rfl,hfz,hnd⟩:=hW
 have hA:DataW.TrodAll enc Tryz.prog W 0 (λ _=>true) true Tryz.f7.params.toList args.toList ds p:=hA0
 rw [Tryz.params7] at hA hval
 obtain ⟨v0,v1,d0,d1,p0,p1,rfl,rfl,rfl,h0,h1⟩:=trodAll_two hA
 obtain ⟨rfl,rfl⟩:=trodVars_none hV
 obtain ⟨c,rfl,oc,bc⟩:=q0ng Tryz.underlying23 (dec0 W) (hval 0 23 v0 rfl rfl) h0 (λ p hp=>hW'.lt _ (by simp [hp]))
 obtain ⟨es,xes,oes,bes⟩:=q0mg Tryz.underlying58 (by omega) (dec1 W) (hval 1 58 v1 rfl rfl) h1 (λ p hp=>hW'.lt _ (by simp [hp]))
 clear hA0
 have hb:=of_decide_eq_true hk
 simp only [Rows.uptoBulkAll,Rows.uptoBulk,List.append_nil] at hb
 have hc:=q09z (w0:=W) (h:=hp0 W) (b:=c.1) (f:=c.2.1) (t:=c.2.2.1) xes (by rw [q0n3]; omega)
 refine (q0bb (P:=Tryz.prog) (f:=7) (args:=#[.agg ((q9f (q3w (q4y .i64) (q3w (q4y .i64) (q3w (q4y .i64) (q6k))))).e c).toArray,v1]) ?_ hc).mono λ e W' ⟨he,hB⟩=>?_
 ·intro v hv
  simp at hv
  rcases hv with rfl | rfl
  ·exact q0oa ((dec0 W).cl _ oc)
  ·exact xes.cl
 ·subst he
  exact ⟨_,rfl,q0hy laidOut (by kernel_rfl) (by kernel_rfl) Tryz.underlying4 hW' rfl rfl hB⟩
set_option maxRecDepth 100000 in
theorem lifted (os:Os) (started:os.Started) (H:Type) (enc:TypeId × Value→H) (F:Stop.Interp):
  ReturnsInHanded {} Tryz.checked os 7 .any ((Rows.OpenSpec.upto Rows.levelRebuildsSpec).pre6 enc Tryz.prog Tryz.f7 Rows.levelRebuildsUptoRow.domain false) (((Rows.OpenSpec.upto Rows.levelRebuildsSpec).at F).post enc Tryz.prog Tryz.f7 false true false false):=by
 refine returnsInHanded_of_cond (C:=Tryz.checked) (s:=Rows.OpenSpec.upto Rows.levelRebuildsSpec) (k:=Rows.uptoSmall) rfl own started (by kernel_rfl) Tryz.func7
  (OpenSpec.witness (enc:=enc) (C:=Tryz.checked) (s:=Rows.OpenSpec.upto Rows.levelRebuildsSpec) (k:=Rows.uptoSmall) rfl false ⟨#[],#[.agg #[(.int .i64 0),(.int .i64 0),(.int .i64 0)],.slice none 0 0],[]⟩ 8 (by kernel_rfl) (by kernel_rfl) (by kernel_rfl)
   (x:=([.agg [.lit (.int .i64 0),.lit (.int .i64 0),.lit (.int .i64 0)],.nil],[],[])) (by kernel_rfl) rfl (by kernel_rfl)) ?_
 intro W base args ds gs before hval hW _ hk _
 exact contract H enc W base args ds gs before hval hW hk
theorem over:Rows.levelRebuildsUptoRow.holds Tryz.pinned (Rows.OpenSpec.upto Rows.levelRebuildsSpec):=
 OpenClaim.holds_of_cond 7 Tryz.f7 rfl rfl rfl rfl rfl rfl rfl ⟨rfl,rfl,rfl,rfl,rfl⟩ rfl rfl rfl rfl rfl (by kernel_rfl) Tryz.func7 (by kernel_rfl)
  (of_decide_eq_true (by kernel_rfl)) (by unfold Func.isWrapper; first | (rw [if_pos (by decide +kernel)]; kernel_rfl) | (rw [if_neg (by decide +kernel)]; exact ⟨rfl,rfl⟩))
  (λ os started H enc _ F=>lifted os started H enc F)
theorem proved:Rows.LevelRebuildsUptoSaid:=
 over
end Go.Proofs.YtfmoemconapmhaaGreat.lrebuilds
