/- LevelDoes, proved: the second form: it returns true, where what it reads is of bulk at most 1048576. -/
import Derived.Test.YtfmoemconapmhaaGreatUxc
set_option linter.all false
namespace Go.Proofs.YtfmoemconapmhaaGreat.ldoes
open Go Go.ChangeShapes Go.WideShapes Go.ChangeAt Go.RowKit Go.ChangeMaps Go.Proofs.YtfmoemconapmhaaGreat.Ah
theorem own:ownKnob Tryz.prog.godebug=none:=by kernel_rfl
theorem laidOut:laidOutB Tryz.prog=true:=by kernel_rfl
set_option maxRecDepth 100000 in
theorem decL(W:World):jQ.Of Tryz.prog W 32 5:=
 Dec.Of.map (D:=jR (fI (iB .i64) (fI (lx) (fI (lx) (fI (lx) (fI (iB .i64) (jl))))))) (yK Tryz.underlying32 (by kernel_rfl) (kG rfl (rP Tryz.underlying3 (by kernel_rfl)) (kG rfl (yJ Tryz.underlying9 (by kernel_rfl)) (kG rfl (yJ Tryz.underlying9 (by kernel_rfl)) (kG rfl (yJ Tryz.underlying9 (by kernel_rfl)) (kG rfl (rP Tryz.underlying3 (by kernel_rfl)) yL)))))) (λx=>(⟨x.1,x.2.1,x.2.2.1,x.2.2.2.1,x.2.2.2.2.1⟩:LOp)) (λ_=>rfl) (λa h=>by simp only[fI,jR,iB,DN,lx,DL,jl,jQ,IntKind.min,IntKind.max,IntKind.signed,IntKind.bits]at h ⊢;try simp at h ⊢;try omega) (λa=>by simp[fI,jR,iB,DN,lx,DL,jl,jQ];try omega) (λ_=>rfl) (λb _ v hv=>by
  simp[jQ,LOp.e]at hv
  rcases hv with rfl|rfl|rfl|rfl|rfl <;> first|exact D4 _ _ _|exact D5 _ _|exact Q3 _ _)
set_option maxRecDepth 100000 in
theorem dec0(W:World):(jR (fI (jR (fI (iB .i64) (fI (iB .i64) (fI (iB .i64) (jl))))) (fI (mC W 5 jQ) (jl)))).Of Tryz.prog W 26 4:=(yK Tryz.underlying26 (by kernel_rfl) (kG rfl (yK Tryz.underlying23 (by kernel_rfl) (kG rfl (rP Tryz.underlying3 (by kernel_rfl)) (kG rfl (rP Tryz.underlying3 (by kernel_rfl)) (kG rfl (rP Tryz.underlying3 (by kernel_rfl)) yL)))) (kG rfl (QV Tryz.underlying24 (by kernel_rfl) (by omega) (decL W)) yL)))
set_option maxRecDepth 100000 in
theorem contract(H:Type)(enc:TypeId×Value→H)(W:World)(base:Nat)(args:Array Value)(ds gs:List (DataW H))(before:List MemPlace)
  (hval:∀(j:Nat) t v,Tryz.f4.params[j]?=some t→args[j]?=some v→Value.okWide Tryz.prog W .any base t v)
  (hW:DataW.Whole enc Tryz.prog Tryz.f4.params.toList Rows.levelDoesSpec.vars false W args.toList ds gs before) (hk:Rows.uptoSmall H (ds++gs)=true):
  Calls Tryz.prog 4 args W λe W'=>∃v,e=.returned v∧Rows.levelDoesSpec.post enc Tryz.prog Tryz.f4 false true false false W args v W':=by
 have hW':=hW
 obtain ⟨p,q,hA0,hV,rfl,hfz,hnd⟩:=hW
 have hA:DataW.TrodAll enc Tryz.prog W 0 (λ_=>true) true Tryz.f4.params.toList args.toList ds p:=hA0
 rw[Tryz.params4]at hA hval
 obtain ⟨v0,d0,rfl,rfl,h0⟩:=trodAll_one hA
 obtain ⟨rfl,rfl⟩:=trodVars_none hV
 obtain ⟨s,rfl,os,bs⟩:=YO Tryz.underlying26 (dec0 W) (hval 0 26 v0 rfl rfl) h0 (λp hp=>hW'.lt _ (by simp[hp]))
 clear hA0
 have hb:=of_decide_eq_true hk
 simp only[Rows.uptoBulkAll,Rows.uptoBulk,List.append_nil]at hb
 have hc:=M2 (w0:=W) (h:=hp0 W) (b:=s.1.1) (f:=s.1.2.1) (t:=s.1.2.2.1) (v:=s.2.1.1) (l:=s.2.1.2) os.2.1.1 (by simp only[jR,fI,mC,iB,jl]at bs;have h1:=NL jQ.b (λo=>by show 1≤_;simp only[jQ];omega) s.2.1.2;omega) (by simp only[jR,fI,mC,iB,jl]at bs;rw[YR];omega)
 refine (Qx (P:=Tryz.prog) (f:=4) (args:=#[.agg ((jR (fI (jR (fI (iB .i64) (fI (iB .i64) (fI (iB .i64) (jl))))) (fI (mC W 5 jQ) (jl)))).e s).toArray]) ?_ hc).mono λe W' ⟨he,hB⟩=>?_
 ·intro v hv
  simp at hv
  subst hv
  exact Q2 ((dec0 W).cl _ os)
 ·subst he
  exact ⟨_,rfl,Zp laidOut (by kernel_rfl) (by kernel_rfl) Tryz.underlying4 hW' rfl rfl hB⟩
set_option maxRecDepth 100000 in
theorem lifted(os:Os)(started:os.Started)(H:Type)(enc:TypeId×Value→H)(F:Stop.Interp):
  ReturnsInHanded {} Tryz.checked os 4 .any ((Rows.OpenSpec.upto Rows.levelDoesSpec).pre6 enc Tryz.prog Tryz.f4 Rows.levelDoesUptoRow.domain false) (((Rows.OpenSpec.upto Rows.levelDoesSpec).at F).post enc Tryz.prog Tryz.f4 false true false false):=by
 refine returnsInHanded_of_cond (C:=Tryz.checked) (s:=Rows.OpenSpec.upto Rows.levelDoesSpec) (k:=Rows.uptoSmall) rfl own started (by kernel_rfl) Tryz.func4
  (OpenSpec.witness (enc:=enc) (C:=Tryz.checked) (s:=Rows.OpenSpec.upto Rows.levelDoesSpec) (k:=Rows.uptoSmall) rfl false ⟨#[],#[.agg #[(.int .i64 0),(.int .i64 0),(.int .i64 0),(.slice none 0 0)]],[]⟩ 8 (by kernel_rfl) (by kernel_rfl) (by kernel_rfl)
   (x:=([.agg [.agg [.lit (.int .i64 0),.lit (.int .i64 0),.lit (.int .i64 0)],.nil]],[],[])) (by kernel_rfl) rfl (by kernel_rfl)) ?_
 intro W base args ds gs before hval hW _ hk _
 exact contract H enc W base args ds gs before hval hW hk
theorem over:Rows.levelDoesUptoRow.holds Tryz.pinned (Rows.OpenSpec.upto Rows.levelDoesSpec):=
 OpenClaim.holds_of_cond 4 Tryz.f4 rfl rfl rfl rfl rfl rfl rfl ⟨rfl,rfl,rfl,rfl,rfl⟩ rfl rfl rfl rfl rfl (by kernel_rfl) Tryz.func4 (by kernel_rfl)
  (of_decide_eq_true (by kernel_rfl)) (by unfold Func.isWrapper;first|(rw[if_pos (by decide +kernel)];kernel_rfl)|(rw[if_neg (by decide +kernel)];exact ⟨rfl,rfl⟩))
  (λos started H enc _ F=>lifted os started H enc F)
theorem proved:Rows.LevelDoesUptoSaid:=
 over
end Go.Proofs.YtfmoemconapmhaaGreat.ldoes
