/- PRINTED by wip/tools/shallow.py: functions of the program as readable words, and that each is what its text says. -/
import Derived.Test.YtfmoemconapmhaaGreatGn
set_option linter.all false
namespace Go.Proofs.YtfmoemconapmhaaGreat.Ah
open Go Go.Proofs.Tryz
noncomputable section
variable (P:Program) (w0:World) {h:Hp} {R:qh}
abbrev qr0:Func:=f67
def qrg:List (Nat × List Nat × List Nat):=[(2,[0,3],[0,3])]
def qef (P:Program) (w0:World) (R k0:Ko2) (x0 x3:Value):Hp→Prop:=
 qb (qd .geq x0 (.int .u64 128)) λ b=>
 qt b (
 qb (qd .rem x0 (.int .u64 128)) λ c=>
 qb (q0t .u8 c) λ d=>
 qb (qd .add d (.int .u8 128)) λ e=>
 q0j [(0,1,false,e)] (q00 [(.int .u8 0)] 1) 1 1 λ g=>
 q0h w0 1 1 x3 g λ i=>
 qb (qd .quo x0 (.int .u64 128)) λ j=>
 R j i) (
 k0 x0 x3)
def q89 (P:Program) (w0:World) (k0:Ko2):Nat→Value→Value→Hp→Prop
 | 0,_,_=>λ _=>False
 | m + 1,x0,x3=>qef P w0 (q89 P w0 k0 m) k0 x0 x3
def qr1 (k0:Ko2) (x0 x3:Value):Hp→Prop:=λ h=>∃ m,q89 P w0 k0 m x0 x3 h
def qsf (a0:Value) (R:qh):Hp→Prop:=
 qr1 P w0 (λ b c=>
 qb (q0t .u8 b) λ d=>
 q0j [(0,1,false,d)] (q00 [(.int .u8 0)] 1) 1 1 λ e=>
 q0h w0 1 1 c e λ g=>
 q1z w0 g λ i=>
 qo [i] R) a0 (.slice none 0 0)
def qrn (w0:World) (k0:Ko2) (m:Nat) (x0 x3:Value):Hp→Prop:=q0p (stepL ⟨prog,w0,21,qrg⟩ (drw w0 21) (q0v qr0 0)) m (q0s [(0,x0),(3,x3)]) [λ t=>k0 (t 0) (t 3)]
theorem q04x (w0:World) (k0:Ko2):∀ m,qrn w0 k0 m=q89 prog w0 k0 m:=by
 intro m
 induction m with
 | zero=>kernel_rfl
 | succ m ih=>
  show _=λ x0 x3=>qef prog w0 (q89 prog w0 k0 m) k0 x0 x3
  rw [← ih]
  kernel_rfl
theorem q04v (w0:World):qr1 prog w0=λ k0 x0 x3 h=>∃ m,qrn w0 k0 m x0 x3 h:=by
 funext k0 x0 x3 h
 simp only [q04x]
 rfl
theorem q07f {w0:World} {a0:Value} (hj:∀ v,v∈[a0]→v≠junk) (hv:qsf prog w0 a0 R h):qf prog w0 q61 [a0] h R:=
 q03 qr0 qrg 21 (by kernel_rfl) (by kernel_rfl) (by simp) hj (by
  unfold qsf
  rw [q04v w0]
  kernel_rfl) hv
abbrev qk1:Func:=f68
def qju:List (Nat × List Nat × List Nat):=[(3,[0,3,4],[3]),(7,[0,3,4,5],[0,3,4])]
def qbq (P:Program) (w0:World) (R:Ko4) (k2:Ko3) (x0 x3 x4 x5:Value):Hp→Prop:=
 qb (qd .lss x5 (.int .i64 8)) λ b=>
 qt b (
 qb (qd .rem x3 (.int .u32 2)) λ c=>
 qb (qd .eql c (.int .u32 1)) λ d=>
 qt d (
 qb (qd .quo x3 (.int .u32 2)) λ e=>
 qb (qd .xor e (.int .u32 2197175160)) λ g=>
 qb (qd .add x5 (.int .i64 1)) λ i=>
 R x0 g x4 i) (
 qb (qd .quo x3 (.int .u32 2)) λ j=>
 qb (qd .add x5 (.int .i64 1)) λ l=>
 R x0 j x4 l)) (
 k2 x0 x3 x4)
def q8p (P:Program) (w0:World) (k2:Ko3):Nat→Value→Value→Value→Value→Hp→Prop
 | 0,_,_,_,_=>λ _=>False
 | m + 1,x0,x3,x4,x5=>qbq P w0 (q8p P w0 k2 m) k2 x0 x3 x4 x5
def qtl (k2:Ko3) (x0 x3 x4 x5:Value):Hp→Prop:=λ h=>∃ m,q8p P w0 k2 m x0 x3 x4 x5 h
def qbp (R:Ko3) (k0:Ko1) (x0 x3 x4:Value):Hp→Prop:=
 qb (q1d x0) λ b=>
 qb (qd .lss x4 b) λ c=>
 qt c (
 qb (q3t x0 x4) λ d=>
 qb (q0t .u32 d) λ e=>
 qb (qd .xor x3 e) λ g=>
 qtl P w0 (λ i j l=>
 qb (qd .add l (.int .i64 1)) λ o=>
 R i j o) x0 g x4 (.int .i64 0)) (
 k0 x3)
def q8o (P:Program) (w0:World) (k0:Ko1):Nat→Value→Value→Value→Hp→Prop
 | 0,_,_,_=>λ _=>False
 | m + 1,x0,x3,x4=>qbp P w0 (q8o P w0 k0 m) k0 x0 x3 x4
def qth (k0:Ko1) (x0 x3 x4:Value):Hp→Prop:=λ h=>∃ m,q8o P w0 k0 m x0 x3 x4 h
def qtw (a0:Value) (R:qh):Hp→Prop:=
 qth P w0 (λ b=>
 qb (qd .xor b (.int .u32 4294967295)) λ c=>
 qo [c] R) a0 (.int .u32 4294967295) (.int .i64 0)
def qtn (w0:World) (k2:Ko3) (m:Nat) (x0 x3 x4 x5:Value):Hp→Prop:=q0p (stepL ⟨prog,w0,32,qju⟩ (drw w0 32) (q0v qk1 1)) m (q0s [(0,x0),(3,x3),(4,x4),(5,x5)]) [λ t=>k2 (t 0) (t 3) (t 4)]
theorem q077 (w0:World) (k2:Ko3):∀ m,qtn w0 k2 m=q8p prog w0 k2 m:=by
 intro m
 induction m with
 | zero=>kernel_rfl
 | succ m ih=>
  show _=λ x0 x3 x4 x5=>qbq prog w0 (q8p prog w0 k2 m) k2 x0 x3 x4 x5
  rw [← ih]
  kernel_rfl
theorem q06q (w0:World):qtl prog w0=λ k2 x0 x3 x4 x5 h=>∃ m,qtn w0 k2 m x0 x3 x4 x5 h:=by
 funext k2 x0 x3 x4 x5 h
 simp only [q077]
 rfl
def qtf (w0:World) (k0:Ko1) (m:Nat) (x0 x3 x4:Value):Hp→Prop:=q0p (stepL ⟨prog,w0,32,qju⟩ (drw w0 32) (q0v qk1 0)) m (q0s [(0,x0),(3,x3),(4,x4)]) [λ t=>k0 (t 3)]
theorem q07c (w0:World) (k0:Ko1):∀ m,qtf w0 k0 m=q8o prog w0 k0 m:=by
 intro m
 induction m with
 | zero=>kernel_rfl
 | succ m ih=>
  show _=λ x0 x3 x4=>qbp prog w0 (q8o prog w0 k0 m) k0 x0 x3 x4
  rw [← ih]
  unfold qbp
  rw [q06q w0]
  kernel_rfl
theorem q073 (w0:World):qth prog w0=λ k0 x0 x3 x4 h=>∃ m,qtf w0 k0 m x0 x3 x4 h:=by
 funext k0 x0 x3 x4 h
 simp only [q07c]
 rfl
theorem q0ak {w0:World} {a0:Value} (hj:∀ v,v∈[a0]→v≠junk) (hv:qtw prog w0 a0 R h):qf prog w0 q6z [a0] h R:=
 q03 qk1 qju 32 (by kernel_rfl) (by kernel_rfl) (by simp) hj (by
  unfold qtw
  rw [q073 w0]
  kernel_rfl) hv
abbrev q08n:Func:=f69
def q07r:List (Nat × List Nat × List Nat):=[]
def qss (a0 a1:Value) (R:qh):Hp→Prop:=
 qb (q1d a1) λ l=>
 qb (qd .gtr l (.int .i64 1048576)) λ o=>
 qt o (
 qo [(.string .empty),(.int .i64 3)] R) (
 qc (λ K=>K a0) λ b=>
 qc (λ K=>K a1) λ s=>
 qc (qb (q1d s)) λ u=>
 qc (qb (q0t .u64 u)) λ c=>
 qc (λ K=>K a1) λ d=>
 q0d [
 (q0j [(0,1,false,b),(1,1,false,(.int .u8 0))] (q00 [(.int .u8 0)] 2) 2 1 λ e=>
 q0c [] (
 qz (q1z w0 e) λ g=>
 qc (qb (qd .add (.string ⟨#[68,70]⟩) g)) λ v=>
 q0d [
 (qi P w0 q45 [c,(.int .i64 4)] λ z=>
 q0c [(q26 (q1z w0 e) g)] (
 qc (qb (qd .add v z)) λ ba=>
 qc (qb (qd .add ba d)) λ bb=>
 qc (λ K=>K bb) λ i=>
 q0y (
 qi P w0 q6z [i] λ bc=>
 qb (q0t .u64 bc) λ bd=>
 qi P w0 q45 [bd,(.int .i64 4)] λ be=>
 qb (qd .add i be) λ bf=>
 qo [bf,(.int .i64 0)] R)))])),
 (qi P w0 q45 [c,(.int .i64 4)] λ bg=>
 q0c [] (
 q0d [
 (q0j [(0,1,false,b),(1,1,false,(.int .u8 0))] (q00 [(.int .u8 0)] 2) 2 1 λ bh=>
 q0c [] (
 qz (q1z w0 bh) λ bi=>
 qc (qb (qd .add (.string ⟨#[68,70]⟩) bi)) λ bj=>
 qc (qb (qd .add bj bg)) λ bk=>
 qc (qb (qd .add bk d)) λ bl=>
 qc (λ K=>K bl) λ j=>
 q0y (
 qi P w0 q6z [j] λ bm=>
 qb (q0t .u64 bm) λ bn=>
 qi P w0 q45 [bn,(.int .i64 4)] λ bo=>
 qb (qd .add j bo) λ bp=>
 qo [bp,(.int .i64 0)] R)))]))])
theorem q09l {w0:World} {a0 a1:Value} (hj:∀ v,v∈[a0,a1]→v≠junk) (hv:qss prog w0 a0 a1 R h):qf prog w0 qbo [a0,a1] h R:=
 q03 q08n q07r 27 (by kernel_rfl) (by kernel_rfl) (by simp) hj (by
  kernel_rfl) hv
abbrev qrh:Func:=f120
def qrl:List (Nat × List Nat × List Nat):=[(3,[0,5,6],[5])]
def qed (P:Program) (w0:World) (R:Ko3) (k0:Ko1) (x0 x5 x6:Value):Hp→Prop:=
 qb (qd .geq x6 (.int .i64 0)) λ b=>
 qt b (
 qb (qd .mul (.int .i64 8) x6) λ c=>
 qb (qd .shr x0 c) λ d=>
 qb (q0t .u8 d) λ e=>
 q0j [(0,1,false,e)] (q00 [(.int .u8 0)] 1) 1 1 λ g=>
 q0h w0 1 1 x5 g λ i=>
 qb (qd .sub x6 (.int .i64 1)) λ j=>
 R x0 i j) (
 k0 x5)
def q8c (P:Program) (w0:World) (k0:Ko1):Nat→Value→Value→Value→Hp→Prop
 | 0,_,_,_=>λ _=>False
 | m + 1,x0,x5,x6=>qed P w0 (q8c P w0 k0 m) k0 x0 x5 x6
def qri (k0:Ko1) (x0 x5 x6:Value):Hp→Prop:=λ h=>∃ m,q8c P w0 k0 m x0 x5 x6 h
def qj6 (a0 a1:Value) (R:qh):Hp→Prop:=
 qb (qd .sub a1 (.int .i64 1)) λ b=>
 qri P w0 (λ c=>
 q1z w0 c λ d=>
 qo [d] R) a0 (.slice none 0 0) b
def qrb (w0:World) (k0:Ko1) (m:Nat) (x0 x5 x6:Value):Hp→Prop:=q0p (stepL ⟨prog,w0,23,qrl⟩ (drw w0 23) (q0v qrh 0)) m (q0s [(0,x0),(5,x5),(6,x6)]) [λ t=>k0 (t 5)]
theorem q057 (w0:World) (k0:Ko1):∀ m,qrb w0 k0 m=q8c prog w0 k0 m:=by
 intro m
 induction m with
 | zero=>kernel_rfl
 | succ m ih=>
  show _=λ x0 x5 x6=>qed prog w0 (q8c prog w0 k0 m) k0 x0 x5 x6
  rw [← ih]
  kernel_rfl
theorem q053 (w0:World):qri prog w0=λ k0 x0 x5 x6 h=>∃ m,qrb w0 k0 m x0 x5 x6 h:=by
 funext k0 x0 x5 x6 h
 simp only [q057]
 rfl
theorem q089 {w0:World} {a0 a1:Value} (hj:∀ v,v∈[a0,a1]→v≠junk) (hv:qj6 prog w0 a0 a1 R h):qf prog w0 q45 [a0,a1] h R:=
 q03 qrh qrl 23 (by kernel_rfl) (by kernel_rfl) (by simp) hj (by
  unfold qj6
  rw [q053 w0]
  kernel_rfl) hv
abbrev q08v:Func:=f123
def q08w:List (Nat × List Nat × List Nat):=[]
def qtg (a0:Value) (R:qh):Hp→Prop:=
 qb (q1d a0) λ b=>
 qb (q0t .u64 b) λ c=>
 qi P w0 q61 [c] λ d=>
 qb (qd .add d a0) λ e=>
 qo [e] R
theorem q0ad {w0:World} {a0:Value} (hj:∀ v,v∈[a0]→v≠junk) (hv:qtg prog w0 a0 R h):qf prog w0 qk2 [a0] h R:=
 q03 q08v q08w 9 (by kernel_rfl) (by kernel_rfl) (by simp) hj (by
  kernel_rfl) hv
end
end Go.Proofs.YtfmoemconapmhaaGreat.Ah
