/- PRINTED by wip/tools/shallow.py: functions of the program as readable words, and that each is what its text says. -/
import Derived.Test.YtfmoemconapmhaaGreatGn
set_option linter.all false
namespace Go.Proofs.YtfmoemconapmhaaGreat.Ah
open Go Go.Proofs.Tryz
noncomputable section
variable (P:Program) (w0:World) {h:Hp} {R:qh}
abbrev qdl:Func:=f21
def qdn:List (Nat × List Nat × List Nat):=[(4,[0,3,4,32,33,34],[0,3,4]),(10,[4,7,46,47,48],[4]),(14,[4,7,9,10,46,47,48],[4,7,46,47,48])]
def qdo (R:Ko6) (k0:Ko3) (x0 x3 x4 x32 x33 x34:Value):Hp→Prop:=
 qb (qd .lss x34 x33) λ b=>
 qt b (
 q04 1 x32 x34 λ c=>
 qg w0 c λ d=>
 qb (q0t .u64 d) λ e=>
 qi P w0 q61 [e] λ g=>
 qb (qd .add x4 g) λ i=>
 qb (qd .add x34 (.int .i64 1)) λ j=>
 R x0 x3 i x32 x33 j) (
 k0 x0 x3 x4)
def q7q (P:Program) (w0:World) (k0:Ko3):Nat→Value→Value→Value→Value→Value→Value→Hp→Prop
 | 0,_,_,_,_,_,_=>λ _=>False
 | m + 1,x0,x3,x4,x32,x33,x34=>qdo P w0 (q7q P w0 k0 m) k0 x0 x3 x4 x32 x33 x34
def qhy (k0:Ko3) (x0 x3 x4 x32 x33 x34:Value):Hp→Prop:=λ h=>∃ m,q7q P w0 k0 m x0 x3 x4 x32 x33 x34 h
def qdk (R:Ko7) (k4:Ko5) (x4 x7 x9 x10 x46 x47 x48:Value):Hp→Prop:=
 qb (qd .lss x10 x9) λ d=>
 qt d (
 qc (λ K=>K x4) λ e=>
 qc (λ K=>K x7) λ g=>
 qc (q04 1 g (.int .i64 0)) λ i=>
 qz (qg w0 i) λ j=>
 qc (qb (q1d j)) λ l=>
 qc (qb (q0t .u64 l)) λ o=>
 qc (λ K=>K x7) λ s=>
 qc (q04 1 s (.int .i64 0)) λ b=>
 qz (qg w0 b) λ c=>
 q0d [
 (qi P w0 q61 [o] λ u=>
 q0c [(q26 (qg w0 b) c)] (
 q0d [
 (qi P w0 q6z [c] λ v=>
 q0c [] (
 qc (qb (q0t .u64 v)) λ z=>
 q0d [
 (qi P w0 q61 [z] λ ba=>
 q0c [] (
 qc (qb (qd .add u ba)) λ bb=>
 qc (qb (qd .add e bb)) λ bc=>
 qc (λ K=>K bc) λ bd=>
 q0y (
 q1e 1 x7 (some (.int .i64 1)) none none λ be=>
 qb (qd .add x10 (.int .i64 1)) λ bf=>
 R bd be x9 bf x46 x47 x48)))]))]))]) (
 k4 x4 x7 x46 x47 x48)
def q7o (P:Program) (w0:World) (k4:Ko5):Nat→Value→Value→Value→Value→Value→Value→Value→Hp→Prop
 | 0,_,_,_,_,_,_,_=>λ _=>False
 | m + 1,x4,x7,x9,x10,x46,x47,x48=>qdk P w0 (q7o P w0 k4 m) k4 x4 x7 x9 x10 x46 x47 x48
def qow (k4:Ko5) (x4 x7 x9 x10 x46 x47 x48:Value):Hp→Prop:=λ h=>∃ m,q7o P w0 k4 m x4 x7 x9 x10 x46 x47 x48 h
def qb7 (R:Ko5) (k2:Ko1) (x4 x7 x46 x47 x48:Value):Hp→Prop:=
 qb (qd .lss x48 x47) λ c=>
 qt c (
 q04 1 x46 x48 λ d=>
 qg w0 d λ b=>
 qb (q0t .u64 b) λ e=>
 qi P w0 q61 [e] λ g=>
 qb (qd .add x4 g) λ i=>
 qow P w0 (λ j l o s u=>
 qb (qd .add u (.int .i64 1)) λ v=>
 R j l o s v) i x7 b (.int .i64 0) x46 x47 x48) (
 k2 x4)
def q6s (P:Program) (w0:World) (k2:Ko1):Nat→Value→Value→Value→Value→Value→Hp→Prop
 | 0,_,_,_,_,_=>λ _=>False
 | m + 1,x4,x7,x46,x47,x48=>qb7 P w0 (q6s P w0 k2 m) k2 x4 x7 x46 x47 x48
def qhw (k2:Ko1) (x4 x7 x46 x47 x48:Value):Hp→Prop:=λ h=>∃ m,q6s P w0 k2 m x4 x7 x46 x47 x48 h
def qi1 (a0:Value) (R:qh):Hp→Prop:=
 qi P w0 qe1 [a0] λ b=>
 qc (λ K=>K a0) λ g=>
 qc (q02 g) λ i=>
 qc (qk i 0) λ j=>
 qc (qk j 0) λ l=>
 qz (qg w0 l) λ o=>
 qc (λ K=>K a0) λ s=>
 qc (q02 s) λ u=>
 qc (qk u 0) λ v=>
 qc (qk v 1) λ z=>
 qz (qg w0 z) λ ba=>
 qc (λ K=>K a0) λ bb=>
 qc (q02 bb) λ bc=>
 qc (qk bc 0) λ bd=>
 qc (qk bd 2) λ be=>
 qz (qg w0 be) λ bf=>
 qc (λ K=>K b) λ bg=>
 qc (qb (q05 bg)) λ bh=>
 qc (λ K=>K (.int .i64 0)) λ bi=>
 q0d [
 (q0j [(0,1,false,o),(1,1,false,ba),(2,1,false,bf),(3,1,false,bh)] (q00 [(.int .i64 0)] 4) 4 1 λ c=>
 q0c [] (
 qc (qb (q05 c)) λ bj=>
 q0y (
 qhy P w0 (λ bk d bl=>
 qi P w0 qba [bk] λ bm=>
 qb (q05 d) λ bn=>
 qhw P w0 (λ bo=>
 qi P w0 qbo [(.int .u8 77),bo] λ e=>
 qb (q0g e 0) λ bp=>
 qb (q0g e 1) λ bq=>
 qo [bp] R) bl bm d bn (.int .i64 0)) a0 b (.string .empty) c bj bi)))]
def qop (w0:World) (k4:Ko5) (m:Nat) (x4 x7 x9 x10 x46 x47 x48:Value):Hp→Prop:=q0p (stepL ⟨prog,w0,86,qdn⟩ (drw w0 86) (q0v qdl 2)) m (q0s [(4,x4),(7,x7),(9,x9),(10,x10),(46,x46),(47,x47),(48,x48)]) [λ t=>k4 (t 4) (t 7) (t 46) (t 47) (t 48)]
theorem q024 (w0:World) (k4:Ko5):∀ m,qop w0 k4 m=q7o prog w0 k4 m:=by
 intro m
 induction m with
 | zero=>kernel_rfl
 | succ m ih=>
  show _=λ x4 x7 x9 x10 x46 x47 x48=>qdk prog w0 (q7o prog w0 k4 m) k4 x4 x7 x9 x10 x46 x47 x48
  rw [← ih]
  kernel_rfl
theorem q02c (w0:World):qow prog w0=λ k4 x4 x7 x9 x10 x46 x47 x48 h=>∃ m,qop w0 k4 m x4 x7 x9 x10 x46 x47 x48 h:=by
 funext k4 x4 x7 x9 x10 x46 x47 x48 h
 simp only [q024]
 rfl
def qoo (w0:World) (k2:Ko1) (m:Nat) (x4 x7 x46 x47 x48:Value):Hp→Prop:=q0p (stepL ⟨prog,w0,86,qdn⟩ (drw w0 86) (q0v qdl 1)) m (q0s [(4,x4),(7,x7),(46,x46),(47,x47),(48,x48)]) [λ t=>k2 (t 4)]
theorem q023 (w0:World) (k2:Ko1):∀ m,qoo w0 k2 m=q6s prog w0 k2 m:=by
 intro m
 induction m with
 | zero=>kernel_rfl
 | succ m ih=>
  show _=λ x4 x7 x46 x47 x48=>qb7 prog w0 (q6s prog w0 k2 m) k2 x4 x7 x46 x47 x48
  rw [← ih]
  unfold qb7
  rw [q02c w0]
  kernel_rfl
theorem q025 (w0:World):qhw prog w0=λ k2 x4 x7 x46 x47 x48 h=>∃ m,qoo w0 k2 m x4 x7 x46 x47 x48 h:=by
 funext k2 x4 x7 x46 x47 x48 h
 simp only [q023]
 rfl
def qou (w0:World) (k0:Ko3) (m:Nat) (x0 x3 x4 x32 x33 x34:Value):Hp→Prop:=q0p (stepL ⟨prog,w0,86,qdn⟩ (drw w0 86) (q0v qdl 0)) m (q0s [(0,x0),(3,x3),(4,x4),(32,x32),(33,x33),(34,x34)]) [λ t=>k0 (t 0) (t 3) (t 4)]
theorem q02b (w0:World) (k0:Ko3):∀ m,qou w0 k0 m=q7q prog w0 k0 m:=by
 intro m
 induction m with
 | zero=>kernel_rfl
 | succ m ih=>
  show _=λ x0 x3 x4 x32 x33 x34=>qdo prog w0 (q7q prog w0 k0 m) k0 x0 x3 x4 x32 x33 x34
  rw [← ih]
  kernel_rfl
theorem q02h (w0:World):qhy prog w0=λ k0 x0 x3 x4 x32 x33 x34 h=>∃ m,qou w0 k0 m x0 x3 x4 x32 x33 x34 h:=by
 funext k0 x0 x3 x4 x32 x33 x34 h
 simp only [q02b]
 rfl
theorem q03k {w0:World} {a0:Value} (hj:∀ v,v∈[a0]→v≠junk) (hv:qi1 prog w0 a0 R h):qf prog w0 qi0 [a0] h R:=
 q03 qdl qdn 86 (by kernel_rfl) (by kernel_rfl) (by simp) hj (by
  unfold qi1
  rw [q02h w0,q025 w0]
  kernel_rfl) hv
abbrev qi9:Func:=f22
def qi6:List (Nat × List Nat × List Nat):=[(3,[0,3,13,14,15],[3]),(6,[0,3,13,14,15,19,20,21],[0,3,13,14,15])]
def qdv (R:Ko8) (k2:Ko5) (x0 x3 x13 x14 x15 x19 x20 x21:Value):Hp→Prop:=
 qb (qd .lss x21 x20) λ c=>
 qt c (
 q04 1 x19 x21 λ d=>
 qg w0 d λ e=>
 q02 x0 λ g=>
 qk g 0 λ i=>
 qk i 0 λ j=>
 qg w0 j λ l=>
 qi P w0 qjr [e,l] λ b=>
 qb (q0g b 0) λ o=>
 qb (q0g b 1) λ z=>
 q0j [(0,1,false,o)] (q00 [(.string .empty)] 1) 1 1 λ s=>
 q0h w0 1 16 x3 s λ u=>
 qb (qd .add x21 (.int .i64 1)) λ v=>
 R x0 u x13 x14 x15 x19 x20 v) (
 k2 x0 x3 x13 x14 x15)
def q7t (P:Program) (w0:World) (k2:Ko5):Nat→Value→Value→Value→Value→Value→Value→Value→Value→Hp→Prop
 | 0,_,_,_,_,_,_,_,_=>λ _=>False
 | m + 1,x0,x3,x13,x14,x15,x19,x20,x21=>qdv P w0 (q7t P w0 k2 m) k2 x0 x3 x13 x14 x15 x19 x20 x21
def qpe (k2:Ko5) (x0 x3 x13 x14 x15 x19 x20 x21:Value):Hp→Prop:=λ h=>∃ m,q7t P w0 k2 m x0 x3 x13 x14 x15 x19 x20 x21 h
def qb9 (R:Ko5) (k0:Ko1) (x0 x3 x13 x14 x15:Value):Hp→Prop:=
 qb (qd .lss x15 x14) λ c=>
 qt c (
 q04 1 x13 x15 λ d=>
 qg w0 d λ b=>
 qb (q05 b) λ e=>
 qpe P w0 (λ g i j l o=>
 qb (qd .add o (.int .i64 1)) λ s=>
 R g i j l s) x0 x3 x13 x14 x15 b e (.int .i64 0)) (
 k0 x3)
def q7v (P:Program) (w0:World) (k0:Ko1):Nat→Value→Value→Value→Value→Value→Hp→Prop
 | 0,_,_,_,_,_=>λ _=>False
 | m + 1,x0,x3,x13,x14,x15=>qb9 P w0 (q7v P w0 k0 m) k0 x0 x3 x13 x14 x15
def qp6 (k0:Ko1) (x0 x3 x13 x14 x15:Value):Hp→Prop:=λ h=>∃ m,q7v P w0 k0 m x0 x3 x13 x14 x15 h
def qif (a0:Value) (R:qh):Hp→Prop:=
 q02 a0 λ c=>
 qk c 4 λ d=>
 qg w0 d λ b=>
 qb (q05 b) λ e=>
 qp6 P w0 (λ g=>
 qo [g] R) a0 (.slice none 0 0) b e (.int .i64 0)
def qpb (w0:World) (k2:Ko5) (m:Nat) (x0 x3 x13 x14 x15 x19 x20 x21:Value):Hp→Prop:=q0p (stepL ⟨prog,w0,42,qi6⟩ (drw w0 42) (q0v qi9 1)) m (q0s [(0,x0),(3,x3),(13,x13),(14,x14),(15,x15),(19,x19),(20,x20),(21,x21)]) [λ t=>k2 (t 0) (t 3) (t 13) (t 14) (t 15)]
theorem q03d (w0:World) (k2:Ko5):∀ m,qpb w0 k2 m=q7t prog w0 k2 m:=by
 intro m
 induction m with
 | zero=>kernel_rfl
 | succ m ih=>
  show _=λ x0 x3 x13 x14 x15 x19 x20 x21=>qdv prog w0 (q7t prog w0 k2 m) k2 x0 x3 x13 x14 x15 x19 x20 x21
  rw [← ih]
  kernel_rfl
theorem q038 (w0:World):qpe prog w0=λ k2 x0 x3 x13 x14 x15 x19 x20 x21 h=>∃ m,qpb w0 k2 m x0 x3 x13 x14 x15 x19 x20 x21 h:=by
 funext k2 x0 x3 x13 x14 x15 x19 x20 x21 h
 simp only [q03d]
 rfl
def qp5 (w0:World) (k0:Ko1) (m:Nat) (x0 x3 x13 x14 x15:Value):Hp→Prop:=q0p (stepL ⟨prog,w0,42,qi6⟩ (drw w0 42) (q0v qi9 0)) m (q0s [(0,x0),(3,x3),(13,x13),(14,x14),(15,x15)]) [λ t=>k0 (t 3)]
theorem q03i (w0:World) (k0:Ko1):∀ m,qp5 w0 k0 m=q7v prog w0 k0 m:=by
 intro m
 induction m with
 | zero=>kernel_rfl
 | succ m ih=>
  show _=λ x0 x3 x13 x14 x15=>qb9 prog w0 (q7v prog w0 k0 m) k0 x0 x3 x13 x14 x15
  rw [← ih]
  unfold qb9
  rw [q038 w0]
  kernel_rfl
theorem q03b (w0:World):qp6 prog w0=λ k0 x0 x3 x13 x14 x15 h=>∃ m,qp5 w0 k0 m x0 x3 x13 x14 x15 h:=by
 funext k0 x0 x3 x13 x14 x15 h
 simp only [q03i]
 rfl
theorem q04a {w0:World} {a0:Value} (hj:∀ v,v∈[a0]→v≠junk) (hv:qif prog w0 a0 R h):qf prog w0 qba [a0] h R:=
 q03 qi9 qi6 42 (by kernel_rfl) (by kernel_rfl) (by simp) hj (by
  unfold qif
  rw [q03b w0]
  kernel_rfl) hv
abbrev qqr:Func:=f33
def qqa:List (Nat × List Nat × List Nat):=[(6,[4,5,6,8,19,20,21],[4,5,6,8])]
def qe9 (R:Ko7) (k0 kr:Ko4) (x4 x5 x6 x8 x19 x20 x21:Value):Hp→Prop:=
 qb (qd .lss x21 x20) λ c=>
 qt c (
 q04 3 x19 x21 λ d=>
 qw w0 d 3 λ e=>
 q0u [(.string .empty),(.string .empty),(.bool false)] 3 λ b=>
 q0k w0 b e 3 λ _=>
 qw w0 b 3 λ g=>
 qi P w0 qeu [g] λ i=>
 qb (unA .not i) λ j=>
 qt j (
 kr (.pointer none) (.int .i64 120) x6 x8) (
 qw w0 b 3 λ l=>
 qi P w0 qf3 [x8,l] λ o=>
 qb (qd .add x21 (.int .i64 1)) λ s=>
 R x4 x5 x6 o x19 x20 s)) (
 k0 x4 x5 x6 x8)
def q85 (P:Program) (w0:World) (k0 kr:Ko4):Nat→Value→Value→Value→Value→Value→Value→Value→Hp→Prop
 | 0,_,_,_,_,_,_,_=>λ _=>False
 | m + 1,x4,x5,x6,x8,x19,x20,x21=>qe9 P w0 (q85 P w0 k0 kr m) k0 kr x4 x5 x6 x8 x19 x20 x21
def qqq (k0 kr:Ko4) (x4 x5 x6 x8 x19 x20 x21:Value):Hp→Prop:=λ h=>∃ m,q85 P w0 k0 kr m x4 x5 x6 x8 x19 x20 x21 h
def qix (a0 a1:Value) (R:qh):Hp→Prop:=
 q15 true 3 a0 λ g=>
 qw w0 g 3 λ i=>
 qi P w0 qk3 [i] λ c=>
 qb (q0g c 0) λ j=>
 qb (q0g c 1) λ d=>
 qb (qd .neq d (.int .i64 0)) λ l=>
 qt l (
 qo [(.pointer none),d] R) (
 qb (q05 a1) λ o=>
 qqq P w0 (λ bh bi b s=>
 q0j [(0,1,false,s)] (q00 [(.slice none 0 0)] 1) 1 1 λ u=>
 qi P w0 qez [u,(.bool true)] λ e=>
 qb (q05 e) λ v=>
 qb (qd .gtr v (.int .i64 0)) λ z=>
 qt z (
 q02 b λ ba=>
 qk ba 4 λ bb=>
 qg w0 bb λ bc=>
 q0j [(0,1,false,e)] (q00 [(.slice none 0 0)] 1) 1 1 λ bd=>
 q04 1 bc (.int .i64 0) λ be=>
 q0q w0 be bd λ _=>
 qo [b,(.int .i64 0)] R) (
 qo [b,(.int .i64 0)] R)) (λ bf bg bj bk=>
 qo [bf,bg] R) (.pointer none) (.int .i64 0) j (.slice none 0 0) a1 o (.int .i64 0))
def qqb (w0:World) (k0 kr:Ko4) (m:Nat) (x4 x5 x6 x8 x19 x20 x21:Value):Hp→Prop:=q0p (stepL ⟨prog,w0,46,qqa⟩ (drw w0 46) (q0v qqr 0)) m (q0s [(4,x4),(5,x5),(6,x6),(8,x8),(19,x19),(20,x20),(21,x21)]) [λ t=>k0 (t 4) (t 5) (t 6) (t 8),λ t=>kr (t 4) (t 5) (t 6) (t 8)]
theorem q04m (w0:World) (k0 kr:Ko4):∀ m,qqb w0 k0 kr m=q85 prog w0 k0 kr m:=by
 intro m
 induction m with
 | zero=>kernel_rfl
 | succ m ih=>
  show _=λ x4 x5 x6 x8 x19 x20 x21=>qe9 prog w0 (q85 prog w0 k0 kr m) k0 kr x4 x5 x6 x8 x19 x20 x21
  rw [← ih]
  kernel_rfl
theorem q04i (w0:World):qqq prog w0=λ k0 kr x4 x5 x6 x8 x19 x20 x21 h=>∃ m,qqb w0 k0 kr m x4 x5 x6 x8 x19 x20 x21 h:=by
 funext k0 kr x4 x5 x6 x8 x19 x20 x21 h
 simp only [q04m]
 rfl
theorem q072 {w0:World} {a0 a1:Value} (hj:∀ v,v∈[a0,a1]→v≠junk) (hv:qix prog w0 a0 a1 R h):qf prog w0 qiz [a0,a1] h R:=
 q03 qqr qqa 46 (by kernel_rfl) (by kernel_rfl) (by simp) hj (by
  unfold qix
  rw [q04i w0]
  kernel_rfl) hv
abbrev q0a9:Func:=f35
def q0a2:List (Nat × List Nat × List Nat):=[]
def qtq (a0:Value) (R:qh):Hp→Prop:=
 q15 true 3 a0 λ b=>
 qw w0 b 3 λ d=>
 qi P w0 qjk [d] λ e=>
 qb (unA .not e) λ g=>
 qt g (
 qo [(.pointer none),(.int .i64 140)] R) (
 qz (qw w0 b 3) λ c=>
 q0d [
 (mkA 1 24 [(.slice none 0 0)] (.int .i64 16) (.int .i64 16) λ i=>
 q0c [(q26 (qw w0 b 3) c)] (
 q0d [
 (q1t [(0,3,true,c),(4,1,false,i)] [(.int .i64 0),(.int .i64 0),(.int .i64 0),(.slice none 0 0),(.slice none 0 0)] λ j=>
 q0c [] (
 q0d [
 (q15 true 5 j λ l=>
 q0c [] (
 qc (λ K=>K l) λ o=>
 qc (λ K=>K (.int .i64 0)) λ s=>
 q0y (
 qo [o,s] R)))]))]))])
theorem q0aw {w0:World} {a0:Value} (hj:∀ v,v∈[a0]→v≠junk) (hv:qtq prog w0 a0 R h):qf prog w0 qk3 [a0] h R:=
 q03 q0a9 q0a2 11 (by kernel_rfl) (by kernel_rfl) (by simp) hj (by
  kernel_rfl) hv
abbrev qph:Func:=f66
def qpg:List (Nat × List Nat × List Nat):=[(3,[0,3,4],[3])]
def qdw (R:Ko3) (k0:Ko1) (x0 x3 x4:Value):Hp→Prop:=
 qb (qd .lss x4 (.int .i64 16)) λ c=>
 qt c (
 q02 x0 λ d=>
 qk d 4 λ e=>
 qg w0 e λ g=>
 q04 1 g x4 λ i=>
 qg w0 i λ j=>
 qb (q05 j) λ l=>
 qb (qd .gtr l (.int .i64 0)) λ b=>
 qe b false (λ K=>K x0) λ o=>
 qe b false (λ K=>K x4) λ s=>
 qe b false (qi P w0 qi7 [o,s]) λ u=>
 q0a b (.bool true) u λ v=>
 qt v (
 q02 x0 λ z=>
 qk z 4 λ ba=>
 qg w0 ba λ bb=>
 q04 1 bb x4 λ bc=>
 qg w0 bc λ bd=>
 qb (q05 bd) λ be=>
 q0j [(0,1,false,be)] (q00 [(.int .i64 0)] 1) 1 1 λ bf=>
 q0h w0 1 8 x3 bf λ bg=>
 qb (qd .add x4 (.int .i64 1)) λ bh=>
 R x0 bg bh) (
 qb (qd .add x4 (.int .i64 1)) λ bi=>
 R x0 x3 bi)) (
 k0 x3)
def q5y (P:Program) (w0:World) (k0:Ko1):Nat→Value→Value→Value→Hp→Prop
 | 0,_,_,_=>λ _=>False
 | m + 1,x0,x3,x4=>qdw P w0 (q5y P w0 k0 m) k0 x0 x3 x4
def qpj (k0:Ko1) (x0 x3 x4:Value):Hp→Prop:=λ h=>∃ m,q5y P w0 k0 m x0 x3 x4 h
def qii (a0:Value) (R:qh):Hp→Prop:=
 qpj P w0 (λ b=>
 qo [b] R) a0 (.slice none 0 0) (.int .i64 0)
def qpk (w0:World) (k0:Ko1) (m:Nat) (x0 x3 x4:Value):Hp→Prop:=q0p (stepL ⟨prog,w0,35,qpg⟩ (drw w0 35) (q0v qph 0)) m (q0s [(0,x0),(3,x3),(4,x4)]) [λ t=>k0 (t 3)]
theorem q03n (w0:World) (k0:Ko1):∀ m,qpk w0 k0 m=q5y prog w0 k0 m:=by
 intro m
 induction m with
 | zero=>kernel_rfl
 | succ m ih=>
  show _=λ x0 x3 x4=>qdw prog w0 (q5y prog w0 k0 m) k0 x0 x3 x4
  rw [← ih]
  kernel_rfl
theorem q03l (w0:World):qpj prog w0=λ k0 x0 x3 x4 h=>∃ m,qpk w0 k0 m x0 x3 x4 h:=by
 funext k0 x0 x3 x4 h
 simp only [q03n]
 rfl
theorem q04j {w0:World} {a0:Value} (hj:∀ v,v∈[a0]→v≠junk) (hv:qii prog w0 a0 R h):qf prog w0 qe1 [a0] h R:=
 q03 qph qpg 35 (by kernel_rfl) (by kernel_rfl) (by simp) hj (by
  unfold qii
  rw [q03l w0]
  kernel_rfl) hv
abbrev qi4:Func:=f76
def qi5:List (Nat × List Nat × List Nat):=[(3,[1,2,7,21,22,23],[1,2,7]),(9,[10,35,36,37],[10])]
def qdt (P:Program) (w0:World) (R:Ko6) (k0:Ko3) (x1 x2 x7 x21 x22 x23:Value):Hp→Prop:=
 qb (qd .lss x23 x22) λ b=>
 qt b (
 q04 1 x21 x23 λ c=>
 qg w0 c λ d=>
 q0h w0 1 24 x7 d λ e=>
 qb (qd .add x23 (.int .i64 1)) λ g=>
 R x1 x2 e x21 x22 g) (
 k0 x1 x2 x7)
def q7u (P:Program) (w0:World) (k0:Ko3):Nat→Value→Value→Value→Value→Value→Value→Hp→Prop
 | 0,_,_,_,_,_,_=>λ _=>False
 | m + 1,x1,x2,x7,x21,x22,x23=>qdt P w0 (q7u P w0 k0 m) k0 x1 x2 x7 x21 x22 x23
def qp7 (k0:Ko3) (x1 x2 x7 x21 x22 x23:Value):Hp→Prop:=λ h=>∃ m,q7u P w0 k0 m x1 x2 x7 x21 x22 x23 h
def qdu (P:Program) (w0:World) (R:Ko4) (k2:Ko1) (x10 x35 x36 x37:Value):Hp→Prop:=
 qb (qd .lss x37 x36) λ c=>
 qt c (
 q04 3 x35 x37 λ d=>
 qw w0 d 3 λ e=>
 q0u [(.string .empty),(.string .empty),(.bool false)] 3 λ b=>
 q0k w0 b e 3 λ _=>
 qk b 0 λ g=>
 qg w0 g λ i=>
 qk b 1 λ j=>
 qg w0 j λ l=>
 q1t [(0,1,false,i),(1,1,false,l)] [(.string .empty),(.string .empty)] λ o=>
 q0j [(0,2,true,o)] (q00 [(.string .empty),(.string .empty)] 1) 1 2 λ s=>
 q0h w0 2 32 x10 s λ u=>
 qb (qd .add x37 (.int .i64 1)) λ v=>
 R u x35 x36 v) (
 k2 x10)
def q7w (P:Program) (w0:World) (k2:Ko1):Nat→Value→Value→Value→Value→Hp→Prop
 | 0,_,_,_,_=>λ _=>False
 | m + 1,x10,x35,x36,x37=>qdu P w0 (q7w P w0 k2 m) k2 x10 x35 x36 x37
def qpf (k2:Ko1) (x10 x35 x36 x37:Value):Hp→Prop:=λ h=>∃ m,q7w P w0 k2 m x10 x35 x36 x37 h
def qie (a0 a1 a2:Value) (R:qh):Hp→Prop:=
 q02 a0 λ d=>
 qk d 3 λ e=>
 qg w0 e λ g=>
 q0j [(0,1,false,g)] (q00 [(.slice none 0 0)] 1) 1 1 λ i=>
 q02 a0 λ j=>
 qk j 4 λ l=>
 qg w0 l λ b=>
 qb (q05 b) λ o=>
 qp7 P w0 (λ s u v=>
 qi P w0 qez [v,(.bool true)] λ z=>
 qi P w0 qjx [z,s,u] λ c=>
 qb (q05 c) λ ba=>
 qpf P w0 (λ bb=>
 qo [bb] R) (.slice none 0 0) c ba (.int .i64 0)) a1 a2 i b o (.int .i64 0)
def qp8 (w0:World) (k2:Ko1) (m:Nat) (x10 x35 x36 x37:Value):Hp→Prop:=q0p (stepL ⟨prog,w0,51,qi5⟩ (drw w0 51) (q0v qi4 1)) m (q0s [(10,x10),(35,x35),(36,x36),(37,x37)]) [λ t=>k2 (t 10)]
theorem q03c (w0:World) (k2:Ko1):∀ m,qp8 w0 k2 m=q7w prog w0 k2 m:=by
 intro m
 induction m with
 | zero=>kernel_rfl
 | succ m ih=>
  show _=λ x10 x35 x36 x37=>qdu prog w0 (q7w prog w0 k2 m) k2 x10 x35 x36 x37
  rw [← ih]
  kernel_rfl
theorem q03h (w0:World):qpf prog w0=λ k2 x10 x35 x36 x37 h=>∃ m,qp8 w0 k2 m x10 x35 x36 x37 h:=by
 funext k2 x10 x35 x36 x37 h
 simp only [q03c]
 rfl
def qpd (w0:World) (k0:Ko3) (m:Nat) (x1 x2 x7 x21 x22 x23:Value):Hp→Prop:=q0p (stepL ⟨prog,w0,51,qi5⟩ (drw w0 51) (q0v qi4 0)) m (q0s [(1,x1),(2,x2),(7,x7),(21,x21),(22,x22),(23,x23)]) [λ t=>k0 (t 1) (t 2) (t 7)]
theorem q03j (w0:World) (k0:Ko3):∀ m,qpd w0 k0 m=q7u prog w0 k0 m:=by
 intro m
 induction m with
 | zero=>kernel_rfl
 | succ m ih=>
  show _=λ x1 x2 x7 x21 x22 x23=>qdt prog w0 (q7u prog w0 k0 m) k0 x1 x2 x7 x21 x22 x23
  rw [← ih]
  kernel_rfl
theorem q03g (w0:World):qp7 prog w0=λ k0 x1 x2 x7 x21 x22 x23 h=>∃ m,qpd w0 k0 m x1 x2 x7 x21 x22 x23 h:=by
 funext k0 x1 x2 x7 x21 x22 x23 h
 simp only [q03j]
 rfl
theorem q04c {w0:World} {a0 a1 a2:Value} (hj:∀ v,v∈[a0,a1,a2]→v≠junk) (hv:qie prog w0 a0 a1 a2 R h):qf prog w0 qic [a0,a1,a2] h R:=
 q03 qi4 qi5 51 (by kernel_rfl) (by kernel_rfl) (by simp) hj (by
  unfold qie
  rw [q03g w0,q03h w0]
  kernel_rfl) hv
abbrev q07p:Func:=f89
def q07l:List (Nat × List Nat × List Nat):=[]
def qsz (P:Program) (w0:World) (a0:Value) (R:qh):Hp→Prop:=
 q15 true 3 a0 λ b=>
 qk b 0 λ j=>
 qg w0 j λ l=>
 qb (qd .geq l (.int .i64 256)) λ c=>
 qe c true (qk b 0) λ o=>
 qe c true (qg w0 o) λ s=>
 qe c true (qb (qd .leq s (.int .i64 4096))) λ u=>
 q0a c u (.bool false) λ d=>
 qe d true (qk b 1) λ v=>
 qe d true (qg w0 v) λ z=>
 qe d true (qb (qd .geq z (.int .i64 2))) λ ba=>
 q0a d ba (.bool false) λ e=>
 qe e true (qk b 1) λ bb=>
 qe e true (qg w0 bb) λ bc=>
 qe e true (qb (qd .leq bc (.int .i64 16))) λ bd=>
 q0a e bd (.bool false) λ g=>
 qe g true (qk b 2) λ be=>
 qe g true (qg w0 be) λ bf=>
 qe g true (qb (qd .geq bf (.int .i64 1))) λ bg=>
 q0a g bg (.bool false) λ i=>
 qe i true (qk b 2) λ bh=>
 qe i true (qg w0 bh) λ bi=>
 qe i true (qb (qd .leq bi (.int .i64 4096))) λ bj=>
 q0a i bj (.bool false) λ bk=>
 qo [bk] R
theorem q09r {w0:World} {a0:Value} (hj:∀ v,v∈[a0]→v≠junk) (hv:qsz prog w0 a0 R h):qf prog w0 qjk [a0] h R:=
 q03 q07p q07l 31 (by kernel_rfl) (by kernel_rfl) (by simp) hj (by
  kernel_rfl) hv
abbrev qoy:Func:=f119
def qp3:List (Nat × List Nat × List Nat):=[(2,[0,4,5],[4])]
def qds (P:Program) (w0:World) (R:Ko3) (k0 kr:Ko1) (x0 x4 x5:Value):Hp→Prop:=
 qb (qd .lss x5 (.int .i64 16)) λ b=>
 qt b (
 q02 x0 λ c=>
 qk c 4 λ d=>
 qg w0 d λ e=>
 q04 1 e x5 λ g=>
 qg w0 g λ i=>
 qb (q05 i) λ j=>
 qb (qd .gtr j (.int .i64 0)) λ l=>
 qt l (
 kr (.bool true)) (
 qb (qd .add x5 (.int .i64 1)) λ o=>
 R x0 x4 o)) (
 k0 x4)
def q7s (P:Program) (w0:World) (k0 kr:Ko1):Nat→Value→Value→Value→Hp→Prop
 | 0,_,_,_=>λ _=>False
 | m + 1,x0,x4,x5=>qds P w0 (q7s P w0 k0 kr m) k0 kr x0 x4 x5
def qp0 (k0 kr:Ko1) (x0 x4 x5:Value):Hp→Prop:=λ h=>∃ m,q7s P w0 k0 kr m x0 x4 x5 h
def qib (a0 a1:Value) (R:qh):Hp→Prop:=
 qb (qd .add a1 (.int .i64 1)) λ b=>
 qp0 P w0 (λ d=>
 qo [(.bool false)] R) (λ c=>
 qo [c] R) a0 (.bool false) b
def qoz (w0:World) (k0 kr:Ko1) (m:Nat) (x0 x4 x5:Value):Hp→Prop:=q0p (stepL ⟨prog,w0,21,qp3⟩ (drw w0 21) (q0v qoy 0)) m (q0s [(0,x0),(4,x4),(5,x5)]) [λ t=>k0 (t 4),λ t=>kr (t 4)]
theorem q036 (w0:World) (k0 kr:Ko1):∀ m,qoz w0 k0 kr m=q7s prog w0 k0 kr m:=by
 intro m
 induction m with
 | zero=>kernel_rfl
 | succ m ih=>
  show _=λ x0 x4 x5=>qds prog w0 (q7s prog w0 k0 kr m) k0 kr x0 x4 x5
  rw [← ih]
  kernel_rfl
theorem q02z (w0:World):qp0 prog w0=λ k0 kr x0 x4 x5 h=>∃ m,qoz w0 k0 kr m x0 x4 x5 h:=by
 funext k0 kr x0 x4 x5 h
 simp only [q036]
 rfl
theorem q042 {w0:World} {a0 a1:Value} (hj:∀ v,v∈[a0,a1]→v≠junk) (hv:qib prog w0 a0 a1 R h):qf prog w0 qi7 [a0,a1] h R:=
 q03 qoy qp3 21 (by kernel_rfl) (by kernel_rfl) (by simp) hj (by
  unfold qib
  rw [q02z w0]
  kernel_rfl) hv
end
end Go.Proofs.YtfmoemconapmhaaGreat.Ah
