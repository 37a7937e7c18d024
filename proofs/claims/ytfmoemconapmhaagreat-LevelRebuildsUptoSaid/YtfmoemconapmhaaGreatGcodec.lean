/- PRINTED by wip/tools/shallow.py: functions of the program as readable words, and that each is what its text says. -/
import Derived.Test.YtfmoemconapmhaaGreatGn
set_option linter.all false
namespace Go.Proofs.YtfmoemconapmhaaGreat.Ah
open Go Go.Proofs.Tryz
noncomputable section
variable (P:Program) (w0:World) {h:Hp} {R:qh}
abbrev q09d:Func:=f55
def q09a:List (Nat × List Nat × List Nat):=[]
def qtj (P:Program) (w0:World) (a0:Value) (R:qh):Hp→Prop:=
 q1t [(0,1,false,a0)] [(.string .empty),(.int .i64 0)] λ b=>
 q15 true 2 b λ c=>
 qo [c] R
theorem q09w {w0:World} {a0:Value} (hj:∀ v,v∈[a0]→v≠junk) (hv:qtj prog w0 a0 R h):qf prog w0 qbr [a0] h R:=
 q03 q09d q09a 6 (by kernel_rfl) (by kernel_rfl) (by simp) hj (by
  kernel_rfl) hv
abbrev q09o:Func:=f56
def q09u:List (Nat × List Nat × List Nat):=[]
def qtk (P:Program) (w0:World) (a0:Value) (R:qh):Hp→Prop:=
 qb (q3x q9q a0 [(.int .i64 0)]) λ b=>
 q1t [(0,1,false,b)] [(.int .i64 0),(.slice none 0 0),(.bool false)] λ c=>
 q15 true 3 c λ d=>
 qo [d] R
theorem q0a4 {w0:World} {a0:Value} (hj:∀ v,v∈[a0]→v≠junk) (hv:qtk prog w0 a0 R h):qf prog w0 qa5 [a0] h R:=
 q03 q09o q09u 7 (by kernel_rfl) (by kernel_rfl) (by simp) hj (by
  kernel_rfl) hv
abbrev q05y:Func:=f57
def q05f:List (Nat × List Nat × List Nat):=[]
def q06i (a0 a1:Value) (R:qh):Hp→Prop:=
 qi P w0 qfb [a1] λ b=>
 qi P w0 q6x [a0,b] λ c=>
 qo [] R
theorem q06l {w0:World} {a0 a1:Value} (hj:∀ v,v∈[a0,a1]→v≠junk) (hv:q06i prog w0 a0 a1 R h):qf prog w0 q5z [a0,a1] h R:=
 q03 q05y q05f 8 (by kernel_rfl) (by kernel_rfl) (by simp) hj (by
  kernel_rfl) hv
abbrev qks:Func:=f59
def qkm:List (Nat × List Nat × List Nat):=[(3,[0,3,6,7],[3]),(7,[0,3,6,7,16],[0,3,6,7])]
def qfj (P:Program) (w0:World) (R:Ko5) (k2:Ko4) (x0 x3 x6 x7 x16:Value):Hp→Prop:=
 qb (qd .lss x16 (.int .i64 8)) λ b=>
 qt b (
 qb (qd .shr x3 (.int .u64 1)) λ c=>
 qb (qd .and x3 (.int .u32 1)) λ d=>
 qb (unA .neg d) λ e=>
 qb (qd .and (.int .u32 2197175160) e) λ g=>
 qb (qd .xor c g) λ i=>
 qb (qd .add x16 (.int .i64 1)) λ j=>
 R x0 i x6 x7 j) (
 k2 x0 x3 x6 x7)
def q91 (P:Program) (w0:World) (k2:Ko4):Nat→Value→Value→Value→Value→Value→Hp→Prop
 | 0,_,_,_,_,_=>λ _=>False
 | m + 1,x0,x3,x6,x7,x16=>qfj P w0 (q91 P w0 k2 m) k2 x0 x3 x6 x7 x16
def qvo (k2:Ko4) (x0 x3 x6 x7 x16:Value):Hp→Prop:=λ h=>∃ m,q91 P w0 k2 m x0 x3 x6 x7 x16 h
def qbv (R:Ko4) (k0:Ko1) (x0 x3 x6 x7:Value):Hp→Prop:=
 qb (qd .lss x7 x6) λ b=>
 qt b (
 qb (q3t x0 x7) λ c=>
 qb (q0t .u32 c) λ d=>
 qb (qd .xor x3 d) λ e=>
 qvo P w0 (λ g i j l=>
 qb (qd .add l (.int .i64 1)) λ o=>
 R g i j o) x0 e x6 x7 (.int .i64 0)) (
 k0 x3)
def q92 (P:Program) (w0:World) (k0:Ko1):Nat→Value→Value→Value→Value→Hp→Prop
 | 0,_,_,_,_=>λ _=>False
 | m + 1,x0,x3,x6,x7=>qbv P w0 (q92 P w0 k0 m) k0 x0 x3 x6 x7
def qv6 (k0:Ko1) (x0 x3 x6 x7:Value):Hp→Prop:=λ h=>∃ m,q92 P w0 k0 m x0 x3 x6 x7 h
def ql5 (a0:Value) (R:qh):Hp→Prop:=
 qb (q1d a0) λ b=>
 qv6 P w0 (λ c=>
 qb (unA .xor c) λ d=>
 qo [d] R) a0 (.int .u32 4294967295) b (.int .i64 0)
def qvq (w0:World) (k2:Ko4) (m:Nat) (x0 x3 x6 x7 x16:Value):Hp→Prop:=q0p (stepL ⟨prog,w0,29,qkm⟩ (drw w0 29) (q0v qks 1)) m (q0s [(0,x0),(3,x3),(6,x6),(7,x7),(16,x16)]) [λ t=>k2 (t 0) (t 3) (t 6) (t 7)]
theorem q0bp (w0:World) (k2:Ko4):∀ m,qvq w0 k2 m=q91 prog w0 k2 m:=by
 intro m
 induction m with
 | zero=>kernel_rfl
 | succ m ih=>
  show _=λ x0 x3 x6 x7 x16=>qfj prog w0 (q91 prog w0 k2 m) k2 x0 x3 x6 x7 x16
  rw [← ih]
  kernel_rfl
theorem q0ay (w0:World):qvo prog w0=λ k2 x0 x3 x6 x7 x16 h=>∃ m,qvq w0 k2 m x0 x3 x6 x7 x16 h:=by
 funext k2 x0 x3 x6 x7 x16 h
 simp only [q0bp]
 rfl
def qv8 (w0:World) (k0:Ko1) (m:Nat) (x0 x3 x6 x7:Value):Hp→Prop:=q0p (stepL ⟨prog,w0,29,qkm⟩ (drw w0 29) (q0v qks 0)) m (q0s [(0,x0),(3,x3),(6,x6),(7,x7)]) [λ t=>k0 (t 3)]
theorem q0bl (w0:World) (k0:Ko1):∀ m,qv8 w0 k0 m=q92 prog w0 k0 m:=by
 intro m
 induction m with
 | zero=>kernel_rfl
 | succ m ih=>
  show _=λ x0 x3 x6 x7=>qbv prog w0 (q92 prog w0 k0 m) k0 x0 x3 x6 x7
  rw [← ih]
  unfold qbv
  rw [q0ay w0]
  kernel_rfl
theorem q0b9 (w0:World):qv6 prog w0=λ k0 x0 x3 x6 x7 h=>∃ m,qv8 w0 k0 m x0 x3 x6 x7 h:=by
 funext k0 x0 x3 x6 x7 h
 simp only [q0bl]
 rfl
theorem q0fg {w0:World} {a0:Value} (hj:∀ v,v∈[a0]→v≠junk) (hv:ql5 prog w0 a0 R h):qf prog w0 qac [a0] h R:=
 q03 qks qkm 29 (by kernel_rfl) (by kernel_rfl) (by simp) hj (by
  unfold ql5
  rw [q0b9 w0]
  kernel_rfl) hv
abbrev q07a:Func:=f60
def q06z:List (Nat × List Nat × List Nat):=[]
def qrz (P:Program) (w0:World) (a0:Value) (R:qh):Hp→Prop:=
 qb (q1g .eql a0 (.pointer none)) λ b=>
 qt b (
 qo [(.string .empty),(.int .i64 6)] R) (
 q02 a0 λ c=>
 qk c 2 λ d=>
 qg w0 d λ e=>
 qt e (
 qo [(.string .empty),(.int .i64 3)] R) (
 q02 a0 λ g=>
 qk g 1 λ i=>
 qg w0 i λ j=>
 q1z w0 j λ l=>
 qo [l,(.int .i64 0)] R))
theorem q08o {w0:World} {a0:Value} (hj:∀ v,v∈[a0]→v≠junk) (hv:qrz prog w0 a0 R h):qf prog w0 q6v [a0] h R:=
 q03 q07a q06z 17 (by kernel_rfl) (by kernel_rfl) (by simp) hj (by
  kernel_rfl) hv
abbrev q0bv:Func:=f61
def q0bz:List (Nat × List Nat × List Nat):=[]
def quq (a0 a1:Value) (R:qh):Hp→Prop:=
 qb (q1d a1) λ e=>
 qb (qd .gtr e (.int .i64 1048576)) λ g=>
 qt g (
 qo [(.string .empty),(.int .i64 3)] R) (
 qb (q1d a1) λ i=>
 qb (qd .add (.int .i64 8) i) λ j=>
 qb (qd .add j (.int .i64 4)) λ l=>
 qi P w0 qa5 [l] λ b=>
 qi P w0 qbl [b,(.string ⟨#[68,70]⟩)] λ bb=>
 qi P w0 qf5 [b,a0] λ bc=>
 qi P w0 qf5 [b,(.int .u8 0)] λ bd=>
 qb (q1d a1) λ o=>
 qb (q0t .u32 o) λ s=>
 qi P w0 q8n [b,s] λ be=>
 qi P w0 qbl [b,a1] λ bf=>
 qi P w0 q6v [b] λ c=>
 qb (q0g c 0) λ u=>
 qb (q0g c 1) λ bg=>
 qi P w0 qac [u] λ v=>
 qi P w0 q8n [b,v] λ bh=>
 qi P w0 q6v [b] λ d=>
 qb (q0g d 0) λ z=>
 qb (q0g d 1) λ ba=>
 qo [z,ba] R)
theorem q0cv {w0:World} {a0 a1:Value} (hj:∀ v,v∈[a0,a1]→v≠junk) (hv:quq prog w0 a0 a1 R h):qf prog w0 qkd [a0,a1] h R:=
 q03 q0bv q0bz 45 (by kernel_rfl) (by kernel_rfl) (by simp) hj (by
  kernel_rfl) hv
abbrev q07y:Func:=f104
def q07u:List (Nat × List Nat × List Nat):=[]
def qt1 (a0 a1:Value) (R:qh):Hp→Prop:=
 qb (q1g .eql a0 (.pointer none)) λ b=>
 qe b false (λ K=>K a0) λ c=>
 qe b false (q02 c) λ d=>
 qe b false (qk d 1) λ e=>
 qe b false (qg w0 e) λ g=>
 qe b false (qb (qd .neq g (.int .i64 0))) λ i=>
 q0a b (.bool true) i λ j=>
 qt j (
 qo [(.string .empty)] R) (
 qb (qd .lss a1 (.int .i64 0)) λ l=>
 qt l (
 qi P w0 qa1 [a0,(.int .i64 1)] λ o=>
 qo [o] R) (
 q02 a0 λ s=>
 qk s 0 λ u=>
 qg w0 u λ v=>
 qb (q1d v) λ z=>
 qb (qd .gtr a1 z) λ ba=>
 qt ba (
 qi P w0 qa1 [a0,(.int .i64 20)] λ bb=>
 qo [bb] R) (
 q02 a0 λ bc=>
 qk bc 0 λ bd=>
 qg w0 bd λ be=>
 qb (q2y be none (some a1)) λ bf=>
 q02 a0 λ bg=>
 qk bg 0 λ bh=>
 qg w0 bh λ bi=>
 qb (q2y bi (some a1) none) λ bj=>
 q02 a0 λ bk=>
 qk bk 0 λ bl=>
 q0q w0 bl bj λ _=>
 qo [bf] R)))
theorem q09q {w0:World} {a0 a1:Value} (hj:∀ v,v∈[a0,a1]→v≠junk) (hv:qt1 prog w0 a0 a1 R h):qf prog w0 q63 [a0,a1] h R:=
 q03 q07y q07u 47 (by kernel_rfl) (by kernel_rfl) (by simp) hj (by
  kernel_rfl) hv
abbrev q099:Func:=f105
def q09e:List (Nat × List Nat × List Nat):=[]
def q0ae (a0:Value) (R:qh):Hp→Prop:=
 qi P w0 qek [a0,(.int .i64 1)] λ b=>
 qb (q0t .u8 b) λ c=>
 qo [c] R
theorem q0ag {w0:World} {a0:Value} (hj:∀ v,v∈[a0]→v≠junk) (hv:q0ae prog w0 a0 R h):qf prog w0 qa6 [a0] h R:=
 q03 q099 q09e 6 (by kernel_rfl) (by kernel_rfl) (by simp) hj (by
  kernel_rfl) hv
abbrev q08g:Func:=f106
def q088:List (Nat × List Nat × List Nat):=[]
def q09v (a0:Value) (R:qh):Hp→Prop:=
 qi P w0 qek [a0,(.int .i64 4)] λ b=>
 qb (q0t .u32 b) λ c=>
 qo [c] R
theorem q09c {w0:World} {a0:Value} (hj:∀ v,v∈[a0]→v≠junk) (hv:q09v prog w0 a0 R h):qf prog w0 qa3 [a0] h R:=
 q03 q08g q088 6 (by kernel_rfl) (by kernel_rfl) (by simp) hj (by
  kernel_rfl) hv
abbrev q07z:Func:=f107
def q07m:List (Nat × List Nat × List Nat):=[]
def qsq (P:Program) (w0:World) (a0:Value) (R:qh):Hp→Prop:=
 qb (q1g .eql a0 (.pointer none)) λ b=>
 qt b (
 qo [(.int .i64 6)] R) (
 q02 a0 λ c=>
 qk c 1 λ d=>
 qg w0 d λ e=>
 qo [e] R)
theorem q09j {w0:World} {a0:Value} (hj:∀ v,v∈[a0]→v≠junk) (hv:qsq prog w0 a0 R h):qf prog w0 q51 [a0] h R:=
 q03 q07z q07m 9 (by kernel_rfl) (by kernel_rfl) (by simp) hj (by
  kernel_rfl) hv
abbrev q05s:Func:=f108
def q05a:List (Nat × List Nat × List Nat):=[]
def qqd (a0:Value) (R:qh):Hp→Prop:=
 qb (q1g .eql a0 (.pointer none)) λ b=>
 qe b false (λ K=>K a0) λ e=>
 qe b false (q02 e) λ g=>
 qe b false (qk g 1) λ i=>
 qe b false (qg w0 i) λ j=>
 qe b false (qb (qd .neq j (.int .i64 0))) λ l=>
 q0a b (.bool true) l λ o=>
 qt o (
 qo [(.int .u64 0)] R) (
 q02 a0 λ s=>
 qk s 0 λ u=>
 qg w0 u λ v=>
 qi P w0 qkb [v] λ c=>
 qb (q0g c 0) λ z=>
 qb (q0g c 1) λ ba=>
 qb (q0g c 2) λ d=>
 qb (qd .neq d (.int .i64 0)) λ bb=>
 qt bb (
 qi P w0 qa1 [a0,d] λ bi=>
 qo [(.int .u64 0)] R) (
 q02 a0 λ bc=>
 qk bc 0 λ bd=>
 qg w0 bd λ be=>
 qb (q2y be (some ba) none) λ bf=>
 q02 a0 λ bg=>
 qk bg 0 λ bh=>
 q0q w0 bh bf λ _=>
 qo [z] R))
theorem q06n {w0:World} {a0:Value} (hj:∀ v,v∈[a0]→v≠junk) (hv:qqd prog w0 a0 R h):qf prog w0 qbg [a0] h R:=
 q03 q05s q05a 39 (by kernel_rfl) (by kernel_rfl) (by simp) hj (by
  kernel_rfl) hv
abbrev q084:Func:=f110
def q08h:List (Nat × List Nat × List Nat):=[]
def qsv (P:Program) (w0:World) (a0 a1:Value) (R:qh):Hp→Prop:=
 qb (q1g .eql a0 (.pointer none)) λ b=>
 qe b false (λ K=>K a0) λ c=>
 qe b false (q02 c) λ d=>
 qe b false (qk d 2) λ e=>
 qe b false (qg w0 e) λ g=>
 q0a b (.bool true) g λ i=>
 qt i (
 qo [] R) (
 qc (λ K=>K a1) λ j=>
 qc (qb (q05 j)) λ l=>
 qc (λ K=>K a0) λ o=>
 qc (q02 o) λ s=>
 qc (qk s 0) λ u=>
 qz (qg w0 u) λ v=>
 qc (λ K=>K a0) λ z=>
 qc (q02 z) λ ba=>
 qc (qk ba 1) λ bb=>
 qz (qg w0 bb) λ bc=>
 qc (qb (q05 bc)) λ bd=>
 qc (qb (qd .sub v bd)) λ be=>
 qc (qb (qd .gtr l be)) λ bf=>
 qc (λ K=>K bf) λ bg=>
 q0y (
 qt bg (
 q02 a0 λ bh=>
 qk bh 2 λ bi=>
 q0q w0 bi (.bool true) λ _=>
 qo [] R) (
 q02 a0 λ bj=>
 qk bj 1 λ bk=>
 qg w0 bk λ bl=>
 q0h w0 1 1 bl a1 λ bm=>
 q02 a0 λ bn=>
 qk bn 1 λ bo=>
 q0q w0 bo bm λ _=>
 qo [] R)))
theorem q09t {w0:World} {a0 a1:Value} (hj:∀ v,v∈[a0,a1]→v≠junk) (hv:qsv prog w0 a0 a1 R h):qf prog w0 q6x [a0,a1] h R:=
 q03 q084 q08h 39 (by kernel_rfl) (by kernel_rfl) (by simp) hj (by
  kernel_rfl) hv
abbrev qu1:Func:=f111
def qu4:List (Nat × List Nat × List Nat):=[(2,[0,3],[0,3])]
def qf9 (P:Program) (w0:World) (R k0:Ko2) (x0 x3:Value):Hp→Prop:=
 qb (qd .geq x0 (.int .u64 128)) λ b=>
 qt b (
 qb (q0t .u8 x0) λ c=>
 qb (qd .or c (.int .u8 128)) λ d=>
 q0j [(0,1,false,d)] (q00 [(.int .u8 0)] 1) 1 1 λ e=>
 q0h w0 1 1 x3 e λ g=>
 qb (qd .shr x0 (.int .u64 7)) λ i=>
 R i g) (
 k0 x0 x3)
def q8r (P:Program) (w0:World) (k0:Ko2):Nat→Value→Value→Hp→Prop
 | 0,_,_=>λ _=>False
 | m + 1,x0,x3=>qf9 P w0 (q8r P w0 k0 m) k0 x0 x3
def qu3 (k0:Ko2) (x0 x3:Value):Hp→Prop:=λ h=>∃ m,q8r P w0 k0 m x0 x3 h
def qub (a0:Value) (R:qh):Hp→Prop:=
 qu3 P w0 (λ b c=>
 qb (q0t .u8 b) λ d=>
 q0j [(0,1,false,d)] (q00 [(.int .u8 0)] 1) 1 1 λ e=>
 q0h w0 1 1 c e λ g=>
 qo [g] R) a0 (.slice none 0 0)
def qu2 (w0:World) (k0:Ko2) (m:Nat) (x0 x3:Value):Hp→Prop:=q0p (stepL ⟨prog,w0,19,qu4⟩ (drw w0 19) (q0v qu1 0)) m (q0s [(0,x0),(3,x3)]) [λ t=>k0 (t 0) (t 3)]
theorem q092 (w0:World) (k0:Ko2):∀ m,qu2 w0 k0 m=q8r prog w0 k0 m:=by
 intro m
 induction m with
 | zero=>kernel_rfl
 | succ m ih=>
  show _=λ x0 x3=>qf9 prog w0 (q8r prog w0 k0 m) k0 x0 x3
  rw [← ih]
  kernel_rfl
theorem q094 (w0:World):qu3 prog w0=λ k0 x0 x3 h=>∃ m,qu2 w0 k0 m x0 x3 h:=by
 funext k0 x0 x3 h
 simp only [q092]
 rfl
theorem q0ch {w0:World} {a0:Value} (hj:∀ v,v∈[a0]→v≠junk) (hv:qub prog w0 a0 R h):qf prog w0 qfb [a0] h R:=
 q03 qu1 qu4 19 (by kernel_rfl) (by kernel_rfl) (by simp) hj (by
  unfold qub
  rw [q094 w0]
  kernel_rfl) hv
abbrev q07v:Func:=f114
def q08j:List (Nat × List Nat × List Nat):=[]
def qso (a0 a1:Value) (R:qh):Hp→Prop:=
 q9s a1 λ b=>
 qi P w0 q6x [a0,b] λ c=>
 qo [] R
theorem q09s {w0:World} {a0 a1:Value} (hj:∀ v,v∈[a0,a1]→v≠junk) (hv:qso prog w0 a0 a1 R h):qf prog w0 qbl [a0,a1] h R:=
 q03 q07v q08j 8 (by kernel_rfl) (by kernel_rfl) (by simp) hj (by
  kernel_rfl) hv
abbrev q09g:Func:=f115
def q096:List (Nat × List Nat × List Nat):=[]
def q0ah (a0 a1:Value) (R:qh):Hp→Prop:=
 qi P w0 qqu [a0,a1,(.int .i64 1)] λ b=>
 qo [] R
theorem q0a8 {w0:World} {a0 a1:Value} (hj:∀ v,v∈[a0,a1]→v≠junk) (hv:q0ah prog w0 a0 a1 R h):qf prog w0 qf5 [a0,a1] h R:=
 q03 q09g q096 7 (by kernel_rfl) (by kernel_rfl) (by simp) hj (by
  kernel_rfl) hv
abbrev q07x:Func:=f116
def q08d:List (Nat × List Nat × List Nat):=[]
def q08x (a0 a1:Value) (R:qh):Hp→Prop:=
 qi P w0 qqn [a0,a1,(.int .i64 4)] λ b=>
 qo [] R
theorem q08s {w0:World} {a0 a1:Value} (hj:∀ v,v∈[a0,a1]→v≠junk) (hv:q08x prog w0 a0 a1 R h):qf prog w0 q8n [a0,a1] h R:=
 q03 q07x q08d 7 (by kernel_rfl) (by kernel_rfl) (by simp) hj (by
  kernel_rfl) hv
abbrev q06p:Func:=f134
def q076:List (Nat × List Nat × List Nat):=[]
def qrw (a0 a1:Value) (R:qh):Hp→Prop:=
 qb (q1d a1) λ b=>
 qb (q0t .u64 b) λ c=>
 qi P w0 qfb [c] λ d=>
 q0h w0 1 1 d a1 λ e=>
 qi P w0 q6x [a0,e] λ g=>
 qo [] R
theorem q07g {w0:World} {a0 a1:Value} (hj:∀ v,v∈[a0,a1]→v≠junk) (hv:qrw prog w0 a0 a1 R h):qf prog w0 qj7 [a0,a1] h R:=
 q03 q06p q076 12 (by kernel_rfl) (by kernel_rfl) (by simp) hj (by
  kernel_rfl) hv
abbrev q06f:Func:=f146
def q06h:List (Nat × List Nat × List Nat):=[]
def qqv (P:Program) (w0:World) (a0 a1:Value) (R:qh):Hp→Prop:=
 q02 a0 λ b=>
 qk b 1 λ c=>
 qg w0 c λ d=>
 qb (qd .eql d (.int .i64 0)) λ e=>
 qt e (
 q02 a0 λ g=>
 qk g 1 λ i=>
 q0q w0 i a1 λ _=>
 qo [(.string .empty)] R) (
 qo [(.string .empty)] R)
theorem q06v {w0:World} {a0 a1:Value} (hj:∀ v,v∈[a0,a1]→v≠junk) (hv:qqv prog w0 a0 a1 R h):qf prog w0 qa1 [a0,a1] h R:=
 q03 q06f q06h 14 (by kernel_rfl) (by kernel_rfl) (by simp) hj (by
  kernel_rfl) hv
abbrev qqs:Func:=f147
def qrd:List (Nat × List Nat × List Nat):=[(3,[5,11,12,13],[5])]
def qea (P:Program) (w0:World) (R:Ko4) (k0:Ko1) (x5 x11 x12 x13:Value):Hp→Prop:=
 qb (qd .lss x13 x12) λ b=>
 qt b (
 q04 1 x11 x13 λ c=>
 qg w0 c λ d=>
 qb (qd .shl x5 (.int .u64 8)) λ e=>
 qb (q0t .u64 d) λ g=>
 qb (qd .or e g) λ i=>
 qb (qd .add x13 (.int .i64 1)) λ j=>
 R i x11 x12 j) (
 k0 x5)
def q8b (P:Program) (w0:World) (k0:Ko1):Nat→Value→Value→Value→Value→Hp→Prop
 | 0,_,_,_,_=>λ _=>False
 | m + 1,x5,x11,x12,x13=>qea P w0 (q8b P w0 k0 m) k0 x5 x11 x12 x13
def qre (k0:Ko1) (x5 x11 x12 x13:Value):Hp→Prop:=λ h=>∃ m,q8b P w0 k0 m x5 x11 x12 x13 h
def qs8 (a0 a1:Value) (R:qh):Hp→Prop:=
 qi P w0 q63 [a0,a1] λ c=>
 q9s c λ b=>
 qb (q05 b) λ d=>
 qre P w0 (λ e=>
 qo [e] R) (.int .u64 0) b d (.int .i64 0)
def qr5 (w0:World) (k0:Ko1) (m:Nat) (x5 x11 x12 x13:Value):Hp→Prop:=q0p (stepL ⟨prog,w0,24,qrd⟩ (drw w0 24) (q0v qqs 0)) m (q0s [(5,x5),(11,x11),(12,x12),(13,x13)]) [λ t=>k0 (t 5)]
theorem q04t (w0:World) (k0:Ko1):∀ m,qr5 w0 k0 m=q8b prog w0 k0 m:=by
 intro m
 induction m with
 | zero=>kernel_rfl
 | succ m ih=>
  show _=λ x5 x11 x12 x13=>qea prog w0 (q8b prog w0 k0 m) k0 x5 x11 x12 x13
  rw [← ih]
  kernel_rfl
theorem q04u (w0:World):qre prog w0=λ k0 x5 x11 x12 x13 h=>∃ m,qr5 w0 k0 m x5 x11 x12 x13 h:=by
 funext k0 x5 x11 x12 x13 h
 simp only [q04t]
 rfl
theorem q07q {w0:World} {a0 a1:Value} (hj:∀ v,v∈[a0,a1]→v≠junk) (hv:qs8 prog w0 a0 a1 R h):qf prog w0 qek [a0,a1] h R:=
 q03 qqs qrd 24 (by kernel_rfl) (by kernel_rfl) (by simp) hj (by
  unfold qs8
  rw [q04u w0]
  kernel_rfl) hv
abbrev qu6:Func:=f148
def qua:List (Nat × List Nat × List Nat):=[(2,[0,2,3,4,8,9],[2,3,4])]
def q8u (P:Program) (w0:World) (R:Ko6) (k0 kr:Ko3) (x0 x2 x3 x4 x8 x9:Value):Hp→Prop:=
 qb (qd .lss x9 x8) λ g=>
 qt g (
 qb (q3t x0 x9) λ b=>
 qb (qd .eql x9 (.int .i64 9)) λ c=>
 qe c true (λ K=>K b) λ i=>
 qe c true (qb (qd .neq i (.int .u8 1))) λ j=>
 q0a c j (.bool false) λ l=>
 qt l (
 kr (.int .u64 0) (.int .i64 0) (.int .i64 21)) (
 qb (qd .and b (.int .u8 127)) λ o=>
 qb (q0t .u64 o) λ s=>
 qb (qd .mul (.int .i64 7) x9) λ u=>
 qb (qd .shl s u) λ v=>
 qb (qd .or x2 v) λ e=>
 qb (qd .lss b (.int .u8 128)) λ z=>
 qt z (
 qb (qd .eql b (.int .u8 0)) λ d=>
 qe d true (λ K=>K x9) λ ba=>
 qe d true (qb (qd .gtr ba (.int .i64 0))) λ bb=>
 q0a d bb (.bool false) λ bc=>
 qt bc (
 kr (.int .u64 0) (.int .i64 0) (.int .i64 21)) (
 qb (qd .add x9 (.int .i64 1)) λ bd=>
 kr e bd (.int .i64 0))) (
 qb (qd .add x9 (.int .i64 1)) λ be=>
 R x0 e x3 x4 x8 be))) (
 k0 x2 x3 x4)
def q65 (P:Program) (w0:World) (k0 kr:Ko3):Nat→Value→Value→Value→Value→Value→Value→Hp→Prop
 | 0,_,_,_,_,_,_=>λ _=>False
 | m + 1,x0,x2,x3,x4,x8,x9=>q8u P w0 (q65 P w0 k0 kr m) k0 kr x0 x2 x3 x4 x8 x9
def qu9 (k0 kr:Ko3) (x0 x2 x3 x4 x8 x9:Value):Hp→Prop:=λ h=>∃ m,q65 P w0 k0 kr m x0 x2 x3 x4 x8 x9 h
def qkg (a0:Value) (R:qh):Hp→Prop:=
 qb (q1d a0) λ b=>
 qu9 P w0 (λ g i j=>
 qo [(.int .u64 0),(.int .i64 0),(.int .i64 20)] R) (λ c d e=>
 qo [c,d,e] R) a0 (.int .u64 0) (.int .i64 0) (.int .i64 0) b (.int .i64 0)
def que (w0:World) (k0 kr:Ko3) (m:Nat) (x0 x2 x3 x4 x8 x9:Value):Hp→Prop:=q0p (stepL ⟨prog,w0,41,qua⟩ (drw w0 41) (q0v qu6 0)) m (q0s [(0,x0),(2,x2),(3,x3),(4,x4),(8,x8),(9,x9)]) [λ t=>k0 (t 2) (t 3) (t 4),λ t=>kr (t 2) (t 3) (t 4)]
theorem q0a3 (w0:World) (k0 kr:Ko3):∀ m,que w0 k0 kr m=q65 prog w0 k0 kr m:=by
 intro m
 induction m with
 | zero=>kernel_rfl
 | succ m ih=>
  show _=λ x0 x2 x3 x4 x8 x9=>q8u prog w0 (q65 prog w0 k0 kr m) k0 kr x0 x2 x3 x4 x8 x9
  rw [← ih]
  kernel_rfl
theorem q0aa (w0:World):qu9 prog w0=λ k0 kr x0 x2 x3 x4 x8 x9 h=>∃ m,que w0 k0 kr m x0 x2 x3 x4 x8 x9 h:=by
 funext k0 kr x0 x2 x3 x4 x8 x9 h
 simp only [q0a3]
 rfl
theorem q0d6 {w0:World} {a0:Value} (hj:∀ v,v∈[a0]→v≠junk) (hv:qkg prog w0 a0 R h):qf prog w0 qkb [a0] h R:=
 q03 qu6 qua 41 (by kernel_rfl) (by kernel_rfl) (by simp) hj (by
  unfold qkg
  rw [q0aa w0]
  kernel_rfl) hv
abbrev qq8:Func:=f149
def qqm:List (Nat × List Nat × List Nat):=[(2,[0,1,2,6,11,12],[0,6])]
def qip (P:Program) (w0:World) (R:Ko6) (k0:Ko2) (x0 x1 x2 x6 x11 x12:Value):Hp→Prop:=
 qb (qd .lss x12 x11) λ b=>
 qt b (
 qb (qd .sub x2 (.int .i64 1)) λ c=>
 qb (qd .sub c x12) λ d=>
 q04 1 x6 d λ e=>
 q0q w0 e x1 λ _=>
 qb (qd .shr x1 (.int .u64 4)) λ g=>
 qb (qd .shr g (.int .u64 4)) λ i=>
 qb (qd .add x12 (.int .i64 1)) λ j=>
 R x0 i x2 x6 x11 j) (
 k0 x0 x6)
def qbf (P:Program) (w0:World) (k0:Ko2):Nat→Value→Value→Value→Value→Value→Value→Hp→Prop
 | 0,_,_,_,_,_,_=>λ _=>False
 | m + 1,x0,x1,x2,x6,x11,x12=>qip P w0 (qbf P w0 k0 m) k0 x0 x1 x2 x6 x11 x12
def qiu (k0:Ko2) (x0 x1 x2 x6 x11 x12:Value):Hp→Prop:=λ h=>∃ m,qbf P w0 k0 m x0 x1 x2 x6 x11 x12 h
def qeb (a0 a1 a2:Value) (R:qh):Hp→Prop:=
 mkA 1 1 [(.int .u8 0)] a2 a2 λ b=>
 qb (q05 b) λ c=>
 qiu P w0 (λ d e=>
 qi P w0 q6x [d,e] λ g=>
 qo [] R) a0 a1 a2 b c (.int .i64 0)
def qqf (w0:World) (k0:Ko2) (m:Nat) (x0 x1 x2 x6 x11 x12:Value):Hp→Prop:=q0p (stepL ⟨prog,w0,30,qqm⟩ (drw w0 30) (q0v qq8 0)) m (q0s [(0,x0),(1,x1),(2,x2),(6,x6),(11,x11),(12,x12)]) [λ t=>k0 (t 0) (t 6)]
theorem q04l (w0:World) (k0:Ko2):∀ m,qqf w0 k0 m=qbf prog w0 k0 m:=by
 intro m
 induction m with
 | zero=>kernel_rfl
 | succ m ih=>
  show _=λ x0 x1 x2 x6 x11 x12=>qip prog w0 (qbf prog w0 k0 m) k0 x0 x1 x2 x6 x11 x12
  rw [← ih]
  kernel_rfl
theorem q04q (w0:World):qiu prog w0=λ k0 x0 x1 x2 x6 x11 x12 h=>∃ m,qqf w0 k0 m x0 x1 x2 x6 x11 x12 h:=by
 funext k0 x0 x1 x2 x6 x11 x12 h
 simp only [q04l]
 rfl
theorem q06x {w0:World} {a0 a1 a2:Value} (hj:∀ v,v∈[a0,a1,a2]→v≠junk) (hv:qeb prog w0 a0 a1 a2 R h):qf prog w0 qqu [a0,a1,a2] h R:=
 q03 qq8 qqm 30 (by kernel_rfl) (by kernel_rfl) (by simp) hj (by
  unfold qeb
  rw [q04q w0]
  kernel_rfl) hv
abbrev qpv:Func:=f150
def qq6:List (Nat × List Nat × List Nat):=[(2,[0,1,2,6,11,12],[0,6])]
def qe5 (P:Program) (w0:World) (R:Ko6) (k0:Ko2) (x0 x1 x2 x6 x11 x12:Value):Hp→Prop:=
 qb (qd .lss x12 x11) λ b=>
 qt b (
 qb (qd .sub x2 (.int .i64 1)) λ c=>
 qb (qd .sub c x12) λ d=>
 qb (q0t .u8 x1) λ e=>
 q04 1 x6 d λ g=>
 q0q w0 g e λ _=>
 qb (qd .shr x1 (.int .u64 4)) λ i=>
 qb (qd .shr i (.int .u64 4)) λ j=>
 qb (qd .add x12 (.int .i64 1)) λ l=>
 R x0 j x2 x6 x11 l) (
 k0 x0 x6)
def q84 (P:Program) (w0:World) (k0:Ko2):Nat→Value→Value→Value→Value→Value→Value→Hp→Prop
 | 0,_,_,_,_,_,_=>λ _=>False
 | m + 1,x0,x1,x2,x6,x11,x12=>qe5 P w0 (q84 P w0 k0 m) k0 x0 x1 x2 x6 x11 x12
def qio (k0:Ko2) (x0 x1 x2 x6 x11 x12:Value):Hp→Prop:=λ h=>∃ m,q84 P w0 k0 m x0 x1 x2 x6 x11 x12 h
def qe6 (a0 a1 a2:Value) (R:qh):Hp→Prop:=
 mkA 1 1 [(.int .u8 0)] a2 a2 λ b=>
 qb (q05 b) λ c=>
 qio P w0 (λ d e=>
 qi P w0 q6x [d,e] λ g=>
 qo [] R) a0 a1 a2 b c (.int .i64 0)
def qq5 (w0:World) (k0:Ko2) (m:Nat) (x0 x1 x2 x6 x11 x12:Value):Hp→Prop:=q0p (stepL ⟨prog,w0,31,qq6⟩ (drw w0 31) (q0v qpv 0)) m (q0s [(0,x0),(1,x1),(2,x2),(6,x6),(11,x11),(12,x12)]) [λ t=>k0 (t 0) (t 6)]
theorem q045 (w0:World) (k0:Ko2):∀ m,qq5 w0 k0 m=q84 prog w0 k0 m:=by
 intro m
 induction m with
 | zero=>kernel_rfl
 | succ m ih=>
  show _=λ x0 x1 x2 x6 x11 x12=>qe5 prog w0 (q84 prog w0 k0 m) k0 x0 x1 x2 x6 x11 x12
  rw [← ih]
  kernel_rfl
theorem q046 (w0:World):qio prog w0=λ k0 x0 x1 x2 x6 x11 x12 h=>∃ m,qq5 w0 k0 m x0 x1 x2 x6 x11 x12 h:=by
 funext k0 x0 x1 x2 x6 x11 x12 h
 simp only [q045]
 rfl
theorem q06g {w0:World} {a0 a1 a2:Value} (hj:∀ v,v∈[a0,a1,a2]→v≠junk) (hv:qe6 prog w0 a0 a1 a2 R h):qf prog w0 qqn [a0,a1,a2] h R:=
 q03 qpv qq6 31 (by kernel_rfl) (by kernel_rfl) (by simp) hj (by
  unfold qe6
  rw [q046 w0]
  kernel_rfl) hv
abbrev q070:Func:=f159
def q06r:List (Nat × List Nat × List Nat):=[]
def q07o (a0:Value) (R:qh):Hp→Prop:=
 qi P w0 qbg [a0] λ c=>
 qb (q1g .eql a0 (.pointer none)) λ b=>
 qe b false (λ K=>K a0) λ d=>
 qe b false (q02 d) λ e=>
 qe b false (qk e 1) λ g=>
 qe b false (qg w0 g) λ i=>
 qe b false (qb (qd .neq i (.int .i64 0))) λ j=>
 q0a b (.bool true) j λ l=>
 qt l (
 qo [(.string .empty)] R) (
 q02 a0 λ o=>
 qk o 0 λ s=>
 qg w0 s λ u=>
 qb (q1d u) λ v=>
 qb (q0t .u64 v) λ z=>
 qb (qd .gtr c z) λ ba=>
 qt ba (
 qi P w0 qa1 [a0,(.int .i64 20)] λ bb=>
 qo [bb] R) (
 qb (q0t .i64 c) λ bc=>
 qi P w0 q63 [a0,bc] λ bd=>
 qo [bd] R))
theorem q07w {w0:World} {a0:Value} (hj:∀ v,v∈[a0]→v≠junk) (hv:q07o prog w0 a0 R h):qf prog w0 qjc [a0] h R:=
 q03 q070 q06r 29 (by kernel_rfl) (by kernel_rfl) (by simp) hj (by
  kernel_rfl) hv
abbrev q074:Func:=f171
def q07d:List (Nat × List Nat × List Nat):=[]
def qsc (P:Program) (w0:World) (a0:Value) (R:qh):Hp→Prop:=
 qb (q1g .eql a0 (.pointer none)) λ b=>
 qe b false (λ K=>K a0) λ c=>
 qe b false (q02 c) λ d=>
 qe b false (qk d 1) λ e=>
 qe b false (qg w0 e) λ g=>
 qe b false (qb (qd .neq g (.int .i64 0))) λ i=>
 q0a b (.bool true) i λ j=>
 qt j (
 qo [(.int .i64 0)] R) (
 q02 a0 λ l=>
 qk l 0 λ o=>
 qg w0 o λ s=>
 qb (q1d s) λ u=>
 qo [u] R)
theorem q083 {w0:World} {a0:Value} (hj:∀ v,v∈[a0]→v≠junk) (hv:qsc prog w0 a0 R h):qf prog w0 qjb [a0] h R:=
 q03 q074 q07d 17 (by kernel_rfl) (by kernel_rfl) (by simp) hj (by
  kernel_rfl) hv
end
end Go.Proofs.YtfmoemconapmhaaGreat.Ah
