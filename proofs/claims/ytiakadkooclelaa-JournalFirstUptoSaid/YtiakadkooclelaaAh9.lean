/- The words' soundness, continued: conversions that make memory, make, slices, lengths, append, copy, clear. -/
import Derived.Test.YtiakadkooclelaaAh8
set_option linter.unusedVariables false
set_option linter.unusedSimpArgs false
namespace Go.Proofs.Ytiakadkooclelaa.Ah
open Go

section
variable {P : Program} {w0 : World} {ι : Inj} {h : Hp} {w : World} {K : Kont}

theorem HRel.freeze_at (r : HRel w0 ι h w) {b : Nat} {arr : Array Value} {e : TypeId} {fr : Nat × Nat} (hb : w.heap[b]? = some (.cells arr e fr)) (hB : w0.heap.size ≤ b)
    (hu : ∀ i cs, w0.heap.size ≤ i → h.blk i = some cs → (ι i).β = b → 0 < (ι i).rsv → (ι i).sz = 1 ∧ h.um i = false) : HRel w0 ι h (w.freeze ⟨b, arr.size, none⟩ 1) := by
  obtain ⟨flo, fhi⟩ := fr
  have hlt := (Array.getElem?_eq_some_iff.1 hb).1
  have hw : (w.freeze ⟨b, arr.size, none⟩ 1).heap = w.heap.setIfInBounds b (.cells arr e (if flo == fhi then (arr.size, arr.size + 1) else (min flo arr.size, max fhi (arr.size + 1)))) := by
    unfold World.freeze
    rw [if_neg (by simp)]
    apply Array.ext_getElem?
    intro k
    simp only
    rw [Array.getElem?_modify, heap_set_get _ _ _ _ hlt]
    by_cases hk : k = b
    · rw [hk, if_pos rfl, if_pos rfl, hb]
      rfl
    · rw [if_neg (fun e => hk e.symm), if_neg hk]
  have hfz : (w.freeze ⟨b, arr.size, none⟩ 1).os = w.os ∧ (w.freeze ⟨b, arr.size, none⟩ 1).tape = w.tape ∧ (w.freeze ⟨b, arr.size, none⟩ 1).output = w.output := by
    unfold World.freeze; rw [if_neg (by simp)]; exact ⟨rfl, rfl, rfl⟩
  refine ⟨r.base, by rw [hw]; simpa using r.size, fun i hi => ?_, r.exta, hfz.1.trans r.os, hfz.2.1.trans r.tape, hfz.2.2.trans r.output, fun i c hi hc => ?_, r.apart, r.loops.cells hb fun i hi => by rw [hw, heap_set_get _ _ _ _ hlt, if_neg hi]⟩
  · rw [hw, heap_set_get _ _ _ _ hlt, if_neg (by omega)]
    exact r.ext i hi
  · obtain ⟨lt, len, sz, cell, row, cp, um⟩ := r.live i c hi hc
    refine ⟨lt, len, sz, cell, fun hp => ?_, cp, fun hq => ⟨(um hq).1, fun arr1 e1 lo hi1 hp hh => ?_⟩⟩
    rotate_left
    · by_cases hbb : (ι i).β = b
      · rw [(hu i c hi hc hbb hp).2] at hq; cases hq
      · rw [hw, heap_set_get _ _ _ _ hlt, if_neg hbb] at hh
        exact (um hq).2 _ _ _ _ hp hh
    obtain ⟨hB', arr1, e1, lo, hi1, hh, g1, g2, g3⟩ := row hp
    by_cases hbb : (ι i).β = b
    · have h1 := (hu i c hi hc hbb hp).1
      rw [hbb, hb] at hh
      obtain ⟨rfl, rfl, rfl, rfl⟩ : arr = arr1 ∧ e = e1 ∧ flo = lo ∧ fhi = hi1 := by simpa using hh
      by_cases he : flo = fhi
      · refine ⟨hB', arr, e, arr.size, arr.size + 1, by rw [hw, hbb, heap_set_get _ _ _ _ hlt, if_pos rfl, if_pos (by simpa using he)], g1, .inr ⟨Nat.le_refl _, h1⟩, g3⟩
      · have g4 := (g2.resolve_left he).1
        refine ⟨hB', arr, e, min flo arr.size, max fhi (arr.size + 1), by rw [hw, hbb, heap_set_get _ _ _ _ hlt, if_pos rfl, if_neg (by simpa using he)], g1, .inr ⟨by omega, h1⟩, g3⟩
    · exact ⟨hB', arr1, e1, lo, hi1, by rw [hw, heap_set_get _ _ _ _ hlt, if_neg hbb]; exact hh, g1, g2, g3⟩
theorem sl2slA_sound {src e : TypeId} {x x' : Value} (hs : P.underlying src = some (.slice e)) (he : P.underlying e = some (.int .u8)) (r : HRel w0 ι h w)
    (hx : x ≠ junk → VRel w0.heap.size h.next ι x x') (hv : sl2slA w0 x K h) : ValOut w0 ι h K ((convert src src x').run P w) := by
  obtain ⟨b, o, n, c, cs, rfl, hn, hB, hb, hl, hesz, ⟨u, hu1, hu2⟩, hk⟩ := hv
  have hx := hx (by simp [junk])
  have hum : h.um b = false := by
    cases hq : h.um b with
    | false => rfl
    | true => have := ((r.live b cs hB hb).um hq).1 u hu1; rw [hu2] at this; cases this
  have hlen := (r.live b cs hB hb).len
  have hsz := (r.live b cs hB hb).sz
  obtain ⟨hβ, arr, e1, lo, hi, hh, -⟩ := (r.live b cs hB hb).row (by omega)
  cases hx with
  | sext _ _ _ hlt => simp at hlt; omega
  | szero => omega
  | sempty => omega
  | sint _ _ _ _ c' h1 h2 h3 h4 =>
    have hsh : w.shape? (ι b).β = some (e1, arr.size) := by unfold World.shape?; rw [hh]
    have hrun : (convert src src (.slice (some ⟨(ι b).β, (ι b).d + o, none⟩) n c')).run P w = .ok (.slice (some ⟨(ι b).β, (ι b).d + o, none⟩) n c') (w.freeze ⟨(ι b).β, arr.size, none⟩ 1) := by
      simp only [convert, Sem.run_bind, run_und hs, run_und he, Result.andThen_ok, beq_self_eq_true, Sem.run_pure, markStringish, run_shape, hsh]
      rfl
    rw [hrun]
    exact ⟨ι, h, _, Ext.refl _ _, r.freeze_at hh hβ (fun i cs' hi hc he hp => by
      by_cases hib : i = b
      · subst hib; exact ⟨by rw [hsz]; exact hesz, hum⟩
      · have := r.apart i b cs' cs hi hB hc hb hib
        unfold Pl.apart at this
        omega), .inr (.sint b o n c c' h1 h2 h3 h4), hk⟩

theorem shape_alloc (w : World) (a : Array Value) (e : TypeId) (f : Nat × Nat) : (w.alloc (.cells a e f)).shape? w.heap.size = some (e, a.size) := by
  have : (w.alloc (.cells a e f)).heap[w.heap.size]? = some (.cells a e f) := by
    show (w.heap.push _)[w.heap.size]? = _
    simp
  unfold World.shape?
  rw [this]

theorem s2bA_sound {src dst e : TypeId} {x x' : Value} (hs : P.underlying src = some .string) (hd : P.underlying dst = some (.slice e)) (he : P.underlying e = some (.int .u8)) (r : HRel w0 ι h w)
    (hx : x ≠ junk → VRel w0.heap.size h.next ι x x') (hv : s2bA x K h) : ValOut w0 ι h K ((convert src dst x').run P w) := by
  obtain ⟨s, rfl, hsz, hk⟩ := hv
  obtain rfl := (hx (by simp [junk])).string_inv
  let cap := grownCap w s.size 0 e
  have hcap : s.size ≤ cap := grownCap_ge _ _ _ _
  have hcapu : cap < ucap := by
    have hlt := Nat.mod_lt (w.tape w.drawn (.appendCap s.size 0 e)) (show 0 < 2 ^ 63 - s.size by omega)
    simp only [cap, grownCap, Question.cut, ucap] at hlt ⊢
    omega
  let bytes : List Value := s.data.toList.map fun b => .int .u8 b.toNat
  let row : List Value := bytes ++ List.replicate (cap - s.size) (.int .u8 0)
  have hbl : bytes.length = s.size := by simp [bytes]
  have hrl : row.length = cap := by simp [row, hbl]; omega
  obtain ⟨ι', hext, hnew, hrel⟩ := (r.drew (w.drawn + 1)).new (cs := bytes) (cs' := row) 1 e (0, 0)
    (fun v hv => by obtain ⟨b, _, rfl⟩ := List.mem_map.1 hv; rfl)
    (by
      have : row.take bytes.length = bytes := by simp [row]
      rw [this]
      refine ⟨rfl, fun i v v' a b => ?_⟩
      rw [a] at b
      cases b
      simp only [bytes, List.getElem?_map] at a
      obtain ⟨x, _, rfl⟩ := Option.map_eq_some_iff.1 a
      exact .int _ _) (.inr (by simp)) (fun v hv => by
      rcases List.mem_append.1 hv with q | q
      · obtain ⟨b, _, rfl⟩ := List.mem_map.1 q; rfl
      · rw [List.eq_of_mem_replicate q]; rfl)
  have hblk : (({ w with drawn := w.drawn + 1 } : World).alloc (.cells row.toArray e (0, 0))).heap[w.heap.size]? = some (.cells row.toArray e (0, 0)) := by
    show (w.heap.push _)[w.heap.size]? = _
    simp
  have hrel2 := hrel.freeze_at hblk r.size (fun i cs' hi hc he hp => by
    by_cases hih : i = h.next
    · subst hih
      refine ⟨by rw [hnew], ?_⟩
      show (if h.next = h.next then !bytes.isEmpty && bytes.all isPtr else h.um h.next) = false
      rw [if_pos rfl]
      simp only [bytes]
      cases s.data.toList with
      | nil => rfl
      | cons b l => simp [isPtr]
    · exfalso
      have hc' : h.blk i = some cs' := by
        have : (if i = h.next then some bytes else h.blk i) = some cs' := hc
        rwa [if_neg hih] at this
      have hl := r.live i cs' hi hc'
      rw [hext.ag i hl.lt] at he hp
      obtain ⟨_, arr, _, _, _, hh, _⟩ := hl.row hp
      have := (Array.getElem?_eq_some_iff.1 hh).1
      omega)
  have hrun : (convert src dst (.string s)).run P w = .ok (.slice (some ⟨w.heap.size, 0, none⟩) s.size cap) ((({ w with drawn := w.drawn + 1 } : World).alloc (.cells row.toArray e (0, 0))).freeze ⟨w.heap.size, row.toArray.size, none⟩ 1) := by
    have hrow : (s.data.map (fun b => Value.int .u8 b.toNat) ++ Array.replicate (cap - s.size) (.int .u8 0)) = row.toArray := by
      apply Array.ext'
      simp [row, bytes]
    simp only [convert, Sem.run_bind, run_und hs, run_und hd, run_und he, Result.andThen_ok, Conv.stringToBytes, run_choose, Question.forced, Bool.false_eq_true, if_false, newRow, run_newObj, Sem.run_pure, markStringish, run_shape]
    have hc0 : Question.cut (.appendCap s.size 0 e) (w.tape w.drawn (.appendCap s.size 0 e)) = cap := rfl
    simp only [hc0, hrow]
    have hsh := shape_alloc ({ w with drawn := w.drawn + 1 } : World) row.toArray e (0, 0)
    have hsh' : ({ heap := w.heap.push (Obj.cells row.toArray e), tape := w.tape, drawn := w.drawn + 1, os := w.os, output := w.output } : World).shape? w.heap.size = some (e, row.toArray.size) := hsh
    rw [hsh']
    rfl
  rw [hrun]
  refine ⟨ι', h.new bytes 1, _, hext, hrel2, .inr ?_, hk⟩
  have := VRel.sint (B := w0.heap.size) (nx := (h.new bytes 1).next) (ι := ι') h.next 0 s.size ucap cap r.base (by simp [Hp.new]) hcap (.inl ⟨rfl, by rw [hnew]; simp [hrl]⟩)
  rw [hnew] at this
  simpa using this

theorem zerosL_length (z : List Value) (n : Nat) : (zerosL z n).length = n * z.length := by simp [zerosL]
theorem zerosL_get (z : List Value) (n : Nat) (j : Nat) (hj : j < n * z.length) : (zerosL z n)[j]? = z[j % z.length]? := by
  induction n generalizing j with
  | zero => simp at hj
  | succ n ih =>
    have hz : 0 < z.length := by rcases Nat.eq_zero_or_pos z.length with h | h; rw [h] at hj; simp at hj; exact h
    simp only [zerosL, List.replicate_succ, List.flatten_cons]
    by_cases h1 : j < z.length
    · rw [List.getElem?_append_left h1, Nat.mod_eq_of_lt h1]
    · rw [List.getElem?_append_right (by omega)]
      rw [Nat.add_mul, Nat.one_mul] at hj
      have := ih (j - z.length) (by omega)
      simp only [zerosL] at this
      rw [this, Nat.mod_eq_sub_mod (a := j) (by omega)]

theorem zerosL_array {z : Array Value} {n : Nat} : ((Array.range (n * z.size)).map (z[· % z.size]!)).toList = zerosL z.toList n := by
  apply List.ext_getElem?
  intro j
  by_cases hj : j < n * z.size
  · rw [zerosL_get _ _ _ (by simpa using hj)]
    have hz : 0 < z.size := by rcases Nat.eq_zero_or_pos z.size with h | h; rw [h] at hj; simp at hj; exact h
    have hm : j % z.size < z.size := Nat.mod_lt _ hz
    simp [hj, hm]
  · rw [List.getElem?_eq_none (by simp; omega), List.getElem?_eq_none (by rw [zerosL_length]; simp; omega)]

theorem const_cells {l : List Value} (hl : ∀ v, v ∈ l → constOK v = true) : ∀ v, v ∈ l → isCell v = true := fun v hv => (constOK_cl (B := 0) (hl v hv)).2

theorem mem_zerosL {z : List Value} {n : Nat} {v : Value} (hv : v ∈ zerosL z n) : v ∈ z := by
  simp only [zerosL, List.mem_flatten, List.mem_replicate] at hv
  obtain ⟨l, ⟨_, rfl⟩, hv⟩ := hv
  exact hv

theorem mkA_sound {T e : TypeId} {l l' c c' : Value} (hT : P.underlying T = some (.slice e)) (ho : okT P e = true) (r : HRel w0 ι h w) (hl : l ≠ junk → VRel w0.heap.size h.next ι l l') (hc : c ≠ junk → VRel w0.heap.size h.next ι c c')
    (hv : mkA (szT P e) (byT P e) (zeroT P e) l c K h) : ValOut w0 ι h K ((Instr.makeSlice T l' c').run P w) := by
  obtain ⟨kl, kc, n, m, rfl, rfl, hnm, hb, hm, hk⟩ := hv
  obtain rfl := (hl (by simp [junk])).int_inv
  obtain rfl := (hc (by simp [junk])).int_inv
  obtain ⟨ti, z, d, hti, hz, hd, hzs, hs, hby, hzt, hcst, hagg, hzr⟩ := okT_inv ho
  rw [hby] at hb
  obtain ⟨ι', he, hr, _, hsl⟩ := newrow_sound (e := e) (s := szT P e) (cs := zerosL (zeroT P e) m) (cs' := zerosL (zeroT P e) m) r (fun v hv => const_cells hcst v (by rw [hzt] at hv; exact mem_zerosL hv))
    (const_rels fun v hv => hcst v (by rw [hzt] at hv; exact mem_zerosL hv))
  have hb' : (ti.bytes : Int) * (m : Int) ≤ 281474976710656 := by
    have h : ((ti.bytes * m : Nat) : Int) ≤ 281474976710656 := by omega
    rwa [Int.natCast_mul] at h
  have hrun := run_make (P := P) w T e ti z hT hti hz kl kc (n : Int) (m : Int) (by omega) (by omega) hb' (by omega)
  simp only [Int.toNat_natCast] at hrun
  have hzz : madeCells z.cells (m * ti.size) = (zerosL (zeroT P e) m).toArray := by
    have := zerosL_array (z := z.cells) (n := m)
    apply Array.ext'
    rw [hzt, ← this, hzs]
    unfold madeCells
    rw [hzs]
  rw [hzz] at hrun
  rw [hrun]
  refine ⟨ι', _, _, he, hr, .inr ?_, hk⟩
  exact hsl n m hnm (by unfold ucap; omega)

/-! ### Slices -/
theorem boundA_some {o : Option Value} {d l : Nat} (hb : boundA o d = some l) : (o = none ∧ l = d) ∨ ∃ k i, o = some (.int k i) ∧ 0 ≤ i ∧ l = i.toNat := by
  unfold boundA at hb
  split at hb
  · exact .inl ⟨rfl, by simpa using hb.symm⟩
  · rename_i k i
    split at hb
    · exact .inr ⟨k, i, rfl, by assumption, by simpa using hb.symm⟩
    · simp at hb
  · simp at hb

def ORel (B nx : Nat) (ι : Inj) (o o' : Option Value) : Prop := (o = none ∧ o' = none) ∨ ∃ v v', o = some v ∧ o' = some v' ∧ (v ≠ junk → VRel B nx ι v v')

theorem ORel.bound {B nx : Nat} {ι : Inj} {o o' : Option Value} {d l : Nat} (hr : ORel B nx ι o o') (hb : boundA o d = some l) : (o' = none ∧ l = d) ∨ ∃ k, o' = some (.int k (l : Int)) := by
  rcases boundA_some hb with ⟨rfl, rfl⟩ | ⟨k, i, rfl, h0, rfl⟩
  · rcases hr with ⟨_, rfl⟩ | ⟨_, _, e, _⟩
    · exact .inl ⟨rfl, rfl⟩
    · cases e
  · rcases hr with ⟨e, _⟩ | ⟨v, v', e, rfl, hv⟩
    · cases e
    · cases e
      obtain rfl := (hv (by simp [junk])).int_inv
      exact .inr ⟨k, by rw [Int.toNat_of_nonneg h0]⟩

theorem run_sliceBound (k : IntKind) (l y : Nat) (code : BoundsCode) (hle : l ≤ y) (w : World) : (Instr.sliceBound (.int k (l : Int)) y code).run P w = .ok l w := by
  simp [Instr.sliceBound, asIntOf]
  intro hh
  omega

theorem run_sliceBounds {isSl : Bool} {len cap l u m : Nat} {lo hi mx : Option Value} (h1 : (lo = none ∧ l = 0) ∨ ∃ k, lo = some (.int k (l : Int))) (h2 : (hi = none ∧ u = len) ∨ ∃ k, hi = some (.int k (u : Int)))
    (h3 : (mx = none ∧ m = cap) ∨ ((∃ k, mx = some (.int k (m : Int))) ∧ hi.isSome = true)) (hlu : l ≤ u) (hum : u ≤ m) (hmc : m ≤ cap) (w : World) :
    (Instr.sliceBounds isSl len cap lo hi mx).run P w = .ok (l, u, m) w := by
  unfold Instr.sliceBounds
  have b1 := fun k code => run_sliceBound (P := P) k l u code hlu w
  have b2 := fun k code => run_sliceBound (P := P) k u m code hum w
  have b3 := fun k code => run_sliceBound (P := P) k m cap code hmc w
  rcases h3 with ⟨rfl, rfl⟩ | ⟨⟨km, rfl⟩, hsome⟩
  · rcases h2 with ⟨rfl, rfl⟩ | ⟨k2, rfl⟩
    · rcases h1 with ⟨rfl, rfl⟩ | ⟨k1, rfl⟩ <;> simp [b1]
    · rcases h1 with ⟨rfl, rfl⟩ | ⟨k1, rfl⟩ <;> simp [b1, b2]
  · rcases h2 with ⟨rfl, rfl⟩ | ⟨k2, rfl⟩
    · simp at hsome
    · rcases h1 with ⟨rfl, rfl⟩ | ⟨k1, rfl⟩ <;> simp [b1, b2, b3]

theorem strSlA_run {T : TypeId} {x v : Value} {lo hi lo' hi' : Option Value} (hT : P.underlying T = some .string) (hl : ORel w0.heap.size h.next ι lo lo') (hh : ORel w0.heap.size h.next ι hi hi') (hv : strSlA x lo hi = some v) :
    flat x = true ∧ (Instr.sliceAt T x lo' hi' none).run P w = .ok v w ∧ flat v = true := by
  unfold strSlA at hv
  split at hv
  · rename_i s
    split at hv
    · rename_i l u e1 e2
      split at hv
      · rename_i hle
        cases hv
        refine ⟨rfl, ?_, rfl⟩
        have := run_sliceBounds (P := P) (isSl := false) (len := s.size) (cap := s.size) (m := s.size) (mx := none) (hl.bound e1) (hh.bound e2) (.inl ⟨rfl, rfl⟩) hle.1 hle.2 (Nat.le_refl _) w
        simp [Instr.sliceAt, Instr.slice, run_und hT, this]
      · simp at hv
    · simp at hv
  · simp at hv

theorem PRel.slice {B nx : Nat} {ι : Inj} {ad a' : Addr} (hp : PRel B nx ι ad a') {n c : Nat} (hn : n ≤ c) (hc : c < ucap) : VRel B nx ι (.slice (some ad) n c) (.slice (some a') n c) := by
  cases hp with
  | pext _ hlt => exact .sext _ _ _ hlt hn hc
  | pint b o h1 h2 => exact .sint _ _ _ _ _ h1 h2 hn (.inr ⟨rfl, hc⟩)

theorem exact_sub {B nx : Nat} {ι : Inj} {ad a' : Addr} {c' l u m s : Nat} (hp : 0 < c' → PRel B nx ι ad a') (h0 : c' = 0 → VRel B nx ι (.slice (some ad) 0 0) (.slice (some a') 0 0)) (hlu : l ≤ u) (hum : u ≤ m) (hmc : m ≤ c') (hu : m < ucap) :
    VRel B nx ι (.slice (if m = l then some ad else (some ad).map (·.add (l * s))) (u - l) (m - l)) (.slice (if m = l then some a' else (some a').map (·.add (l * s))) (u - l) (m - l)) := by
  by_cases hc : c' = 0
  · obtain rfl : m = 0 := by omega
    obtain rfl : u = 0 := by omega
    obtain rfl : l = 0 := by omega
    simpa using h0 hc
  · have hp := hp (by omega)
    split
    · exact hp.slice (by omega) (by omega)
    · exact (hp.add _).slice (by omega) (by omega)

theorem slSlA_sound {T e : TypeId} {x x' : Value} {lo hi mx lo' hi' mx' : Option Value} (hT : P.underlying T = some (.slice e)) (ho : okT P e = true) (r : HRel w0 ι h w) (hx : x ≠ junk → VRel w0.heap.size h.next ι x x')
    (hl : ORel w0.heap.size h.next ι lo lo') (hh : ORel w0.heap.size h.next ι hi hi') (hm : ORel w0.heap.size h.next ι mx mx') (hv : slSlA (szT P e) x lo hi mx K h) :
    ValOut w0 ι h K ((Instr.sliceAt T x' lo' hi' mx').run P w) := by
  obtain ⟨a, n, c, l, u, rfl, e1, e2, hlu, hsome, hv⟩ := hv
  have hx := hx (by simp [junk])
  obtain ⟨ti, z, d, hti, _, _, _, hs, _⟩ := okT_inv ho
  have hrun : ∀ (a' : Option Addr) (c' m : Nat), ((mx' = none ∧ m = c') ∨ ((∃ k, mx' = some (.int k (m : Int))) ∧ hi'.isSome = true)) → u ≤ m → m ≤ c' →
      (Instr.sliceAt T (.slice a' n c') lo' hi' mx').run P w = .ok (.slice (if m = l then a' else a'.map (·.add (l * szT P e))) (u - l) (m - l)) w := by
    intro a' c' m h3 hum hmc
    have := run_sliceBounds (P := P) (isSl := true) (len := n) (cap := c') (m := m) (mx := mx') (hl.bound e1) (hh.bound e2) h3 hlu hum hmc w
    simp [Instr.sliceAt, Instr.slice, run_und hT, this, run_szOf hti, hs]
  have hisome : mx.isSome = true → hi'.isSome = true := fun h => by
    have := hsome h
    rcases hh with ⟨rfl, _⟩ | ⟨_, _, _, rfl, _⟩
    · simp at this
    · rfl
  rcases hx.slice_inv with ⟨rfl, rfl, rfl, rfl⟩ | ⟨ad, a', c', rfl, rfl, hn, hp, hce, hcu, hcr, hext, hcl, hc0⟩
  · -- nil
    have hz : l = 0 ∧ u = 0 := by
      split at hv
      · rw [if_neg (by decide)] at hv; omega
      · obtain ⟨m, _, _, _, hmc, _⟩ := hv; rw [if_neg (by decide)] at hmc; omega
    obtain ⟨rfl, rfl⟩ := hz
    split at hv
    · rw [if_neg (by decide)] at hv
      have hm' : mx' = none := by rcases hm with ⟨_, h⟩ | ⟨_, _, e, _⟩; exact h; cases e
      rw [hrun none 0 0 (.inl ⟨hm', rfl⟩) (by omega) (by omega)]
      simp at hv ⊢
      exact .mk r .snil hv
    · obtain ⟨m, em, _, _, hmc, hk⟩ := hv
      rw [if_neg (by decide)] at hmc
      obtain rfl : m = 0 := by omega
      rcases hm.bound em with ⟨e, _⟩ | h3
      · rcases hm with ⟨e', _⟩ | ⟨_, _, e', e'', _⟩
        · cases e'
        · rw [e''] at e; cases e
      · rw [hrun none 0 0 (.inr ⟨h3, hisome rfl⟩) (by omega) (by omega)]
        simp at hk ⊢
        exact .mk r .snil hk
  · have hadd : ∀ (q : Nat), 0 < c' → PRel w0.heap.size h.next ι (ad.add q) (a'.add q) := fun q h0 => (hp h0).add q
    split at hv
    · -- no third index
      have hm' : mx' = none := by rcases hm with ⟨_, h⟩ | ⟨_, _, e, _⟩; exact h; cases e
      by_cases hcu' : c = ucap
      · rw [if_pos hcu'] at hv
        obtain ⟨hun, ad0, e0, hsz, ⟨cs, hlive⟩, hk⟩ := hv
        cases e0
        obtain ⟨hB, hsp⟩ := hcu hcu'
        have hun : u ≤ c' := by
          rcases hun with q | ⟨q7, q, ad1, cs1, e1, q1, q2⟩
          · omega
          · cases e1
            have q4 := (r.live _ cs1 hB q1).len
            have h0 : 0 < c' := by
              rcases Nat.eq_zero_or_pos c' with e9 | e9
              · have q8 := (hc0 hcu' e9).2
                have q9 : 0 < u * szT P e := Nat.mul_pos (by omega) q7
                omega
              · exact e9
            have q3 := (hcr hcu' h0).2
            have q4 := (r.live _ cs1 hB q1).len
            have q5 : h.esz ad.block = szT P e := hsz
            rw [(r.live _ cs1 hB q1).sz, q5] at q3
            have q6 : u * szT P e ≤ c' * szT P e := by omega
            exact Nat.le_of_mul_le_mul_right q6 q7
        rw [hrun (some a') c' c' (.inl ⟨hm', rfl⟩) (by omega) (Nat.le_refl _)]
        refine .mk r ?_ hk
        obtain ⟨ab, ao, asp⟩ := ad
        simp only at hsp hB hlive hsz
        subst hsp
        rw [addr_add_none]
        by_cases hcq : c' = l
        · rw [if_pos hcq, show u - l = 0 by omega, show c' - l = 0 by omega]
          refine .szero _ _ _ _ hB (.inl ⟨rfl, ?_⟩)
          rcases Nat.eq_zero_or_pos c' with e0 | e0
          · have := hc0 hcu' e0
            exact ⟨this.1, Nat.le_trans this.2 (Nat.le_add_right _ _)⟩
          · have := hcr hcu' e0
            refine ⟨this.1, ?_⟩
            rw [← this.2, (r.live ab cs hB hlive).sz, hsz, hcq]
            exact Nat.le_refl _
        · rw [if_neg hcq]
          have h0 : 0 < c' := by omega
          obtain ⟨_, hlt, rfl⟩ := (hp h0).int_inv hB
          obtain ⟨_, hbd⟩ := hcr hcu' h0
          simp only [Option.map_some, addr_add_none]
          rw [(r.live ab cs hB hlive).sz, hsz] at hbd
          rw [Nat.add_assoc]
          refine .sint ab (ao + l * szT P e) (u - l) ucap (c' - l) hB hlt (by omega) (.inl ⟨rfl, ?_⟩)
          rw [(r.live ab cs hB hlive).sz, hsz, Nat.sub_mul]
          have : l * szT P e ≤ c' * szT P e := Nat.mul_le_mul_right _ (by omega)
          simp only at hbd
          omega
      · rw [if_neg hcu'] at hv
        obtain ⟨huc, hk⟩ := hv
        have hcc := hce hcu'
        subst hcc
        rw [hrun (some a') c' c' (.inl ⟨hm', rfl⟩) (by omega) (Nat.le_refl _)]
        refine .mk r ?_ hk
        exact exact_sub hp (fun e => by
          have hn0 : n = 0 := by omega
          rw [e, hn0] at hx
          exact hx) hlu huc (Nat.le_refl _) (hcl hcu')
    · rename_i mv
      obtain ⟨m, em, hum, hmu, hmc, hk⟩ := hv
      have hmc' : m ≤ c' := by
        by_cases hcu' : c = ucap
        · rw [if_pos hcu'] at hmc; omega
        · rw [if_neg hcu'] at hmc; rw [hce hcu']; exact hmc
      have h3 : ∃ k, mx' = some (.int k (m : Int)) := by
        rcases hm.bound em with ⟨e, _⟩ | h3
        · rcases hm with ⟨e', _⟩ | ⟨_, _, e', e'', _⟩
          · cases e'
          · rw [e''] at e; cases e
        · exact h3
      rw [hrun (some a') c' m (.inr ⟨h3, hisome rfl⟩) hum hmc']
      refine .mk r ?_ hk
      refine exact_sub hp (fun e => ?_) hlu hum hmc' hmu
      by_cases hcu' : c = ucap
      · obtain ⟨hB, hsp⟩ := hcu hcu'
        obtain ⟨ab, ao, asp⟩ := ad
        simp only at hsp hB
        subst hsp
        exact .szero _ _ _ _ hB (.inr rfl)
      · have := hce hcu'
        rw [e] at hx hn
        have hn0 : n = 0 := by omega
        rw [← this, e, hn0] at hx
        exact hx

theorem arSlA_sound {T e : TypeId} {len : Nat} {x x' : Value} {lo hi lo' hi' : Option Value} (hT : P.underlying T = some (.array len e)) (ho : okT P e = true) (r : HRel w0 ι h w) (hx : x ≠ junk → VRel w0.heap.size h.next ι x x')
    (hl : ORel w0.heap.size h.next ι lo lo') (hh : ORel w0.heap.size h.next ι hi hi') (hv : arSlA len (szT P e) x lo hi K h) : ValOut w0 ι h K ((Instr.sliceAt T x' lo' hi' none).run P w) := by
  obtain ⟨ad, l, u, rfl, e1, e2, hlu, hul, hlen, hk⟩ := hv
  have hp := hx (by simp [junk])
  obtain ⟨a', rfl⟩ := PRel.of hp
  obtain ⟨ti, z, d, hti, _, _, _, hs, _⟩ := okT_inv ho
  have := run_sliceBounds (P := P) (isSl := false) (len := len) (cap := len) (m := len) (mx := none) (hl.bound e1) (hh.bound e2) (.inl ⟨rfl, rfl⟩) hlu hul (Nat.le_refl _) w
  have hrun : (Instr.sliceAt T (.pointer (some a')) lo' hi' none).run P w = .ok (.slice (some (if len = l then a' else a'.add (l * szT P e))) (u - l) (len - l)) w := by
    simp [Instr.sliceAt, Instr.sureAddr, run_und hT, this, run_szOf hti, hs]
  rw [hrun]
  refine .mk r ?_ hk
  split
  · exact PRel.slice hp (by omega) (by omega)
  · exact PRel.slice (PRel.add hp _) (by omega) (by omega)

theorem fldA_run {S f : Nat} {fs : Array Field} {fd : Field} {x x' v : Value} (hS : P.underlying S = some (.struct fs)) (hf : fs[f]? = some fd) (ho : okT P fd.type = true)
    (hx : x ≠ junk → VRel w0.heap.size h.next ι x x') (hv : fldA (aggT P fd.type) fd.offset (szT P fd.type) x = some v) : ∃ v', (Instr.field S x' f).run P w = .ok v' w ∧ VRel w0.heap.size h.next ι v v' := by
  unfold fldA at hv
  split at hv
  · rename_i cs
    have hx := hx (by simp [junk])
    cases hx with
    | agg _ cs' hc h1 h2 =>
      obtain ⟨v', hr, hvr⟩ := part_run (P := P) (w := w) (h := h) (ι := ι) (w0 := w0) ho hc h1 h2 hv
      exact ⟨v', by simp [Instr.field, run_und hS, hf, asAgg, hr], hvr⟩
  · simp at hv

theorem strIdxA_run {T : TypeId} {x i v : Value} (hT : P.underlying T = some .string) (hv : strIdxA x i = some v) : flat x = true ∧ flat i = true ∧ (Instr.index T x i).run P w = .ok v w ∧ flat v = true := by
  unfold strIdxA at hv
  split at hv
  · rename_i s k j
    split at hv
    · rename_i h0
      obtain ⟨b, hb, rfl⟩ := Option.map_eq_some_iff.1 hv
      refine ⟨rfl, rfl, ?_, rfl⟩
      simp [Instr.index, asIntOf, run_und hT, h0, hb]
    · simp at hv
  · simp at hv

theorem arIdxA_run {T e : TypeId} {len : Nat} {x x' i i' v : Value} (hT : P.underlying T = some (.array len e)) (ho : okT P e = true) (hx : x ≠ junk → VRel w0.heap.size h.next ι x x') (hi : i ≠ junk → VRel w0.heap.size h.next ι i i')
    (hv : arIdxA (aggT P e) len (szT P e) x i = some v) : ∃ v', (Instr.index T x' i').run P w = .ok v' w ∧ VRel w0.heap.size h.next ι v v' := by
  unfold arIdxA at hv
  split at hv
  · rename_i cs k j
    split at hv
    · rename_i h0
      obtain rfl := (hi (by simp [junk])).int_inv
      have hx := hx (by simp [junk])
      obtain ⟨ti, z, d, hti, _, _, _, hs, _⟩ := okT_inv ho
      cases hx with
      | agg _ cs' hc h1 h2 =>
        obtain ⟨v', hr, hvr⟩ := part_run (P := P) (w := w) (h := h) (ι := ι) (w0 := w0) ho hc h1 h2 hv
        rw [hs] at hr
        exact ⟨v', by simp [Instr.index, asIntOf, run_und hT, h0, run_szOf hti, hr], hvr⟩
    · simp at hv
  · simp at hv

theorem extA_run {x x' v : Value} {i : Nat} (hx : x ≠ junk → VRel w0.heap.size h.next ι x x') (hv : extA x i = some v) : ∃ v', (Instr.extract x' i).run P w = .ok v' w ∧ VRel w0.heap.size h.next ι v v' := by
  unfold extA at hv
  split at hv
  · rename_i vs
    have hx := hx (by simp [junk])
    cases hx with
    | tuple _ vs' hc h1 =>
      have hi : i < vs'.size := by rw [← hc]; exact (Array.getElem?_eq_some_iff.1 hv).1
      exact ⟨vs'[i], by simp [Instr.extract, hi], h1 i v _ hv (by simp [hi])⟩
  · simp at hv

theorem max2A_run {x y v : Value} (hv : max2A x y = some v) : flat x = true ∧ flat y = true ∧ (Builtin.max2 x y).run P w = .ok v w ∧ flat v = true := by
  unfold max2A at hv
  split at hv
  · cases hv; exact ⟨rfl, rfl, rfl, rfl⟩
  · simp at hv
theorem min2A_run {x y v : Value} (hv : min2A x y = some v) : flat x = true ∧ flat y = true ∧ (Builtin.min2 x y).run P w = .ok v w ∧ flat v = true := by
  unfold min2A at hv
  split at hv
  · cases hv; exact ⟨rfl, rfl, rfl, rfl⟩
  · simp at hv

theorem foldA_run {f : Value → Value → Option Value} {g : Value → Value → Sem Value} (hf : ∀ x y v, f x y = some v → flat x = true ∧ flat y = true ∧ (g x y).run P w = .ok v w ∧ flat v = true) :
    ∀ (l : List Value) (x v : Value), foldA f x l = some v → l ≠ [] → (∀ y, y ∈ x :: l → flat y = true) ∧ (l.foldlM g x).run P w = .ok v w ∧ flat v = true := by
  intro l
  induction l with
  | nil => intro x v _ hne; exact absurd rfl hne
  | cons y r ih =>
    intro x v hv _
    simp only [foldA] at hv
    obtain ⟨u, hu, hv⟩ := Option.bind_eq_some_iff.1 hv
    obtain ⟨h1, h2, h3, h4⟩ := hf x y u hu
    by_cases hr : r = []
    · subst hr
      simp only [foldA, Option.some.injEq] at hv
      subst hv
      exact ⟨fun z hz => by simp at hz; rcases hz with rfl | rfl <;> assumption, by simp [h3], h4⟩
    · obtain ⟨g1, g2, g3⟩ := ih u v hv hr
      refine ⟨fun z hz => ?_, by simp [h3, g2], g3⟩
      simp only [List.mem_cons] at hz
      rcases hz with rfl | rfl | hz
      · exact h1
      · exact h2
      · exact g1 z (by simp [hz])
end
end Go.Proofs.Ytiakadkooclelaa.Ah
