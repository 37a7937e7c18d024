/- PRINTED by wip/tools/shallow.py: the numbers of this seat's functions. -/
import Derived.Test.YtiakadkooclelaaAh28
import Derived.Test.YtiakadkooclelaaProg
set_option linter.unusedVariables false
namespace Go.Proofs.Ytiakadkooclelaa.Ah
open Go
noncomputable section

abbrev prog : Program := Go.Proofs.Try.prog
abbrev drw (w0 : World) (n : Nat) : List Oper → Fr → (Fr → Hp → Prop) → Hp → Prop := vcDraw prog w0 n
theorem c_of {w0 : World} {h : Hp} {R : Kont} {f : FuncId} {args : List Value} {S : Prop} (fn : Func) (ks : List (Nat × List Nat × List Nat)) (n : Nat) (hf : prog.funcs[f]? = some fn) (hn : fn.ntmps = n) (hl : args.length ≤ n) (hj : ∀ v, v ∈ args → v ≠ junk) (e : vcFn ⟨prog, w0, n, ks⟩ (drw w0 n) fn args R h = S) (hv : S) : ACalls prog w0 f args h R :=
  acalls_of_eq hf hn (draw_ok (by kernel_rfl)) hl hj e hv
theorem c_ofM {w0 : World} {h : Hp} {R : Kont} {f : FuncId} {args : List Value} {S : Prop} (fn : Func) (ks : List (Nat × List Nat × List Nat)) (n : Nat) (hf : prog.funcs[f]? = some fn) (hn : fn.ntmps = n) (hl : args.length ≤ n) (hj : ∀ v, v ∈ args → v ≠ junk) (e : vcFnM ⟨prog, w0, n, ks⟩ (drw w0 n) fn args R h = S) (hv : S) : ACalls prog w0 f args h R :=
  acalls_of_eqM hf hn (draw_ok (by kernel_rfl)) hl hj e hv

abbrev n_deduplaw07_JournalFirst : FuncId := 6
abbrev n_deduplaw07_lives : FuncId := 8
abbrev n_journal_New : FuncId := 9
abbrev n_dedupref07_New : FuncId := 10
abbrev n_journal_Writer_Append : FuncId := 11
abbrev n_dedupref07_Writer_Append : FuncId := 12
abbrev n_journal_Writer_Take : FuncId := 16
abbrev n_dedupref07_Writer_Take : FuncId := 17
abbrev n_journal_Writer_Left : FuncId := 18
abbrev n_dedupref07_Bytes : FuncId := 21
abbrev n_journal_Scan : FuncId := 22
abbrev n_deduplaw07_sameTexts : FuncId := 23
abbrev n_journal_sizeRight : FuncId := 28
abbrev n_dedupref07_power : FuncId := 29
abbrev n_journal_Writer_made : FuncId := 30
abbrev n_journal_Writer_free : FuncId := 31
abbrev n_journal_number : FuncId := 32
abbrev n_journal_Writer_room : FuncId := 33
abbrev n_dedupref07_Writer_free : FuncId := 34
abbrev n_dedupref07_high : FuncId := 35
abbrev n_journal_sector : FuncId := 37
abbrev n_dedupref02_Crc : FuncId := 38
abbrev n_journal_stream : FuncId := 39
abbrev n_codec_NewReader : FuncId := 40
abbrev n_codec_Reader_U32 : FuncId := 41
abbrev n_codec_NewWriter : FuncId := 45
abbrev n_codec_Writer_Raw : FuncId := 46
abbrev n_codec_Writer_U64 : FuncId := 47
abbrev n_codec_Writer_U32 : FuncId := 48
abbrev n_codec_Writer_Done : FuncId := 49
abbrev n_codec_Crc : FuncId := 50
abbrev n_slices_Chunk_lbyte_byte : FuncId := 51
abbrev n_journal_used : FuncId := 52
abbrev n_codec_Reader_read : FuncId := 53
abbrev n_codec_Writer_put : FuncId := 55
abbrev n_codec_number_uint64 : FuncId := 56
abbrev n_codec_number_uint32 : FuncId := 57
abbrev n_slices_Chunk_lbyte_byte_S1 : FuncId := 58
abbrev n_slices_Equal_lbyte_byte : FuncId := 59
abbrev n_codec_Reader_Raw : FuncId := 60
abbrev n_codec_Reader_fault : FuncId := 61
end
end Go.Proofs.Ytiakadkooclelaa.Ah
