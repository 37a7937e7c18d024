/- PRINTED by wip/tools/shallow.py: the numbers of this seat's functions. -/
import Derived.Test.YtiakadkooclelaaAh28
import Derived.Test.YtiakadkooclelaaProg
set_option linter.unusedVariables false
namespace Go.Proofs.Ytiakadkooclelaa.Ah
open Go
noncomputable section

abbrev prog : Program := Go.Proofs.Try.prog
abbrev drw (w0 : World) (n : Nat) : List Oper → Fr → (Fr → Hp → Prop) → Hp → Prop := vcDraw prog w0 n

abbrev n_deduplaw07_JournalForks : FuncId := 3
abbrev n_deduplaw07_JournalWrites : FuncId := 4
abbrev n_deduplaw07_JournalNobody : FuncId := 5
abbrev n_deduplaw07_JournalFirst : FuncId := 6
abbrev n_deduplaw07_JournalScans : FuncId := 7
abbrev n_deduplaw07_lives : FuncId := 8
abbrev n_journal_New : FuncId := 9
abbrev n_dedupref07_New : FuncId := 10
abbrev n_journal_Writer_Append : FuncId := 11
abbrev n_dedupref07_Writer_Append : FuncId := 12
abbrev n_journal_Writer_Fork : FuncId := 13
abbrev n_dedupref07_Writer_Fork : FuncId := 14
abbrev n_deduplaw07_sameSectors : FuncId := 15
abbrev n_journal_Writer_Take : FuncId := 16
abbrev n_dedupref07_Writer_Take : FuncId := 17
abbrev n_journal_Writer_Left : FuncId := 18
abbrev n_dedupref07_Writer_Left : FuncId := 19
abbrev n_journal_Writer_Records : FuncId := 20
abbrev n_dedupref07_Bytes : FuncId := 21
abbrev n_journal_Scan : FuncId := 22
abbrev n_deduplaw07_sameTexts : FuncId := 23
abbrev n_dedupref07_Scan : FuncId := 24
abbrev n_journal_Sectors : FuncId := 25
abbrev n_dedupref07_Sectors : FuncId := 26
abbrev n_deduplaw07_sameBytes : FuncId := 27
abbrev n_journal_sizeRight : FuncId := 28
abbrev n_dedupref07_power : FuncId := 29
abbrev n_journal_Writer_made : FuncId := 30
abbrev n_journal_Writer_free : FuncId := 31
abbrev n_journal_number : FuncId := 32
abbrev n_journal_Writer_room : FuncId := 33
abbrev n_dedupref07_Writer_free : FuncId := 34
abbrev n_dedupref07_high : FuncId := 35
abbrev n_slices_Clone_lbyte_byte : FuncId := 36
abbrev n_journal_sector : FuncId := 37
abbrev n_dedupref02_Crc : FuncId := 38
abbrev n_journal_stream : FuncId := 39
abbrev n_codec_NewReader : FuncId := 40
abbrev n_codec_Reader_U32 : FuncId := 41
abbrev n_dedupref07_right : FuncId := 42
abbrev n_dedupref07_number : FuncId := 43
abbrev n_dedupref07_fits : FuncId := 44
abbrev n_codec_NewWriter : FuncId := 45
abbrev n_codec_Writer_Raw : FuncId := 46
abbrev n_codec_Writer_U64 : FuncId := 47
abbrev n_codec_Writer_U32 : FuncId := 48
abbrev n_codec_Writer_Done : FuncId := 49
abbrev n_codec_Crc : FuncId := 50
abbrev n_slices_Chunk_lbyte_byte : FuncId := 51
abbrev n_journal_used : FuncId := 52
abbrev n_codec_Reader_read : FuncId := 53
abbrev n_dedupref07_same : FuncId := 54
abbrev n_codec_Writer_put : FuncId := 55
abbrev n_codec_number_uint64 : FuncId := 56
abbrev n_codec_number_uint32 : FuncId := 57
abbrev n_slices_Chunk_lbyte_byte_S1 : FuncId := 58
abbrev n_slices_Equal_lbyte_byte : FuncId := 59
abbrev n_codec_Reader_Raw : FuncId := 60
abbrev n_codec_Reader_fault : FuncId := 61
abbrev n_runtime_boundsError_Error : FuncId := 62
abbrev n_runtime_boundsError_RuntimeError : FuncId := 63
abbrev n_runtime_errorString_Error : FuncId := 64
abbrev n_runtime_errorString_RuntimeError : FuncId := 65
abbrev n_runtime_plainError_Error : FuncId := 66
abbrev n_runtime_plainError_RuntimeError : FuncId := 67
abbrev n_runtime_errorAddressString_Error : FuncId := 68
abbrev n_runtime_errorAddressString_RuntimeError : FuncId := 69
abbrev n_runtime_TypeAssertionError_Error : FuncId := 70
abbrev n_runtime_TypeAssertionError_RuntimeError : FuncId := 71
abbrev n_runtime_PanicNilError_Error : FuncId := 72
abbrev n_runtime_PanicNilError_RuntimeError : FuncId := 73
abbrev n_internal_abi_Type_Align : FuncId := 74
abbrev n_internal_runtime_maps_unhashableTypeError_Error : FuncId := 75
abbrev n_internal_runtime_maps_unhashableTypeError_RuntimeError : FuncId := 76
abbrev n_codec_Reader_Left : FuncId := 77
abbrev n_codec_Writer_Len : FuncId := 78
abbrev n_internal_abi_Kind_String : FuncId := 79

end
end Go.Proofs.Ytiakadkooclelaa.Ah
