/- PRINTED by wip/tools/shallow.py: the numbers of this seat's functions. -/
import Derived.Test.YtfhamcobfpmgbaaAh18
import Derived.Test.YtfhamcobfpmgbaaProg
set_option linter.unusedVariables false
namespace Go.Proofs.Ytfhamcobfpmgbaa.Ah
open Go
noncomputable section

abbrev prog : Program := Go.Proofs.Try.prog
abbrev drw (w0 : World) (n : Nat) : List Oper → Fr → (Fr → Hp → Prop) → Hp → Prop := vcDraw prog w0 n

abbrev n_deduplaw13_PackChunks : FuncId := 3
abbrev n_deduplaw13_PackScans : FuncId := 4
abbrev n_deduplaw13_PackPlays : FuncId := 5
abbrev n_deduplaw13_PackNobody : FuncId := 6
abbrev n_deduplaw13_PackForks : FuncId := 7
abbrev n_deduplaw13_PackBack : FuncId := 8
abbrev n_pack_Chunk : FuncId := 9
abbrev n_dedupref13_Chunk : FuncId := 10
abbrev n_deduplaw13_lives : FuncId := 11
abbrev n_deduplaw13_sameBytes : FuncId := 12
abbrev n_pack_Scan : FuncId := 13
abbrev n_dedupref13_Scan : FuncId := 14
abbrev n_deduplaw13_sameSlots : FuncId := 15
abbrev n_pack_New : FuncId := 16
abbrev n_dedupref13_New : FuncId := 17
abbrev n_pack_Pack_Fork : FuncId := 18
abbrev n_pack_Pack_Append : FuncId := 19
abbrev n_pack_Pack_Take : FuncId := 20
abbrev n_pack_Pack_Seal : FuncId := 21
abbrev n_deduplaw13_step : FuncId := 22
abbrev n_pack_Pack_Image : FuncId := 23
abbrev n_dedupref13_Pack_Image : FuncId := 24
abbrev n_pack_Pack_Slots : FuncId := 25
abbrev n_dedupref13_Pack_Slots : FuncId := 26
abbrev n_deduplaw13_sectors : FuncId := 27
abbrev n_dedupref13_Pack_Take : FuncId := 28
abbrev n_pack_Pack_Read : FuncId := 29
abbrev n_pack_Pack_Back : FuncId := 30
abbrev n_pack_Pack_Left : FuncId := 31
abbrev n_pack_Pack_Mark : FuncId := 32
abbrev n_dedupref13_Pack_Fork : FuncId := 33
abbrev n_deduplaw13_laid : FuncId := 34
abbrev n_pack_slotAt : FuncId := 35
abbrev n_slices_Clone_lbyte_byte : FuncId := 36
abbrev n_dedupref13_slot : FuncId := 37
abbrev n_pack_fits : FuncId := 38
abbrev n_codec_NewReader : FuncId := 39
abbrev n_codec_Reader_U32 : FuncId := 40
abbrev n_pack_marked : FuncId := 41
abbrev n_dedupref13_power : FuncId := 42
abbrev n_dedupref13_number : FuncId := 43
abbrev n_dedupref13_sum : FuncId := 44
abbrev n_dedupref13_foot : FuncId := 45
abbrev n_pack_Pack_made : FuncId := 46
abbrev n_slices_Clone_lapi_Slot_api_Slot : FuncId := 47
abbrev n_pack_Pack_end : FuncId := 48
abbrev n_pack_length : FuncId := 49
abbrev n_codec_NewWriter : FuncId := 50
abbrev n_codec_Writer_Raw : FuncId := 51
abbrev n_codec_Writer_U32 : FuncId := 52
abbrev n_codec_Crc : FuncId := 53
abbrev n_codec_Writer_Done : FuncId := 54
abbrev n_slices_Equal_lbyte_byte : FuncId := 55
abbrev n_dedupref13_Pack_Append : FuncId := 56
abbrev n_dedupref13_Pack_Left : FuncId := 57
abbrev n_dedupref13_Pack_Read : FuncId := 58
abbrev n_dedupref13_Pack_Seal : FuncId := 59
abbrev n_dedupref13_Pack_Back : FuncId := 60
abbrev n_dedupref13_high : FuncId := 61
abbrev n_dedupref13_Pack_end : FuncId := 62
abbrev n_slices_Contains_lapi_Slot_api_Slot : FuncId := 63
abbrev n_codec_Reader_read : FuncId := 64
abbrev n_dedupref02_Crc : FuncId := 65
abbrev n_codec_Writer_put : FuncId := 66
abbrev n_codec_number_uint32 : FuncId := 67
abbrev n_slices_Index_lapi_Slot_api_Slot : FuncId := 68
abbrev n_codec_Reader_Raw : FuncId := 69
abbrev n_codec_Reader_fault : FuncId := 70
abbrev n_runtime_boundsError_Error : FuncId := 71
abbrev n_runtime_boundsError_RuntimeError : FuncId := 72
abbrev n_runtime_errorString_Error : FuncId := 73
abbrev n_runtime_errorString_RuntimeError : FuncId := 74
abbrev n_runtime_plainError_Error : FuncId := 75
abbrev n_runtime_plainError_RuntimeError : FuncId := 76
abbrev n_runtime_errorAddressString_Error : FuncId := 77
abbrev n_runtime_errorAddressString_RuntimeError : FuncId := 78
abbrev n_runtime_TypeAssertionError_Error : FuncId := 79
abbrev n_runtime_TypeAssertionError_RuntimeError : FuncId := 80
abbrev n_runtime_PanicNilError_Error : FuncId := 81
abbrev n_runtime_PanicNilError_RuntimeError : FuncId := 82
abbrev n_internal_abi_Type_Align : FuncId := 83
abbrev n_internal_runtime_maps_unhashableTypeError_Error : FuncId := 84
abbrev n_internal_runtime_maps_unhashableTypeError_RuntimeError : FuncId := 85
abbrev n_codec_Reader_Left : FuncId := 86
abbrev n_codec_Writer_Len : FuncId := 87
abbrev n_internal_abi_Kind_String : FuncId := 88

end
end Go.Proofs.Ytfhamcobfpmgbaa.Ah
