/- PRINTED by wip/tools/shallow.py: the numbers of this seat's functions. -/
import Derived.Test.YtilofpnhpeammaaAh18
import Derived.Test.YtilofpnhpeammaaProg
set_option linter.unusedVariables false
namespace Go.Proofs.Ytilofpnhpeammaa.Ah
open Go
noncomputable section

abbrev prog : Program := Go.Proofs.Try.prog
abbrev drw (w0 : World) (n : Nat) : List Oper → Fr → (Fr → Hp → Prop) → Hp → Prop := vcDraw prog w0 n

abbrev n_deduplaw02_CodecShortest : FuncId := 3
abbrev n_deduplaw02_CodecReads : FuncId := 4
abbrev n_deduplaw02_CodecWrites : FuncId := 5
abbrev n_deduplaw02_CodecOrder : FuncId := 6
abbrev n_deduplaw02_CodecSplits : FuncId := 7
abbrev n_deduplaw02_CodecBack : FuncId := 8
abbrev n_deduplaw02_CodecUnframes : FuncId := 9
abbrev n_deduplaw02_CodecNobody : FuncId := 10
abbrev n_deduplaw02_CodecKeys : FuncId := 11
abbrev n_deduplaw02_CodecFrames : FuncId := 12
abbrev n_deduplaw02_CodecTurned : FuncId := 13
abbrev n_deduplaw02_awake : FuncId := 14
abbrev n_codec_NewWriter : FuncId := 15
abbrev n_codec_Writer_Varint : FuncId := 16
abbrev n_codec_Writer_Done : FuncId := 17
abbrev n_codec_NewReader : FuncId := 18
abbrev n_codec_Reader_Varint : FuncId := 19
abbrev n_codec_Reader_Left : FuncId := 20
abbrev n_codec_Reader_Err : FuncId := 21
abbrev n_deduplaw02_step : FuncId := 22
abbrev n_deduplaw02_write : FuncId := 23
abbrev n_deduplaw02_bytes : FuncId := 24
abbrev n_codec_Writer_Len : FuncId := 25
abbrev n_codec_Key : FuncId := 26
abbrev n_deduplaw02_below : FuncId := 27
abbrev n_codec_Split : FuncId := 28
abbrev n_dedupref02_Split : FuncId := 29
abbrev n_deduplaw02_sameNumbers : FuncId := 30
abbrev n_codec_Reader_U8 : FuncId := 31
abbrev n_codec_Reader_U16 : FuncId := 32
abbrev n_codec_Reader_U32 : FuncId := 33
abbrev n_codec_Reader_U64 : FuncId := 34
abbrev n_codec_Reader_Text : FuncId := 35
abbrev n_codec_Reader_Raw : FuncId := 36
abbrev n_codec_Reader_Done : FuncId := 37
abbrev n_codec_Unframe : FuncId := 38
abbrev n_dedupref02_Unframe : FuncId := 39
abbrev n_codec_Crc : FuncId := 40
abbrev n_dedupref02_Crc : FuncId := 41
abbrev n_dedupref02_Key : FuncId := 42
abbrev n_codec_Frame : FuncId := 43
abbrev n_dedupref02_Frame : FuncId := 44
abbrev n_codec_Writer_Text : FuncId := 45
abbrev n_codec_Writer_put : FuncId := 46
abbrev n_codec_varint : FuncId := 47
abbrev n_codec_shape : FuncId := 48
abbrev n_codec_Reader_fault : FuncId := 49
abbrev n_dedupref02_Read : FuncId := 50
abbrev n_deduplaw02_reading_raw : FuncId := 51
abbrev n_deduplaw02_reading_varint : FuncId := 52
abbrev n_deduplaw02_reading_text : FuncId := 53
abbrev n_codec_Writer_U8 : FuncId := 54
abbrev n_codec_Writer_U16 : FuncId := 55
abbrev n_codec_Writer_U32 : FuncId := 56
abbrev n_codec_Writer_U64 : FuncId := 57
abbrev n_codec_Writer_Raw : FuncId := 58
abbrev n_dedupref02_Number : FuncId := 59
abbrev n_dedupref02_Varint : FuncId := 60
abbrev n_dedupref02_Text : FuncId := 61
abbrev n_codec_Reader_read : FuncId := 62
abbrev n_deduplaw02_reading_fails : FuncId := 63
abbrev n_dedupref02_ReadVarint : FuncId := 64
abbrev n_codec_number_uint8 : FuncId := 65
abbrev n_codec_number_uint16 : FuncId := 66
abbrev n_codec_number_uint32 : FuncId := 67
abbrev n_codec_number_uint64 : FuncId := 68
abbrev n_runtime_boundsError_Error : FuncId := 69
abbrev n_runtime_boundsError_RuntimeError : FuncId := 70
abbrev n_runtime_errorString_Error : FuncId := 71
abbrev n_runtime_errorString_RuntimeError : FuncId := 72
abbrev n_runtime_plainError_Error : FuncId := 73
abbrev n_runtime_plainError_RuntimeError : FuncId := 74
abbrev n_runtime_errorAddressString_Error : FuncId := 75
abbrev n_runtime_errorAddressString_RuntimeError : FuncId := 76
abbrev n_runtime_TypeAssertionError_Error : FuncId := 77
abbrev n_runtime_TypeAssertionError_RuntimeError : FuncId := 78
abbrev n_runtime_PanicNilError_Error : FuncId := 79
abbrev n_runtime_PanicNilError_RuntimeError : FuncId := 80
abbrev n_internal_abi_Type_Align : FuncId := 81
abbrev n_internal_runtime_maps_unhashableTypeError_Error : FuncId := 82
abbrev n_internal_runtime_maps_unhashableTypeError_RuntimeError : FuncId := 83
abbrev n_internal_abi_Kind_String : FuncId := 84

end
end Go.Proofs.Ytilofpnhpeammaa.Ah
