/- PRINTED by wip/tools/shallow.py: the numbers of this seat's functions. -/
import Derived.Test.YtihebhdgjnibfaaAh18
import Derived.Test.YtihebhdgjnibfaaProg
set_option linter.unusedVariables false
namespace Go.Proofs.Ytihebhdgjnibfaa.Ah
open Go
noncomputable section

abbrev prog : Program := Go.Proofs.Try.prog
abbrev drw (w0 : World) (n : Nat) : List Oper → Fr → (Fr → Hp → Prop) → Hp → Prop := vcDraw prog w0 n

abbrev n_deduplaw04_LayoutKinds : FuncId := 3
abbrev n_deduplaw04_LayoutEncodes : FuncId := 4
abbrev n_deduplaw04_LayoutDecodes : FuncId := 5
abbrev n_deduplaw04_LayoutNames : FuncId := 6
abbrev n_deduplaw04_LayoutChecks : FuncId := 7
abbrev n_deduplaw04_LayoutParts : FuncId := 8
abbrev n_deduplaw04_LayoutChooses : FuncId := 9
abbrev n_deduplaw04_LayoutOneOrOther : FuncId := 10
abbrev n_deduplaw04_awake : FuncId := 11
abbrev n_layout_Kind : FuncId := 12
abbrev n_dedupref04_Kind : FuncId := 13
abbrev n_layout_CheckSuper : FuncId := 14
abbrev n_dedupref04_CheckSuper : FuncId := 15
abbrev n_layout_EncodeSuper : FuncId := 16
abbrev n_dedupref04_EncodeSuper : FuncId := 17
abbrev n_layout_DecodeSuper : FuncId := 18
abbrev n_dedupref04_DecodeSuper : FuncId := 19
abbrev n_layout_Check : FuncId := 20
abbrev n_dedupref04_Check : FuncId := 21
abbrev n_layout_Journal : FuncId := 22
abbrev n_dedupref04_Journal : FuncId := 23
abbrev n_layout_Data : FuncId := 24
abbrev n_dedupref04_Data : FuncId := 25
abbrev n_layout_Choose : FuncId := 26
abbrev n_dedupref04_Choose : FuncId := 27
abbrev n_layout_Next : FuncId := 28
abbrev n_dedupref04_Next : FuncId := 29
abbrev n_layout_Slot : FuncId := 30
abbrev n_dedupref04_Slot : FuncId := 31
abbrev n_deduplaw04_small : FuncId := 32
abbrev n_layout_has : FuncId := 33
abbrev n_layout_right : FuncId := 34
abbrev n_codec_NewWriter : FuncId := 35
abbrev n_codec_Writer_U64 : FuncId := 36
abbrev n_codec_Writer_U32 : FuncId := 37
abbrev n_codec_Writer_U16 : FuncId := 38
abbrev n_codec_Writer_U8 : FuncId := 39
abbrev n_codec_Writer_Done : FuncId := 40
abbrev n_codec_Frame : FuncId := 41
abbrev n_dedupref02_Number : FuncId := 42
abbrev n_dedupref02_Frame : FuncId := 43
abbrev n_codec_Unframe : FuncId := 44
abbrev n_layout_read : FuncId := 45
abbrev n_dedupref02_Unframe : FuncId := 46
abbrev n_dedupref02_Read : FuncId := 47
abbrev n_dedupref04_power : FuncId := 48
abbrev n_layout_power : FuncId := 49
abbrev n_layout_within : FuncId := 50
abbrev n_codec_number_uint64 : FuncId := 51
abbrev n_codec_number_uint32 : FuncId := 52
abbrev n_codec_number_uint16 : FuncId := 53
abbrev n_codec_number_uint8 : FuncId := 54
abbrev n_codec_Writer_Raw : FuncId := 55
abbrev n_codec_Crc : FuncId := 56
abbrev n_dedupref02_Crc : FuncId := 57
abbrev n_codec_NewReader : FuncId := 58
abbrev n_codec_Reader_Raw : FuncId := 59
abbrev n_codec_Reader_U8 : FuncId := 60
abbrev n_codec_Reader_U32 : FuncId := 61
abbrev n_codec_Reader_Err : FuncId := 62
abbrev n_codec_Reader_U64 : FuncId := 63
abbrev n_codec_Reader_U16 : FuncId := 64
abbrev n_codec_Reader_Done : FuncId := 65
abbrev n_codec_Writer_put : FuncId := 66
abbrev n_codec_Reader_fault : FuncId := 67
abbrev n_codec_Reader_read : FuncId := 68
abbrev n_runtime_boundsError_Error : FuncId := 69
abbrev n_runtime_boundsError_RuntimeError : FuncId := 70
abbrev n_runtime_errorString_Error : FuncId := 71
abbrev n_runtime_errorString_RuntimeError : FuncId := 72
abbrev n_runtime_plainError_Error : FuncId := 73
abbrev n_runtime_plainError_RuntimeError : FuncId := 74
abbrev n_runtime_errorAddressString_Error : FuncId := 75
abbrev n_runtime_errorAddressString_RuntimeError : FuncId := 76
abbrev n_runtime_TypeAssertionError_Error : FuncId := 77
abbrev n_runtime_TypeAssertionError_RuntimeError : FuncId := 78
abbrev n_runtime_PanicNilError_Error : FuncId := 79
abbrev n_runtime_PanicNilError_RuntimeError : FuncId := 80
abbrev n_internal_abi_Type_Align : FuncId := 81
abbrev n_internal_runtime_maps_unhashableTypeError_Error : FuncId := 82
abbrev n_internal_runtime_maps_unhashableTypeError_RuntimeError : FuncId := 83
abbrev n_codec_Writer_Len : FuncId := 84
abbrev n_codec_Reader_Left : FuncId := 85
abbrev n_internal_abi_Kind_String : FuncId := 86

end
end Go.Proofs.Ytihebhdgjnibfaa.Ah
