/- PRINTED by wip/tools/shallow.py: the numbers of this seat's functions. -/
import Derived.Test.YtpdpponbhejlpaaAh28
import Derived.Test.YtpdpponbhejlpaaProg
set_option linter.unusedVariables false
namespace Go.Proofs.Ytpdpponbhejlpaa.Ah
open Go
noncomputable section

abbrev prog : Program := Go.Proofs.Try.prog
abbrev drw (w0 : World) (n : Nat) : List Oper → Fr → (Fr → Hp → Prop) → Hp → Prop := vcDraw prog w0 n

abbrev n_deduplaw10_SeqSorts : FuncId := 3
abbrev n_deduplaw10_SeqHeaps : FuncId := 4
abbrev n_deduplaw10_SeqWithout : FuncId := 5
abbrev n_deduplaw10_SeqMerges : FuncId := 6
abbrev n_deduplaw10_SeqMerged : FuncId := 7
abbrev n_deduplaw10_SeqAgrees : FuncId := 8
abbrev n_deduplaw10_SeqMaps : FuncId := 9
abbrev n_deduplaw10_SeqNobody : FuncId := 10
abbrev n_seq_NewHeap_string : FuncId := 11
abbrev n_deduplaw10_awake : FuncId := 12
abbrev n_seq_Heap_string_Push : FuncId := 13
abbrev n_seq_Heap_string_Pop : FuncId := 14
abbrev n_seq_Heap_string_Len : FuncId := 15
abbrev n_seq_NewHeap_int : FuncId := 16
abbrev n_seq_Heap_int_Pop : FuncId := 17
abbrev n_seq_Heap_int_Least : FuncId := 18
abbrev n_seq_Heap_int_Len : FuncId := 19
abbrev n_seq_Heap_int_Push : FuncId := 20
abbrev n_dedupref10_Sort : FuncId := 21
abbrev n_deduplaw10_items : FuncId := 22
abbrev n_deduplaw10_same : FuncId := 23
abbrev n_seq_Without_string_int : FuncId := 24
abbrev n_dedupref10_Without : FuncId := 25
abbrev n_dedupref10_SortOut : FuncId := 26
abbrev n_seq_Search_string_int : FuncId := 27
abbrev n_dedupref10_Find : FuncId := 28
abbrev n_seq_Merge_string_int : FuncId := 29
abbrev n_dedupref10_Merge : FuncId := 30
abbrev n_seq_NewMap_string_int : FuncId := 31
abbrev n_seq_Map_string_int_Put : FuncId := 32
abbrev n_seq_Map_string_int_Delete : FuncId := 33
abbrev n_seq_Map_string_int_All : FuncId := 34
abbrev n_seq_Map_string_int_At : FuncId := 35
abbrev n_seq_Map_string_int_Get : FuncId := 36
abbrev n_seq_Map_string_int_Rank : FuncId := 37
abbrev n_seq_Map_string_int_Len : FuncId := 38
abbrev n_seq_Map_string_int_Fork : FuncId := 39
abbrev n_deduplaw10_step : FuncId := 40
abbrev n_seq_Map_string_int_Range : FuncId := 41
abbrev n_cmp_Less_string : FuncId := 42
abbrev n_seq_heap_string_push : FuncId := 43
abbrev n_seq_heap_string_pop : FuncId := 44
abbrev n_cmp_Less_int : FuncId := 45
abbrev n_seq_heap_int_pop : FuncId := 46
abbrev n_seq_heap_int_push : FuncId := 47
abbrev n_seq_sorted_string_int : FuncId := 48
abbrev n_slices_Contains_lstring_string : FuncId := 49
abbrev n_slices_BinarySearchFunc_lseq_Item_string_int_seq_Item_string_int_string : FuncId := 50
abbrev n_seq_Search_string_int_S1 : FuncId := 51
abbrev n_cmp_Compare_string : FuncId := 52
abbrev n_seq_Merge_string_int_S1 : FuncId := 53
abbrev n_seq_heap_seq_head_string_int_push : FuncId := 54
abbrev n_seq_heap_seq_head_string_int_pop : FuncId := 55
abbrev n_dedupref10_Put : FuncId := 56
abbrev n_seq_Map_string_int_find : FuncId := 57
abbrev n_slices_Insert_lseq_Item_string_int_seq_Item_string_int : FuncId := 58
abbrev n_slices_Delete_lseq_Item_string_int_seq_Item_string_int : FuncId := 59
abbrev n_seq_Map_string_int_over : FuncId := 60
abbrev n_seq_Map_string_int_All_S1 : FuncId := 61
abbrev n_slices_Clone_lseq_Item_string_int_seq_Item_string_int : FuncId := 62
abbrev n_dedupref10_Delete : FuncId := 63
abbrev n_deduplaw10_goes : FuncId := 64
abbrev n_deduplaw10_part : FuncId := 65
abbrev n_seq_Map_string_int_Range_S1 : FuncId := 66
abbrev n_cmp_isNaN_string : FuncId := 67
abbrev n_cmp_isNaN_int : FuncId := 68
abbrev n_slices_Index_lstring_string : FuncId := 69
abbrev n_slices_overlaps_seq_Item_string_int : FuncId := 70
abbrev n_slices_rotateRight_seq_Item_string_int : FuncId := 71
abbrev n_seq_Map_string_int_over_S1 : FuncId := 72
abbrev n_slices_rotateLeft_seq_Item_string_int : FuncId := 73
abbrev n_slices_Reverse_lseq_Item_string_int_seq_Item_string_int : FuncId := 74
abbrev n_runtime_boundsError_Error : FuncId := 75
abbrev n_runtime_boundsError_RuntimeError : FuncId := 76
abbrev n_runtime_errorString_Error : FuncId := 77
abbrev n_runtime_errorString_RuntimeError : FuncId := 78
abbrev n_runtime_plainError_Error : FuncId := 79
abbrev n_runtime_plainError_RuntimeError : FuncId := 80
abbrev n_runtime_errorAddressString_Error : FuncId := 81
abbrev n_runtime_errorAddressString_RuntimeError : FuncId := 82
abbrev n_runtime_TypeAssertionError_Error : FuncId := 83
abbrev n_runtime_TypeAssertionError_RuntimeError : FuncId := 84
abbrev n_runtime_PanicNilError_Error : FuncId := 85
abbrev n_runtime_PanicNilError_RuntimeError : FuncId := 86
abbrev n_internal_abi_Type_Align : FuncId := 87
abbrev n_internal_runtime_maps_unhashableTypeError_Error : FuncId := 88
abbrev n_internal_runtime_maps_unhashableTypeError_RuntimeError : FuncId := 89
abbrev n_seq_Heap_string_Least : FuncId := 90
abbrev n_internal_abi_Kind_String : FuncId := 91

end
end Go.Proofs.Ytpdpponbhejlpaa.Ah
