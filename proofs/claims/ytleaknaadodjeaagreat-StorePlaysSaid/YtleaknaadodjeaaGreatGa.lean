/- Texts of the proofs of seat YtleaknaadodjeaaGreat, joined: Ids, Gen1, Gen2, Gen3, Gen4, Gen5, Gen6, Gen. They have no conditions of their own. -/
import Derived.Test.YtleaknaadodjeaaGreatMc
import Derived.Test.YtleaknaadodjeaaGreatChecked
import Derived.KernelRfl
set_option linter.unusedVariables false
set_option linter.unusedSimpArgs false
set_option linter.unusedSectionVars false

namespace Go.Proofs.YtleaknaadodjeaaGreat
abbrev F_gosem_cut_init : Nat := 2
abbrev F_milestonelaw30_StorePlays : Nat := 3
abbrev F_disk_New : Nat := 4
abbrev F_milestonelaw30_Act_text : Nat := 5
abbrev F_store_Steps : Nat := 6
abbrev F_milestoneref30_Steps : Nat := 7
abbrev F_store_Save : Nat := 8
abbrev F_milestoneref30_Save : Nat := 9
abbrev F_disk_Disk_Arm : Nat := 10
abbrev F_milestoneref29_Disk_Arm : Nat := 11
abbrev F_disk_Disk_Crash : Nat := 12
abbrev F_milestoneref29_Disk_Crash : Nat := 13
abbrev F_store_Load : Nat := 14
abbrev F_milestoneref29_Disk_Read : Nat := 15
abbrev F_disk_Disk_On : Nat := 16
abbrev F_disk_Disk_Names : Nat := 17
abbrev F_milestoneref29_Disk_Names : Nat := 18
abbrev F_milestonelaw30_works : Nat := 19
abbrev F_store_Save_1 : Nat := 20
abbrev F_store_Save_1_1 : Nat := 21
abbrev F_store_Save_2 : Nat := 22
abbrev F_store_pieces : Nat := 23
abbrev F_disk_Disk_Write : Nat := 24
abbrev F_store_do : Nat := 25
abbrev F_disk_Disk_Make : Nat := 26
abbrev F_disk_Disk_Sync : Nat := 27
abbrev F_store_Save_3 : Nat := 28
abbrev F_disk_Disk_Rename : Nat := 29
abbrev F_disk_Disk_SyncDir : Nat := 30
abbrev F_milestoneref29_Disk_Make : Nat := 31
abbrev F_milestoneref29_Disk_Write : Nat := 32
abbrev F_milestoneref29_Disk_Sync : Nat := 33
abbrev F_milestoneref29_Disk_Rename : Nat := 34
abbrev F_milestoneref29_Disk_SyncDir : Nat := 35
abbrev F_disk_Disk_Crash_1 : Nat := 36
abbrev F_maps_Clone_disk_directory_string_int : Nat := 37
abbrev F_disk_Disk_named : Nat := 38
abbrev F_disk_put : Nat := 39
abbrev F_milestoneref29_Disk_Pending : Nat := 40
abbrev F_milestoneref29_Disk_points : Nat := 41
abbrev F_disk_Disk_Read : Nat := 42
abbrev F_milestoneref29_Disk_refused : Nat := 43
abbrev F_milestoneref29_Points : Nat := 44
abbrev F_milestoneref29_Thing_Bytes : Nat := 45
abbrev F_slices_Collect_string : Nat := 46
abbrev F_disk_directory_rising : Nat := 47
abbrev F_milestonelaw30_loads : Nat := 48
abbrev F_store_pieces_1 : Nat := 49
abbrev F_disk_names : Nat := 50
abbrev F_disk_Disk_step : Nat := 51
abbrev F_disk_Disk_refused : Nat := 52
abbrev F_disk_Disk_Write_1 : Nat := 53
abbrev F_disk_Disk_change : Nat := 54
abbrev F_disk_Disk_Make_1 : Nat := 55
abbrev F_disk_Disk_Make_1_1 : Nat := 56
abbrev F_disk_Disk_Sync_1 : Nat := 57
abbrev F_disk_thing_seen : Nat := 58
abbrev F_disk_Disk_Rename_1 : Nat := 59
abbrev F_disk_Disk_Rename_1_1 : Nat := 60
abbrev F_disk_Disk_SyncDir_1 : Nat := 61
abbrev F_milestoneref29_Disk_change : Nat := 62
abbrev F_milestoneref29_May : Nat := 63
abbrev F_milestoneref29_Disk_step : Nat := 64
abbrev F_disk_Disk_named_1 : Nat := 66
abbrev F_slices_Compact_sl_int_int : Nat := 67
abbrev F_slices_Sorted_int : Nat := 68
abbrev F_maps_Values_disk_directory_string_int : Nat := 69
abbrev F_slices_AppendSeq_sl_string_string : Nat := 70
abbrev F_disk_directory_rising_1 : Nat := 71
abbrev F_slices_Sorted_string : Nat := 72
abbrev F_maps_Keys_disk_directory_string_int : Nat := 73
abbrev F_slices_ContainsFunc_sl_string_string : Nat := 74
abbrev F_disk_names_1 : Nat := 75
abbrev F_disk_Disk_change_1 : Nat := 76
abbrev F_slices_Clone_sl_byte_byte : Nat := 77
abbrev F_slices_Collect_int : Nat := 78
abbrev F_slices_Sort_sl_int_int : Nat := 79
abbrev F_maps_Values_disk_directory_string_int_1 : Nat := 80
abbrev F_slices_Sort_sl_string_string : Nat := 81
abbrev F_maps_Keys_disk_directory_string_int_1 : Nat := 82
abbrev F_slices_IndexFunc_sl_string_string : Nat := 83
abbrev F_slices_AppendSeq_sl_int_int : Nat := 84
abbrev F_slices_pdqsortOrdered_int : Nat := 85
abbrev F_math_bits_Len : Nat := 86
abbrev F_slices_pdqsortOrdered_string : Nat := 87
abbrev F_slices_insertionSortOrdered_int : Nat := 88
abbrev F_slices_heapSortOrdered_int : Nat := 89
abbrev F_slices_breakPatternsOrdered_int : Nat := 90
abbrev F_slices_choosePivotOrdered_int : Nat := 91
abbrev F_slices_reverseRangeOrdered_int : Nat := 92
abbrev F_slices_partialInsertionSortOrdered_int : Nat := 93
abbrev F_cmp_Less_int : Nat := 94
abbrev F_slices_partitionEqualOrdered_int : Nat := 95
abbrev F_slices_partitionOrdered_int : Nat := 96
abbrev F_math_bits_Len32 : Nat := 97
abbrev F_math_bits_Len64 : Nat := 98
abbrev F_slices_insertionSortOrdered_string : Nat := 99
abbrev F_slices_heapSortOrdered_string : Nat := 100
abbrev F_slices_breakPatternsOrdered_string : Nat := 101
abbrev F_slices_choosePivotOrdered_string : Nat := 102
abbrev F_slices_reverseRangeOrdered_string : Nat := 103
abbrev F_slices_partialInsertionSortOrdered_string : Nat := 104
abbrev F_cmp_Less_string : Nat := 105
abbrev F_slices_partitionEqualOrdered_string : Nat := 106
abbrev F_slices_partitionOrdered_string : Nat := 107
abbrev F_slices_siftDownOrdered_int : Nat := 108
abbrev F_slices_nextPowerOfTwo : Nat := 109
abbrev F_slices_xorshift_Next : Nat := 110
abbrev F_slices_medianAdjacentOrdered_int : Nat := 111
abbrev F_slices_medianOrdered_int : Nat := 112
abbrev F_cmp_isNaN_int : Nat := 113
abbrev F_slices_siftDownOrdered_string : Nat := 114
abbrev F_slices_medianAdjacentOrdered_string : Nat := 115
abbrev F_slices_medianOrdered_string : Nat := 116
abbrev F_cmp_isNaN_string : Nat := 117
abbrev F_slices_order2Ordered_int : Nat := 118
abbrev F_slices_order2Ordered_string : Nat := 119
abbrev T_ : Nat := 0
abbrev T_func : Nat := 1
abbrev T_int64 : Nat := 2
abbrev T_int : Nat := 3
abbrev T_bool : Nat := 4
abbrev T_uint8 : Nat := 5
abbrev T_abi_BoundsErrorCode : Nat := 6
abbrev T_struct_x_int64_y_int_signed_bool_code_abi_BoundsErrorCode : Nat := 7
abbrev T_runtime_boundsError : Nat := 8
abbrev T_string : Nat := 9
abbrev T_runtime_errorString : Nat := 10
abbrev T_runtime_plainError : Nat := 11
abbrev T_uintptr : Nat := 12
abbrev T_struct_msg_string_addr_uintptr : Nat := 13
abbrev T_runtime_errorAddressString : Nat := 14
abbrev T_p_runtime_TypeAssertionError : Nat := 15
abbrev T_p_runtime_PanicNilError : Nat := 16
abbrev T_p_abi_Type : Nat := 17
abbrev T_struct_typ_p_abi_Type : Nat := 18
abbrev T_maps_unhashableTypeError : Nat := 19
abbrev T_interface : Nat := 20
abbrev T_int32 : Nat := 21
abbrev T_sl_milestonelaw30_Act : Nat := 22
abbrev T_p_disk_Disk : Nat := 23
abbrev T_func_p_disk_Disk : Nat := 24
abbrev T_p_milestoneref29_Disk : Nat := 25
abbrev T_sl_milestoneref29_Thing : Nat := 26
abbrev T_sl_milestoneref29_Change : Nat := 27
abbrev T_struct_Things_sl_milestoneref29_Thing_Changes_sl_milestoneref29_Change_Off_bool_Armed_int : Nat := 28
abbrev T_milestoneref29_Disk : Nat := 29
abbrev T_sl_uint8 : Nat := 30
abbrev T_uint16 : Nat := 31
abbrev T_struct_Kind_uint8_B_sl_uint8_Long_uint16_N_uint8_Fates_sl_uint8 : Nat := 32
abbrev T_milestonelaw30_Act : Nat := 33
abbrev T_func_string : Nat := 34
abbrev T_func_string_int : Nat := 35
abbrev T_api_Errno : Nat := 36
abbrev T_funcdisk_Disk_string_api_Errno : Nat := 37
abbrev T_funcmilestoneref29_Disk_string_api_Errno : Nat := 38
abbrev T_func_int : Nat := 39
abbrev T_func_sl_uint8 : Nat := 40
abbrev T_string_api_Errno : Nat := 41
abbrev T_funcdisk_Disk_string_api_Errno_v2 : Nat := 42
abbrev T_func_string_string_api_Errno : Nat := 43
abbrev T_func_bool : Nat := 44
abbrev T_sl_string : Nat := 45
abbrev T_func_sl_string : Nat := 46
abbrev T_func_sl_milestonelaw30_Act_bool : Nat := 47
abbrev T_map_string_int : Nat := 48
abbrev T_disk_directory : Nat := 49
abbrev T_map_int_p_disk_thing : Nat := 50
abbrev T_sl_disk_change : Nat := 51
abbrev T_struct_durable_disk_directory_now_disk_directory_things_map_int_p_disk_thing_pending_sl_disk_change_made_int_armed_int_off_bool : Nat := 52
abbrev T_disk_Disk : Nat := 53
abbrev T_func_string_api_Errno : Nat := 54
abbrev T_func_api_Errno : Nat := 55
abbrev T_func_func_string_api_Errno_func_api_Errno : Nat := 56
abbrev T_func_func_int_string_bool : Nat := 57
abbrev T_iter_Seq2_int_string : Nat := 58
abbrev T_func_string_iter_Seq2_int_string : Nat := 59
abbrev T_func_string_int_string_api_Errno : Nat := 60
abbrev T_func_func_api_Errno_api_Errno : Nat := 61
abbrev T_func_string_string_api_Errno_v2 : Nat := 62
abbrev T_func_int_v2 : Nat := 63
abbrev T_func_disk_directory : Nat := 64
abbrev T_struct_do_func_disk_directory : Nat := 65
abbrev T_disk_change : Nat := 66
abbrev T_func_disk_directory_disk_directory : Nat := 67
abbrev T_func_func_int_p_disk_thing_bool : Nat := 68
abbrev T_iter_Seq2_int_p_disk_thing : Nat := 69
abbrev T_func_iter_Seq2_int_p_disk_thing : Nat := 70
abbrev T_p_disk_thing : Nat := 71
abbrev T_sl_disk_write : Nat := 72
abbrev T_struct_durable_sl_uint8_pending_sl_disk_write : Nat := 73
abbrev T_disk_thing : Nat := 74
abbrev T_struct_at_int_s_string : Nat := 75
abbrev T_disk_write : Nat := 76
abbrev T_func_sl_uint8_disk_write_sl_uint8 : Nat := 77
abbrev T_int_int : Nat := 78
abbrev T_func_int_int : Nat := 79
abbrev T_struct_What_int_N_int_A_string_B_string_Synced_bool : Nat := 80
abbrev T_milestoneref29_Change : Nat := 81
abbrev T_func_int_bool : Nat := 82
abbrev T_sl_milestoneref29_Write : Nat := 83
abbrev T_struct_Writes_sl_milestoneref29_Write : Nat := 84
abbrev T_milestoneref29_Thing : Nat := 85
abbrev T_struct_At_int_S_string_Synced_bool : Nat := 86
abbrev T_milestoneref29_Write : Nat := 87
abbrev T_func_bool_string_api_Errno : Nat := 88
abbrev T_func_sl_milestoneref29_Change_string_int : Nat := 89
abbrev T_func_iter_Seq_string_sl_string : Nat := 90
abbrev T_func_func_string_bool : Nat := 91
abbrev T_iter_Seq_string : Nat := 92
abbrev T_func_iter_Seq_string : Nat := 93
abbrev T_2_string : Nat := 94
abbrev T_funcdisk_Disk_string_api_Errno_bool : Nat := 95
abbrev T_func_int_string_bool : Nat := 96
abbrev T_func_string_api_Errno_v2 : Nat := 97
abbrev T_func_api_Errno_func_api_Errno : Nat := 98
abbrev T_func_api_Errno_string_api_Errno : Nat := 99
abbrev T_sl_func_api_Errno : Nat := 100
abbrev T_func_api_Errno_func_disk_change_api_Errno : Nat := 101
abbrev T_func_disk_change : Nat := 102
abbrev T_func_sl_uint8_v2 : Nat := 103
abbrev T_func_bool_milestoneref29_Change_string_api_Errno : Nat := 104
abbrev T_func_string_bool : Nat := 105
abbrev T_func_interface_interface : Nat := 106
abbrev T_func_int_p_disk_thing_bool : Nat := 107
abbrev T_sl_int : Nat := 108
abbrev T_func_sl_int_sl_int : Nat := 109
abbrev T_func_iter_Seq_int_sl_int : Nat := 110
abbrev T_func_func_int_bool : Nat := 111
abbrev T_iter_Seq_int : Nat := 112
abbrev T_func_disk_directory_iter_Seq_int : Nat := 113
abbrev T_func_sl_string_iter_Seq_string_sl_string : Nat := 114
abbrev T_func_disk_directory_iter_Seq_string : Nat := 115
abbrev T_func_sl_string_func_string_bool_bool : Nat := 116
abbrev T_int_bool : Nat := 117
abbrev T_func_sl_uint8_sl_uint8 : Nat := 118
abbrev T_func_sl_int : Nat := 119
abbrev T_func_sl_string_v2 : Nat := 120
abbrev T_func_sl_string_func_string_bool_int : Nat := 121
abbrev T_func_sl_int_iter_Seq_int_sl_int : Nat := 122
abbrev T_func_sl_int_int_int_int : Nat := 123
abbrev T_func_uint_int : Nat := 124
abbrev T_uint : Nat := 125
abbrev T_func_sl_string_int_int_int : Nat := 126
abbrev T_func_sl_int_int_int : Nat := 127
abbrev T_slices_sortedHint : Nat := 128
abbrev T_int_slices_sortedHint : Nat := 129
abbrev T_func_sl_int_int_int_int_slices_sortedHint : Nat := 130
abbrev T_func_sl_int_int_int_bool : Nat := 131
abbrev T_func_int_int_bool : Nat := 132
abbrev T_func_sl_int_int_int_int_int : Nat := 133
abbrev T_func_sl_int_int_int_int_int_bool : Nat := 134
abbrev T_func_uint32_int : Nat := 135
abbrev T_uint32 : Nat := 136
abbrev T_func_uint64_int : Nat := 137
abbrev T_uint64 : Nat := 138
abbrev T_func_sl_string_int_int : Nat := 139
abbrev T_func_sl_string_int_int_int_slices_sortedHint : Nat := 140
abbrev T_func_sl_string_int_int_bool : Nat := 141
abbrev T_func_string_string_bool : Nat := 142
abbrev T_func_sl_string_int_int_int_int : Nat := 143
abbrev T_func_sl_string_int_int_int_int_bool : Nat := 144
abbrev T_slices_xorshift : Nat := 145
abbrev T_func_int_uint : Nat := 146
abbrev T_func_uint64 : Nat := 147
abbrev T_func_sl_int_int_p_int_int : Nat := 148
abbrev T_p_int : Nat := 149
abbrev T_func_sl_int_int_int_int_p_int_int : Nat := 150
abbrev T_func_sl_string_int_p_int_int : Nat := 151
abbrev T_func_sl_string_int_int_int_p_int_int : Nat := 152
abbrev T_p_slices_xorshift : Nat := 153
abbrev T_func_sl_int_int_int_p_int_int_int : Nat := 154
abbrev T_func_sl_string_int_int_p_int_int_int : Nat := 155
abbrev T_struct_interface_p_abi_Type_concrete_p_abi_Type_asserted_p_abi_Type_missingMethod_string : Nat := 156
abbrev T_runtime_TypeAssertionError : Nat := 157
abbrev T_0_p_runtime_PanicNilError : Nat := 158
abbrev T_struct_0_p_runtime_PanicNilError : Nat := 159
abbrev T_runtime_PanicNilError : Nat := 160
abbrev T_abi_TFlag : Nat := 161
abbrev T_abi_Kind : Nat := 162
abbrev T_func_unsafe_Pointer_unsafe_Pointer_bool : Nat := 163
abbrev T_p_uint8 : Nat := 164
abbrev T_abi_NameOff : Nat := 165
abbrev T_abi_TypeOff : Nat := 166
abbrev T_struct_Size_uintptr_PtrBytes_uintptr_Hash_uint32_TFlag_abi_TFlag_Align_uint8_FieldAlign_uint8_Kind_abi_Kind_Equal_func_unsafe_Pointer_unsafe_Pointer_bool_GCData_p_uint8_Str_abi_NameOff_PtrToThis_abi_TypeOff : Nat := 167
abbrev T_abi_Type : Nat := 168
abbrev T_unsafe_Pointer : Nat := 169
end Go.Proofs.YtleaknaadodjeaaGreat

namespace Go.Proofs.YtleaknaadodjeaaGreat
open Go Go.Mh
set_option maxHeartbeats 0
set_option linter.unusedVariables false

/-! milestone/milestonelaw30.StorePlays -/

def sh_milestonelaw30_StorePlays_L5 (P : Program) (t117 t119 : Value) (K : Value → Heap → Prop) (i5 : Value) (Z : Value → Heap → Prop) (k13 : Value) (h_17 : Heap) (Z_1 : Value → Heap → Prop) : Prop :=
  pLen t117 fun t127 =>
  pBin .lss k13 t127 fun t128 =>
  ifV t128
  (pIdx 1 t117 k13 fun t133 =>
  pLoad h_17 t133 fun t134 =>
  pIdx 1 t119 k13 fun t137 =>
  pLoad h_17 t137 fun t138 =>
  pBin .neq t134 t138 fun t139 =>
  ifV t139
  (K (.bool false) h_17)
  (pBin .add k13 (.int .i64 1) fun t130 =>
  Z_1 t130 h_17))
  (pBin .add i5 (.int .i64 1) fun t28 =>
  Z t28 h_17)

def sh_milestonelaw30_StorePlays_C4 (P : Program) (K : Value → Heap → Prop) (t14 t16 i5 : Value) (Z : Value → Heap → Prop) (t115 : Value) (h_14 : Heap) : Prop :=
  ifV t115
  (K (.bool false) h_14)
  (callS P F_disk_Disk_Names [t14] h_14 fun t117 h_15 =>
  callS P F_milestoneref29_Disk_Names [t16] h_15 fun t119 h_16 =>
  pLen t117 fun t121 =>
  pLen t119 fun t123 =>
  pBin .neq t121 t123 fun t124 =>
  ifV t124
  (K (.bool false) h_16)
  (LoopH (σ := Vals [13]) (fun x hh ZZ => sh_milestonelaw30_StorePlays_L5 P t117 t119 K i5 Z x.1 hh (fun a0 hz => ZZ (a0, ()) hz)) ((.int .i64 0), ()) h_16))

def sh_milestonelaw30_StorePlays_k3 (P : Program) (t14 t16 : Value) (K : Value → Heap → Prop) (i5 : Value) (Z : Value → Heap → Prop) (h_10 : Heap) : Prop :=
  callS P F_store_Load [t14] h_10 fun t91 h_11 =>
  pExt t91 0 fun t92 =>
  pExt t91 1 fun t93 =>
  callS P F_milestoneref29_Disk_Read [t16, (.string ⟨#[105, 109, 97, 103, 101]⟩)] h_11 fun t96 h_12 =>
  pExt t96 0 fun t97 =>
  pExt t96 1 fun t98 =>
  cutP (σ := Vals [115]) (fun J =>
  pBin .neq t92 t97 fun t101 =>
  ifV t101
  (J ((.bool true), ()) h_12)
  (pBin .neq t93 t98 fun t105 =>
  ifV t105
  (J ((.bool true), ()) h_12)
  (pNil t16 fun t111 =>
  pField 2 t111 fun t112 =>
  pLoad h_12 t112 fun t113 =>
  callS P F_disk_Disk_On [t14] h_12 fun t109 h_13 =>
  (pLoad h_13 t112 fun t113_1 =>
  t113_1 = t113) ∧
  (pEq false .bool t109 t113 fun t114 =>
  J (t114, ()) h_13))))
  (fun x hh => sh_milestonelaw30_StorePlays_C4 P K t14 t16 i5 Z x.1 hh)

def sh_milestonelaw30_StorePlays_k2 (P : Program) (t14 t33 t16 : Value) (K : Value → Heap → Prop) (i5 : Value) (Z : Value → Heap → Prop) (t44 l0 t59 : Value) (h_7 : Heap) : Prop :=
  ifV t59
  (callS P F_store_Save [t14, t33] h_7 fun t64 h_8 =>
  callS P F_milestoneref30_Save [t16, t33] h_8 fun t67 h_9 =>
  pBin .neq t64 t67 fun t68 =>
  ifV t68
  (K (.bool false) h_9)
  (sh_milestonelaw30_StorePlays_k3 P t14 t16 K i5 Z h_9))
  (pBin .eql t44 (.int .u8 2) fun t70 =>
  ifV t70
  (pIdx 5 l0 i5 fun t74 =>
  pField 3 t74 fun t75 =>
  pLoad h_7 t75 fun t76 =>
  pBin .rem t76 (.int .u8 30) fun t77 =>
  pConv .i64 t77 fun t78 =>
  callS P F_disk_Disk_Arm [t14, t78] h_7 fun t79 h_18 =>
  pIdx 5 l0 i5 fun t83 =>
  pField 3 t83 fun t84 =>
  pLoad h_18 t84 fun t85 =>
  pBin .rem t85 (.int .u8 30) fun t86 =>
  pConv .i64 t86 fun t87 =>
  callS P F_milestoneref29_Disk_Arm [t16, t87] h_18 fun t88 h_19 =>
  sh_milestonelaw30_StorePlays_k3 P t14 t16 K i5 Z h_19)
  (pIdx 5 l0 i5 fun t48 =>
  pField 4 t48 fun t49 =>
  pLoad h_7 t49 fun t50 =>
  callS P F_disk_Disk_Crash [t14, t50] h_7 fun t51 h_20 =>
  pIdx 5 l0 i5 fun t55 =>
  pField 4 t55 fun t56 =>
  pLoad h_20 t56 fun t57 =>
  callS P F_milestoneref29_Disk_Crash [t16, t57] h_20 fun t58 h_21 =>
  sh_milestonelaw30_StorePlays_k3 P t14 t16 K i5 Z h_21))

def sh_milestonelaw30_StorePlays_k6 (P : Program) (K : Value → Heap → Prop) (h_22 : Heap) : Prop :=
  callS P F_milestonelaw30_works [] h_22 fun t140 h_23 =>
  K t140 h_23

def sh_milestonelaw30_StorePlays_L1 (P : Program) (l0 : Value) (K : Value → Heap → Prop) (t14 t16 i5 : Value) (h_3 : Heap) (Z : Value → Heap → Prop) : Prop :=
  pLen l0 fun t21 =>
  pBin .lss i5 t21 fun t22 =>
  ifV t22
  (pBin .lss i5 (.int .i64 30) fun t25 =>
  ifV t25
  (pIdx 5 l0 i5 fun t31 =>
  pLoadN 5 h_3 t31 fun t32 =>
  callS P F_milestonelaw30_Act_text [t32] h_3 fun t33 h_4 =>
  callS P F_store_Steps [t33] h_4 fun t35 h_5 =>
  callS P F_milestoneref30_Steps [t33] h_5 fun t37 h_6 =>
  pBin .neq t35 t37 fun t38 =>
  ifV t38
  (K (.bool false) h_6)
  (pIdx 5 l0 i5 fun t41 =>
  pField 0 t41 fun t42 =>
  pLoad h_6 t42 fun t43 =>
  pBin .rem t43 (.int .u8 4) fun t44 =>
  pBin .eql t44 (.int .u8 0) fun t60 =>
  ifV t60
  (sh_milestonelaw30_StorePlays_k2 P t14 t33 t16 K i5 Z t44 l0 t60 h_6)
  (pBin .eql t44 (.int .u8 1) fun t61 =>
  sh_milestonelaw30_StorePlays_k2 P t14 t33 t16 K i5 Z t44 l0 t61 h_6)))
  (sh_milestonelaw30_StorePlays_k6 P K h_3))
  (sh_milestonelaw30_StorePlays_k6 P K h_3)

def sh_milestonelaw30_StorePlays (P : Program) (l0 : Value) (h : Heap) (K : Value → Heap → Prop) : Prop :=
  callS P F_disk_New [] h fun t14 h_1 =>
  pBuild [(.slice none 0 0), (.slice none 0 0), (.bool false), (.int .i64 0)] [] fun t15 =>
  pBox T_milestoneref29_Disk t15 h_1 fun t16 h_2 =>
  pEq false .ptr t14 (.pointer none) fun t18 =>
  ifV t18
  (K (.bool false) h_2)
  (LoopH (σ := Vals [5]) (fun x hh ZZ => sh_milestonelaw30_StorePlays_L1 P l0 K t14 t16 x.1 hh (fun a0 hz => ZZ (a0, ()) hz)) ((.int .i64 0), ()) h_2)

set_option maxRecDepth 100000 in
theorem lk_milestonelaw30_StorePlays (l0 : Value) {h : Heap} {K : Value → Heap → Prop} (H : sh_milestonelaw30_StorePlays Tryz.prog l0 h K) : CallsH Tryz.prog F_milestonelaw30_StorePlays [l0].toArray h K :=
  callsH_of (ann := (annG (Tryz.f3.body.getD .skip) 0 [(7, [5]), (27, [115]), (34, [13])]).1) (c := Tryz.f3.body.getD .skip) Tryz.func3 (by kernel_rfl) (by kernel_rfl) (by kernel_rfl) (of_decide_eq_true (by kernel_rfl))
    (Eq.mpr (by kernel_rfl) H)

/-! milestone/disk.New -/

def sh_disk_New (P : Program) (h : Heap) (K : Value → Heap → Prop) : Prop :=
  pMakeMap h fun t1 h_1 =>
  pMakeMap h_1 fun t2 h_2 =>
  pMakeMap h_2 fun t3 h_3 =>
  pBuild [(.map none), (.map none), (.map none), (.slice none 0 0), (.int .i64 0), (.int .i64 0), (.bool false)] [(0, 1, t1), (1, 1, t2), (2, 1, t3)] fun t4 =>
  pBox T_disk_Disk t4 h_3 fun t5 h_4 =>
  K t5 h_4

set_option maxRecDepth 100000 in
theorem lk_disk_New {h : Heap} {K : Value → Heap → Prop} (H : sh_disk_New Tryz.prog h K) : CallsH Tryz.prog F_disk_New [].toArray h K :=
  callsH_of (ann := (annG (Tryz.f4.body.getD .skip) 0 []).1) (c := Tryz.f4.body.getD .skip) Tryz.func4 (by kernel_rfl) (by kernel_rfl) (by kernel_rfl) (of_decide_eq_true (by kernel_rfl))
    (Eq.mpr (by kernel_rfl) H)

/-! (milestone/milestonelaw30.Act).text -/

def sh_milestonelaw30_Act_text_k2 (P : Program) (out3 : Value) (K : Value → Heap → Prop) (h_5 : Heap) : Prop :=
  pConvBS h_5 out3 fun t39 =>
  K t39 h_5

def sh_milestonelaw30_Act_text_L1 (P : Program) (a1 : Value) (K : Value → Heap → Prop) (out3 i4 : Value) (h_2 : Heap) (Z : Value → Value → Heap → Prop) : Prop :=
  pField 2 a1 fun t6 =>
  pLoad h_2 t6 fun t7 =>
  pBin .rem t7 (.int .u16 800) fun t8 =>
  pConv .i64 t8 fun t9 =>
  pBin .lss i4 t9 fun t10 =>
  ifV t10
  (pField 1 a1 fun t12 =>
  pLoad h_2 t12 fun t13 =>
  pLen t13 fun t14 =>
  pBin .gtr t14 (.int .i64 0) fun t15 =>
  ifV t15
  (pField 1 a1 fun t20 =>
  pLoad h_2 t20 fun t21 =>
  pField 1 a1 fun t23 =>
  pLoad h_2 t23 fun t24 =>
  pLen t24 fun t25 =>
  pBin .rem i4 t25 fun t26 =>
  pIdx 1 t21 t26 fun t27 =>
  pLoad h_2 t27 fun t28 =>
  pField 1 a1 fun t30 =>
  pLoad h_2 t30 fun t31 =>
  pLen t31 fun t32 =>
  pBin .quo i4 t32 fun t33 =>
  pConv .u8 t33 fun t34 =>
  pBin .add t28 t34 fun t35 =>
  pBuildSlice T_uint8 (zerosL [(.int .u8 0)] 1) [(0, 1, t35)] 1 h_2 fun t36 h_3 =>
  pAppend T_uint8 1 1 [(.int .u8 0)] out3 t36 h_3 fun t37 h_4 =>
  pBin .add i4 (.int .i64 1) fun t18 =>
  Z t37 t18 h_4)
  (sh_milestonelaw30_Act_text_k2 P out3 K h_2))
  (sh_milestonelaw30_Act_text_k2 P out3 K h_2)

def sh_milestonelaw30_Act_text (P : Program) (a0 : Value) (h : Heap) (K : Value → Heap → Prop) : Prop :=
  pBox T_milestonelaw30_Act a0 h fun a1 h_1 =>
  LoopH (σ := Vals [3, 4]) (fun x hh ZZ => sh_milestonelaw30_Act_text_L1 P a1 K x.1 x.2.1 hh (fun a0 a1 hz => ZZ (a0, (a1, ())) hz)) ((.slice none 0 0), ((.int .i64 0), ())) h_1

set_option maxRecDepth 100000 in
theorem lk_milestonelaw30_Act_text (a0 : Value) {h : Heap} {K : Value → Heap → Prop} (H : sh_milestonelaw30_Act_text Tryz.prog a0 h K) : CallsH Tryz.prog F_milestonelaw30_Act_text [a0].toArray h K :=
  callsH_of (ann := (annG (Tryz.f5.body.getD .skip) 0 [(4, [3, 4])]).1) (c := Tryz.f5.body.getD .skip) Tryz.func5 (by kernel_rfl) (by kernel_rfl) (by kernel_rfl) (of_decide_eq_true (by kernel_rfl))
    (Eq.mpr (by kernel_rfl) H)

/-! milestone/store.Steps -/

def sh_store_Steps (P : Program) (s0 : Value) (h : Heap) (K : Value → Heap → Prop) : Prop :=
  pLenS s0 fun t4 =>
  pBin .gtr t4 (.int .i64 1048576) fun t5 =>
  ifV t5
  (K (.int .i64 0) h)
  (pLenS s0 fun t7 =>
  pBin .add t7 (.int .i64 64) fun t8 =>
  pBin .sub t8 (.int .i64 1) fun t9 =>
  pBin .quo t9 (.int .i64 64) fun t10 =>
  pBin .add (.int .i64 4) t10 fun t11 =>
  K t11 h)

set_option maxRecDepth 100000 in
theorem lk_store_Steps (s0 : Value) {h : Heap} {K : Value → Heap → Prop} (H : sh_store_Steps Tryz.prog s0 h K) : CallsH Tryz.prog F_store_Steps [s0].toArray h K :=
  callsH_of (ann := (annG (Tryz.f6.body.getD .skip) 0 []).1) (c := Tryz.f6.body.getD .skip) Tryz.func6 (by kernel_rfl) (by kernel_rfl) (by kernel_rfl) (of_decide_eq_true (by kernel_rfl))
    (Eq.mpr (by kernel_rfl) H)

/-! milestone/milestoneref30.Steps -/

def sh_milestoneref30_Steps (P : Program) (s0 : Value) (h : Heap) (K : Value → Heap → Prop) : Prop :=
  pLenS s0 fun t4 =>
  pBin .gtr t4 (.int .i64 1048576) fun t5 =>
  ifV t5
  (K (.int .i64 0) h)
  (pLenS s0 fun t7 =>
  pBin .add t7 (.int .i64 63) fun t8 =>
  pBin .quo t8 (.int .i64 64) fun t9 =>
  pBin .add (.int .i64 4) t9 fun t10 =>
  K t10 h)

set_option maxRecDepth 100000 in
theorem lk_milestoneref30_Steps (s0 : Value) {h : Heap} {K : Value → Heap → Prop} (H : sh_milestoneref30_Steps Tryz.prog s0 h K) : CallsH Tryz.prog F_milestoneref30_Steps [s0].toArray h K :=
  callsH_of (ann := (annG (Tryz.f7.body.getD .skip) 0 []).1) (c := Tryz.f7.body.getD .skip) Tryz.func7 (by kernel_rfl) (by kernel_rfl) (by kernel_rfl) (of_decide_eq_true (by kernel_rfl))
    (Eq.mpr (by kernel_rfl) H)

/-! milestone/store.Save -/

def sh_store_Save (P : Program) (d0 s1 : Value) (h : Heap) (K : Value → Heap → Prop) : Prop :=
  pBox T_p_disk_Disk d0 h fun d2 h_1 =>
  pBox T_string s1 h_1 fun s3 h_2 =>
  pLoad h_2 d2 fun t8 =>
  pEq false .ptr t8 (.pointer none) fun t9 =>
  ifV t9
  (K (.int .i64 1) h_2)
  (pLoad h_2 s3 fun t11 =>
  pLenS t11 fun t12 =>
  pBin .gtr t12 (.int .i64 1048576) fun t13 =>
  ifV t13
  (K (.int .i64 2) h_2)
  (pLoad h_2 d2 fun t16 =>
  pLoad h_2 d2 fun t21 =>
  pLoad h_2 d2 fun t25 =>
  callV P (.func (.func F_store_Save_1) #[] #[]) [(.func (.func F_disk_Disk_Make) #[t16] #[])].toArray h_2 fun t18 h_3 =>
  (pLoad h_3 d2 fun t21_1 =>
  t21_1 = t21) ∧
  (pLoad h_3 d2 fun t25_1 =>
  t25_1 = t25) ∧
  (callV P (.func (.func F_store_Save_1) #[] #[]) [(.func (.func F_disk_Disk_Sync) #[t21] #[])].toArray h_3 fun t23 h_4 =>
  (pLoad h_4 d2 fun t25_2 =>
  t25_2 = t25) ∧
  (pBuildSlice T_func_api_Errno (zerosL [.nilFunc] 5) [(0, 1, t18), (1, 1, (.func (.func F_store_Save_2) #[] #[s3, d2])), (2, 1, t23), (3, 1, (.func (.func F_store_Save_3) #[] #[d2])), (4, 1, (.func (.func F_disk_Disk_SyncDir) #[t25] #[]))] 5 h_4 fun t27 h_5 =>
  callS P F_store_do [t27] h_5 fun t28 h_6 =>
  K t28 h_6))))

set_option maxRecDepth 100000 in
theorem lk_store_Save (d0 s1 : Value) {h : Heap} {K : Value → Heap → Prop} (H : sh_store_Save Tryz.prog d0 s1 h K) : CallsH Tryz.prog F_store_Save [d0, s1].toArray h K :=
  callsH_of (ann := (annG (Tryz.f8.body.getD .skip) 0 []).1) (c := Tryz.f8.body.getD .skip) Tryz.func8 (by kernel_rfl) (by kernel_rfl) (by kernel_rfl) (of_decide_eq_true (by kernel_rfl))
    (Eq.mpr (by kernel_rfl) H)

/-! milestone/milestoneref30.Save -/

def sh_milestoneref30_Save_k5 (P : Program) (K : Value → Heap → Prop) (e5_3 : Value) (h_10 : Heap) : Prop :=
  K e5_3 h_10

def sh_milestoneref30_Save_k4 (P : Program) (d0 : Value) (K : Value → Heap → Prop) (e5_2 : Value) (h_8 : Heap) : Prop :=
  pBin .eql e5_2 (.int .i64 0) fun t42 =>
  ifV t42
  (callS P F_milestoneref29_Disk_SyncDir [d0] h_8 fun t44 h_9 =>
  sh_milestoneref30_Save_k5 P K t44 h_9)
  (sh_milestoneref30_Save_k5 P K e5_2 h_8)

def sh_milestoneref30_Save_k3 (P : Program) (d0 : Value) (K : Value → Heap → Prop) (e5_1 : Value) (h_6 : Heap) : Prop :=
  pBin .eql e5_1 (.int .i64 0) fun t38 =>
  ifV t38
  (callS P F_milestoneref29_Disk_Rename [d0, (.string ⟨#[116, 101, 109, 112]⟩), (.string ⟨#[105, 109, 97, 103, 101]⟩)] h_6 fun t40 h_7 =>
  sh_milestoneref30_Save_k4 P d0 K t40 h_7)
  (sh_milestoneref30_Save_k4 P d0 K e5_1 h_6)

def sh_milestoneref30_Save_k2 (P : Program) (e5 d0 : Value) (K : Value → Heap → Prop) (h_4 : Heap) : Prop :=
  pBin .eql e5 (.int .i64 0) fun t34 =>
  ifV t34
  (callS P F_milestoneref29_Disk_Sync [d0, (.string ⟨#[116, 101, 109, 112]⟩)] h_4 fun t36 h_5 =>
  sh_milestoneref30_Save_k3 P d0 K t36 h_5)
  (sh_milestoneref30_Save_k3 P d0 K e5 h_4)

def sh_milestoneref30_Save_L1 (P : Program) (s1 d0 : Value) (K : Value → Heap → Prop) (e5 at6 : Value) (h_2 : Heap) (Z : Value → Value → Heap → Prop) : Prop :=
  pLenS s1 fun t14 =>
  pBin .lss at6 t14 fun t15 =>
  ifV t15
  (pBin .eql e5 (.int .i64 0) fun t18 =>
  ifV t18
  (pBin .add at6 (.int .i64 64) fun t27 =>
  pLenS s1 fun t29 =>
  pMin t27 t29 fun t30 =>
  pSliceS s1 (some at6) (some t30) fun t31 =>
  callS P F_milestoneref29_Disk_Write [d0, (.string ⟨#[116, 101, 109, 112]⟩), at6, t31] h_2 fun t32 h_3 =>
  pBin .add at6 (.int .i64 64) fun t21 =>
  Z t32 t21 h_3)
  (sh_milestoneref30_Save_k2 P e5 d0 K h_2))
  (sh_milestoneref30_Save_k2 P e5 d0 K h_2)

def sh_milestoneref30_Save (P : Program) (d0 s1 : Value) (h : Heap) (K : Value → Heap → Prop) : Prop :=
  pLenS s1 fun t8 =>
  pBin .gtr t8 (.int .i64 1048576) fun t9 =>
  ifV t9
  (K (.int .i64 2) h)
  (callS P F_milestoneref29_Disk_Make [d0, (.string ⟨#[116, 101, 109, 112]⟩)] h fun t11 h_1 =>
  LoopH (σ := Vals [5, 6]) (fun x hh ZZ => sh_milestoneref30_Save_L1 P s1 d0 K x.1 x.2.1 hh (fun a0 a1 hz => ZZ (a0, (a1, ())) hz)) (t11, ((.int .i64 0), ())) h_1)

set_option maxRecDepth 100000 in
theorem lk_milestoneref30_Save (d0 s1 : Value) {h : Heap} {K : Value → Heap → Prop} (H : sh_milestoneref30_Save Tryz.prog d0 s1 h K) : CallsH Tryz.prog F_milestoneref30_Save [d0, s1].toArray h K :=
  callsH_of (ann := (annG (Tryz.f9.body.getD .skip) 0 [(7, [5, 6])]).1) (c := Tryz.f9.body.getD .skip) Tryz.func9 (by kernel_rfl) (by kernel_rfl) (by kernel_rfl) (of_decide_eq_true (by kernel_rfl))
    (Eq.mpr (by kernel_rfl) H)

/-! (*milestone/disk.Disk).Arm -/

def sh_disk_Disk_Arm (P : Program) (d0 n1 : Value) (h : Heap) (K : Value → Heap → Prop) : Prop :=
  pEq true .ptr d0 (.pointer none) fun t5 =>
  ifV t5
  (pMax (.int .i64 0) n1 fun t8 =>
  pNil d0 fun t9 =>
  pField 5 t9 fun t10 =>
  pStore 1 t10 t8 h fun u h_1 =>
  K (.tuple #[]) h_1)
  (K (.tuple #[]) h)

set_option maxRecDepth 100000 in
theorem lk_disk_Disk_Arm (d0 n1 : Value) {h : Heap} {K : Value → Heap → Prop} (H : sh_disk_Disk_Arm Tryz.prog d0 n1 h K) : CallsH Tryz.prog F_disk_Disk_Arm [d0, n1].toArray h K :=
  callsH_of (ann := (annG (Tryz.f10.body.getD .skip) 0 []).1) (c := Tryz.f10.body.getD .skip) Tryz.func10 (by kernel_rfl) (by kernel_rfl) (by kernel_rfl) (of_decide_eq_true (by kernel_rfl))
    (Eq.mpr (by kernel_rfl) H)

/-! (*milestone/milestoneref29.Disk).Arm -/

def sh_milestoneref29_Disk_Arm (P : Program) (d0 n1 : Value) (h : Heap) (K : Value → Heap → Prop) : Prop :=
  pMax (.int .i64 0) n1 fun t6 =>
  pNil d0 fun t7 =>
  pField 3 t7 fun t8 =>
  pStore 1 t8 t6 h fun u h_1 =>
  K (.tuple #[]) h_1

set_option maxRecDepth 100000 in
theorem lk_milestoneref29_Disk_Arm (d0 n1 : Value) {h : Heap} {K : Value → Heap → Prop} (H : sh_milestoneref29_Disk_Arm Tryz.prog d0 n1 h K) : CallsH Tryz.prog F_milestoneref29_Disk_Arm [d0, n1].toArray h K :=
  callsH_of (ann := (annG (Tryz.f11.body.getD .skip) 0 []).1) (c := Tryz.f11.body.getD .skip) Tryz.func11 (by kernel_rfl) (by kernel_rfl) (by kernel_rfl) (of_decide_eq_true (by kernel_rfl))
    (Eq.mpr (by kernel_rfl) H)

/-! (*milestone/disk.Disk).Crash -/

def sh_disk_Disk_Crash_k4 (P : Program) (t65 : Value) (Z_1 : Value → Heap → Prop) (h_24 : Heap) : Prop :=
  pBin .add t65 (.int .i64 1) fun t82 =>
  Z_1 t82 h_24

def sh_disk_Disk_Crash_L3 (P : Program) (t64 t63 next4 t59 kept8 t58 : Value) (R : Exit → Heap → Prop) (t65 : Value) (h_18 : Heap) (Z_1 : Value → Heap → Prop) : Prop :=
  pBin .lss t65 t64 fun t66 =>
  ifV t66
  (pIdx 2 t63 t65 fun t67 =>
  pLoadN 2 h_18 t67 fun t68 =>
  pBox T_disk_write (.agg #[(.int .i64 0), (.string ⟨#[]⟩)]) h_18 fun w12 h_19 =>
  pStore 2 w12 t68 h_19 fun u_5 h_20 =>
  pLoad h_20 next4 fun t69 =>
  callV P t69 [].toArray h_20 fun t70 h_21 =>
  pBin .rem t70 (.int .i64 2) fun t71 =>
  pBin .eql t71 (.int .i64 1) fun t72 =>
  ifV t72
  (pNil t59 fun t75 =>
  pField 0 t75 fun t76 =>
  pLoad h_21 t76 fun t77 =>
  pLoadN 2 h_21 w12 fun t78 =>
  callS P F_disk_put [t77, t78] h_21 fun t79 h_22 =>
  pNil t59 fun t80 =>
  pField 0 t80 fun t81 =>
  pStore 1 t81 t79 h_22 fun u_6 h_23 =>
  sh_disk_Disk_Crash_k4 P t65 Z_1 h_23)
  (sh_disk_Disk_Crash_k4 P t65 Z_1 h_21))
  (pNil t59 fun t84 =>
  pField 1 t84 fun t85 =>
  pStore 1 t85 (.slice none 0 0) h_18 fun u_7 h_25 =>
  pLoad h_25 kept8 fun t86 =>
  pMapSet (.int .i64) t86 t58 t59 h_25 fun u_8 h_26 =>
  R .normal h_26)

def sh_disk_Disk_Crash_B2 (P : Program) (h_15 : Heap) (next4 kept8 : Value) (L : Loop) (t58 t59 : Value) (h_16 : Heap) (R : Exit → Heap → Prop) : Prop :=
  beginR (h_15.size + 1) L h_16 fun h_17 =>
  pNil t59 fun t61 =>
  pField 1 t61 fun t62 =>
  pLoad h_17 t62 fun t63 =>
  pLen t63 fun t64 =>
  LoopH (σ := Vals [65]) (fun x hh ZZ => sh_disk_Disk_Crash_L3 P t64 t63 next4 t59 kept8 t58 R x.1 hh (fun a0 hz => ZZ (a0, ()) hz)) ((.int .i64 0), ()) h_17

def sh_disk_Disk_Crash_L1 (P : Program) (t31 t30 d0 next4 : Value) (K : Value → Heap → Prop) (t32 : Value) (h_5 : Heap) (Z : Value → Heap → Prop) : Prop :=
  pBin .lss t32 t31 fun t33 =>
  ifV t33
  (pIdx 1 t30 t32 fun t34 =>
  pLoadN 1 h_5 t34 fun t35 =>
  pBox T_disk_change (.agg #[.nilFunc]) h_5 fun c7 h_6 =>
  pStore 1 c7 t35 h_6 fun u_1 h_7 =>
  pField 0 c7 fun t36 =>
  pLoad h_7 t36 fun t37 =>
  pNil d0 fun t39 =>
  pField 0 t39 fun t40 =>
  pLoad h_7 t40 fun t41 =>
  callV P t37 [t41].toArray h_7 fun t42 h_8 =>
  pBin .add t32 (.int .i64 1) fun t43 =>
  Z t43 h_8)
  (pNil d0 fun t47 =>
  pField 0 t47 fun t48 =>
  pLoad h_5 t48 fun t49 =>
  callS P F_maps_Clone_disk_directory_string_int [t49] h_5 fun t50 h_9 =>
  pNil d0 fun t51 =>
  pField 1 t51 fun t52 =>
  pStore 1 t52 t50 h_9 fun u_2 h_10 =>
  pNil d0 fun t53 =>
  pField 3 t53 fun t54 =>
  pStore 1 t54 (.slice none 0 0) h_10 fun u_3 h_11 =>
  pMakeMap h_11 fun t55 h_12 =>
  pBox T_map_int_p_disk_thing (.map none) h_12 fun kept8 h_13 =>
  pStore 1 kept8 t55 h_13 fun u_4 h_14 =>
  callS P F_disk_Disk_named [d0] h_14 fun t57 h_15 =>
  rangeH P t57 [58, 59] (h_15.size + 1) (h_15.push (.deferred (some []))) (fun L x hh R => sh_disk_Disk_Crash_B2 P h_15 next4 kept8 L x.1 x.2.1 hh R)
  (fun h_27 => pLoad h_27 kept8 fun t92 =>
  pNil d0 fun t93 =>
  pField 2 t93 fun t94 =>
  pStore 1 t94 t92 h_27 fun u_9 h_28 =>
  pNil d0 fun t95 =>
  pField 6 t95 fun t96 =>
  pStore 1 t96 (.bool false) h_28 fun u_10 h_29 =>
  pNil d0 fun t97 =>
  pField 5 t97 fun t98 =>
  pStore 1 t98 (.int .i64 0) h_29 fun u_11 h_30 =>
  takeM (h_15.size :: []) h_30 fun h_31 =>
  K (.tuple #[]) h_31)
  (fun h_32 => takeM (h_15.size :: []) h_32 fun h_33 =>
  K (.tuple #[]) h_33)
  [])

def sh_disk_Disk_Crash (P : Program) (d0 fates1 : Value) (h : Heap) (K : Value → Heap → Prop) : Prop :=
  pBox T_sl_uint8 fates1 h fun fates3 h_1 =>
  pEq false .ptr d0 (.pointer none) fun t14 =>
  ifV t14
  (K (.tuple #[]) h_1)
  (pBox T_func_int_v2 .nilFunc h_1 fun next4 h_2 =>
  pStore 1 next4 (.func (.func F_disk_Disk_Crash_1) #[] #[fates3]) h_2 fun u h_3 =>
  pLoad h_3 next4 fun t16 =>
  pNil d0 fun t19 =>
  pField 3 t19 fun t20 =>
  pLoad h_3 t20 fun t21 =>
  pLen t21 fun t22 =>
  pBin .add t22 (.int .i64 1) fun t23 =>
  callV P t16 [].toArray h_3 fun t17 h_4 =>
  (pLoad h_4 t20 fun t21_1 =>
  t21_1 = t21) ∧
  (pBin .rem t17 t23 fun t24 =>
  pNil d0 fun t26 =>
  pField 3 t26 fun t27 =>
  pLoad h_4 t27 fun t28 =>
  pSlice 1 t28 none (some t24) none fun t30 =>
  pLen t30 fun t31 =>
  LoopH (σ := Vals [32]) (fun x hh ZZ => sh_disk_Disk_Crash_L1 P t31 t30 d0 next4 K x.1 hh (fun a0 hz => ZZ (a0, ()) hz)) ((.int .i64 0), ()) h_4))

set_option maxRecDepth 100000 in
theorem lk_disk_Disk_Crash (d0 fates1 : Value) {h : Heap} {K : Value → Heap → Prop} (H : sh_disk_Disk_Crash Tryz.prog d0 fates1 h K) : CallsH Tryz.prog F_disk_Disk_Crash [d0, fates1].toArray h K :=
  callsH_of (ann := (annG (Tryz.f12.body.getD .skip) 0 [(7, [32]), (19, [65])]).1) (c := Tryz.f12.body.getD .skip) Tryz.func12 (by kernel_rfl) (by kernel_rfl) (by kernel_rfl) (of_decide_eq_true (by kernel_rfl))
    (Eq.mpr (by kernel_rfl) H)

/-! (*milestone/milestoneref29.Disk).Crash -/

def sh_milestoneref29_Disk_Crash_k4 (P : Program) (n9 : Value) (Z_1 : Value → Value → Heap → Prop) (at4_1 : Value) (h_13 : Heap) : Prop :=
  pBin .add n9 (.int .i64 1) fun t80 =>
  Z_1 at4_1 t80 h_13

def sh_milestoneref29_Disk_Crash_k7 (P : Program) (i11 : Value) (Z_2 : Value → Value → Value → Heap → Prop) (at4_3 l10_1 : Value) (h_18 : Heap) : Prop :=
  pBin .add i11 (.int .i64 1) fun t97 =>
  Z_2 at4_3 l10_1 t97 h_18

def sh_milestoneref29_Disk_Crash_k8 (P : Program) (w12 l10 i11 : Value) (Z_2 : Value → Value → Value → Heap → Prop) (at4_4 : Value) (h_19 : Heap) : Prop :=
  pField 2 w12 fun t128 =>
  pStore 1 t128 (.bool true) h_19 fun u_4 h_20 =>
  pLoadN 3 h_20 w12 fun t130 =>
  pBuildSlice T_milestoneref29_Write (zerosL [(.int .i64 0), (.string ⟨#[]⟩), (.bool false)] 1) [(0, 3, t130)] 1 h_20 fun t131 h_21 =>
  pAppend T_milestoneref29_Write 3 32 [(.int .i64 0), (.string ⟨#[]⟩), (.bool false)] l10 t131 h_21 fun t132 h_22 =>
  sh_milestoneref29_Disk_Crash_k7 P i11 Z_2 at4_4 t132 h_22

def sh_milestoneref29_Disk_Crash_k6 (P : Program) (at4_2 i11 : Value) (Z_2 : Value → Value → Value → Heap → Prop) (l10 w12 odd13 : Value) (h_17 : Heap) : Prop :=
  pBin .add at4_2 (.int .i64 1) fun t125 =>
  pUn .not odd13 fun t127 =>
  ifV t127
  (sh_milestoneref29_Disk_Crash_k7 P i11 Z_2 t125 l10 h_17)
  (sh_milestoneref29_Disk_Crash_k8 P w12 l10 i11 Z_2 t125 h_17)

def sh_milestoneref29_Disk_Crash_L5 (P : Program) (d0 n9 fates1 : Value) (Z_1 : Value → Value → Heap → Prop) (at4_2 l10 i11 : Value) (h_14 : Heap) (Z_2 : Value → Value → Value → Heap → Prop) : Prop :=
  pNil d0 fun t87 =>
  pField 0 t87 fun t88 =>
  pLoad h_14 t88 fun t89 =>
  pIdx 1 t89 n9 fun t91 =>
  pField 0 t91 fun t92 =>
  pLoad h_14 t92 fun t93 =>
  pLen t93 fun t94 =>
  pBin .lss i11 t94 fun t95 =>
  ifV t95
  (pNil d0 fun t99 =>
  pField 0 t99 fun t100 =>
  pLoad h_14 t100 fun t101 =>
  pIdx 1 t101 n9 fun t103 =>
  pField 0 t103 fun t104 =>
  pLoad h_14 t104 fun t105 =>
  pIdx 3 t105 i11 fun t107 =>
  pLoadN 3 h_14 t107 fun t108 =>
  pBox T_milestoneref29_Write (.agg #[(.int .i64 0), (.string ⟨#[]⟩), (.bool false)]) h_14 fun w12 h_15 =>
  pStore 3 w12 t108 h_15 fun u_3 h_16 =>
  pField 2 w12 fun t109 =>
  pLoad h_16 t109 fun t110 =>
  pUn .not t110 fun t111 =>
  ifV t111
  (pLen fates1 fun t114 =>
  pBin .lss at4_2 t114 fun t115 =>
  ifV t115
  (pIdx 1 fates1 at4_2 fun t119 =>
  pLoad h_16 t119 fun t120 =>
  pBin .rem t120 (.int .u8 2) fun t121 =>
  pBin .eql t121 (.int .u8 1) fun t122 =>
  sh_milestoneref29_Disk_Crash_k6 P at4_2 i11 Z_2 l10 w12 t122 h_16)
  (sh_milestoneref29_Disk_Crash_k6 P at4_2 i11 Z_2 l10 w12 (.bool false) h_16))
  (sh_milestoneref29_Disk_Crash_k8 P w12 l10 i11 Z_2 at4_2 h_16))
  (pNil d0 fun t134 =>
  pField 0 t134 fun t135 =>
  pLoad h_14 t135 fun t136 =>
  pBuild [(.slice none 0 0)] [(0, 1, l10)] fun t139 =>
  pIdx 1 t136 n9 fun t140 =>
  pStore 1 t140 t139 h_14 fun u_5 h_23 =>
  sh_milestoneref29_Disk_Crash_k4 P n9 Z_1 at4_2 h_23)

def sh_milestoneref29_Disk_Crash_L3 (P : Program) (d0 fates1 : Value) (K : Value → Heap → Prop) (at4 n9 : Value) (h_11 : Heap) (Z_1 : Value → Value → Heap → Prop) : Prop :=
  pNil d0 fun t74 =>
  pField 0 t74 fun t75 =>
  pLoad h_11 t75 fun t76 =>
  pLen t76 fun t77 =>
  pBin .lss n9 t77 fun t78 =>
  ifV t78
  (callS P F_milestoneref29_Disk_points [d0, n9] h_11 fun t83 h_12 =>
  pUn .not t83 fun t84 =>
  ifV t84
  (sh_milestoneref29_Disk_Crash_k4 P n9 Z_1 at4 h_12)
  (LoopH (σ := Vals [4, 10, 11]) (fun x hh ZZ => sh_milestoneref29_Disk_Crash_L5 P d0 n9 fates1 Z_1 x.1 x.2.1 x.2.2.1 hh (fun a0 a1 a2 hz => ZZ (a0, (a1, (a2, ()))) hz)) (at4, ((.slice none 0 0), ((.int .i64 0), ()))) h_12))
  (pNil d0 fun t143 =>
  pField 2 t143 fun t144 =>
  pStore 1 t144 (.bool false) h_11 fun u_6 h_24 =>
  pNil d0 fun t145 =>
  pField 3 t145 fun t146 =>
  pStore 1 t146 (.int .i64 0) h_24 fun u_7 h_25 =>
  K (.tuple #[]) h_25)

def sh_milestoneref29_Disk_Crash_L2 (P : Program) (stay7 d0 fates1 : Value) (K : Value → Heap → Prop) (t39 i8 : Value) (h_6 : Heap) (Z : Value → Heap → Prop) : Prop :=
  pBin .lss i8 stay7 fun t53 =>
  ifV t53
  (pNil d0 fun t57 =>
  pField 1 t57 fun t58 =>
  pLoad h_6 t58 fun t59 =>
  pIdx 5 t59 i8 fun t61 =>
  pField 4 t61 fun t62 =>
  pStore 1 t62 (.bool true) h_6 fun u_1 h_7 =>
  pBin .add i8 (.int .i64 1) fun t55 =>
  Z t55 h_7)
  (pBuildSlice T_milestoneref29_Thing (zerosL [(.slice none 0 0)] 0) [] 0 h_6 fun t64 h_8 =>
  pNil d0 fun t66 =>
  pField 0 t66 fun t67 =>
  pLoad h_8 t67 fun t68 =>
  pAppend T_milestoneref29_Thing 1 24 [(.slice none 0 0)] t64 t68 h_8 fun t69 h_9 =>
  pNil d0 fun t70 =>
  pField 0 t70 fun t71 =>
  pStore 1 t71 t69 h_9 fun u_2 h_10 =>
  LoopH (σ := Vals [4, 9]) (fun x hh ZZ => sh_milestoneref29_Disk_Crash_L3 P d0 fates1 K x.1 x.2.1 hh (fun a0 a1 hz => ZZ (a0, (a1, ())) hz)) (t39, ((.int .i64 0), ())) h_10)

def sh_milestoneref29_Disk_Crash_k1 (P : Program) (d0 fates1 : Value) (K : Value → Heap → Prop) (stay7 : Value) (h_2 : Heap) : Prop :=
  pBin .add (.int .i64 0) (.int .i64 1) fun t39 =>
  pBuildSlice T_milestoneref29_Change (zerosL [(.int .i64 0), (.int .i64 0), (.string ⟨#[]⟩), (.string ⟨#[]⟩), (.bool false)] 0) [] 0 h_2 fun t41 h_3 =>
  pNil d0 fun t43 =>
  pField 1 t43 fun t44 =>
  pLoad h_3 t44 fun t45 =>
  pSlice 5 t45 none (some stay7) none fun t47 =>
  pAppend T_milestoneref29_Change 5 56 [(.int .i64 0), (.int .i64 0), (.string ⟨#[]⟩), (.string ⟨#[]⟩), (.bool false)] t41 t47 h_3 fun t48 h_4 =>
  pNil d0 fun t49 =>
  pField 1 t49 fun t50 =>
  pStore 1 t50 t48 h_4 fun u h_5 =>
  LoopH (σ := Vals [8]) (fun x hh ZZ => sh_milestoneref29_Disk_Crash_L2 P stay7 d0 fates1 K t39 x.1 hh (fun a0 hz => ZZ (a0, ()) hz)) ((.int .i64 0), ()) h_5

def sh_milestoneref29_Disk_Crash (P : Program) (d0 fates1 : Value) (h : Heap) (K : Value → Heap → Prop) : Prop :=
  callS P F_milestoneref29_Disk_Pending [d0] h fun t16 h_1 =>
  pExt t16 0 fun t17 =>
  pExt t16 1 fun t18 =>
  pNil d0 fun t20 =>
  pField 1 t20 fun t21 =>
  pLoad h_1 t21 fun t22 =>
  pLen t22 fun t23 =>
  pBin .sub t23 t17 fun t25 =>
  pLen fates1 fun t27 =>
  pBin .gtr t27 (.int .i64 0) fun t28 =>
  ifV t28
  (pIdx 1 fates1 (.int .i64 0) fun t31 =>
  pLoad h_1 t31 fun t32 =>
  pConv .i64 t32 fun t33 =>
  pBin .add t17 (.int .i64 1) fun t35 =>
  pBin .rem t33 t35 fun t36 =>
  pBin .add t25 t36 fun t37 =>
  sh_milestoneref29_Disk_Crash_k1 P d0 fates1 K t37 h_1)
  (sh_milestoneref29_Disk_Crash_k1 P d0 fates1 K t25 h_1)

set_option maxRecDepth 100000 in
theorem lk_milestoneref29_Disk_Crash (d0 fates1 : Value) {h : Heap} {K : Value → Heap → Prop} (H : sh_milestoneref29_Disk_Crash Tryz.prog d0 fates1 h K) : CallsH Tryz.prog F_milestoneref29_Disk_Crash [d0, fates1].toArray h K :=
  callsH_of (ann := (annG (Tryz.f13.body.getD .skip) 0 [(9, [8]), (16, [4, 9]), (25, [4, 10, 11])]).1) (c := Tryz.f13.body.getD .skip) Tryz.func13 (by kernel_rfl) (by kernel_rfl) (by kernel_rfl) (of_decide_eq_true (by kernel_rfl))
    (Eq.mpr (by kernel_rfl) H)

/-! milestone/store.Load -/

def sh_store_Load (P : Program) (d0 : Value) (h : Heap) (K : Value → Heap → Prop) : Prop :=
  callS P F_disk_Disk_Read [d0, (.string ⟨#[105, 109, 97, 103, 101]⟩)] h fun t5 h_1 =>
  pExt t5 0 fun t6 =>
  pExt t5 1 fun t7 =>
  K (.tuple #[t6, t7]) h_1

set_option maxRecDepth 100000 in
theorem lk_store_Load (d0 : Value) {h : Heap} {K : Value → Heap → Prop} (H : sh_store_Load Tryz.prog d0 h K) : CallsH Tryz.prog F_store_Load [d0].toArray h K :=
  callsH_of (ann := (annG (Tryz.f14.body.getD .skip) 0 []).1) (c := Tryz.f14.body.getD .skip) Tryz.func14 (by kernel_rfl) (by kernel_rfl) (by kernel_rfl) (of_decide_eq_true (by kernel_rfl))
    (Eq.mpr (by kernel_rfl) H)

/-! (*milestone/milestoneref29.Disk).Read -/

def sh_milestoneref29_Disk_Read (P : Program) (d0 name1 : Value) (h : Heap) (K : Value → Heap → Prop) : Prop :=
  pBuildSlice T_string (zerosL [(.string ⟨#[]⟩)] 1) [(0, 1, name1)] 1 h fun t9 h_1 =>
  callS P F_milestoneref29_Disk_refused [d0, (.bool true), t9] h_1 fun t10 h_2 =>
  pBin .neq t10 (.int .i64 0) fun t12 =>
  ifV t12
  (K (.tuple #[(.string ⟨#[]⟩), t10]) h_2)
  (pNil d0 fun t15 =>
  pField 0 t15 fun t16 =>
  pLoad h_2 t16 fun t17 =>
  pNil d0 fun t19 =>
  pField 1 t19 fun t20 =>
  pLoad h_2 t20 fun t21 =>
  callS P F_milestoneref29_Points [t21, name1] h_2 fun t23 h_3 =>
  (pLoad h_3 t16 fun t17_1 =>
  t17_1 = t17) ∧
  (pIdx 1 t17 t23 fun t24 =>
  pLoadN 1 h_3 t24 fun t25 =>
  callS P F_milestoneref29_Thing_Bytes [t25] h_3 fun t26 h_4 =>
  K (.tuple #[t26, (.int .i64 0)]) h_4))

set_option maxRecDepth 100000 in
theorem lk_milestoneref29_Disk_Read (d0 name1 : Value) {h : Heap} {K : Value → Heap → Prop} (H : sh_milestoneref29_Disk_Read Tryz.prog d0 name1 h K) : CallsH Tryz.prog F_milestoneref29_Disk_Read [d0, name1].toArray h K :=
  callsH_of (ann := (annG (Tryz.f15.body.getD .skip) 0 []).1) (c := Tryz.f15.body.getD .skip) Tryz.func15 (by kernel_rfl) (by kernel_rfl) (by kernel_rfl) (of_decide_eq_true (by kernel_rfl))
    (Eq.mpr (by kernel_rfl) H)

end Go.Proofs.YtleaknaadodjeaaGreat

namespace Go.Proofs.YtleaknaadodjeaaGreat
open Go Go.Mh
set_option maxHeartbeats 0
set_option linter.unusedVariables false

/-! (*milestone/disk.Disk).On -/

def sh_disk_Disk_On (P : Program) (d0 : Value) (h : Heap) (K : Value → Heap → Prop) : Prop :=
  pEq true .ptr d0 (.pointer none) fun t4 =>
  ifV t4
  (pNil d0 fun t7 =>
  pField 6 t7 fun t8 =>
  pLoad h t8 fun t9 =>
  pUn .not t9 fun t10 =>
  K t10 h)
  (K (.bool false) h)

set_option maxRecDepth 100000 in
theorem lk_disk_Disk_On (d0 : Value) {h : Heap} {K : Value → Heap → Prop} (H : sh_disk_Disk_On Tryz.prog d0 h K) : CallsH Tryz.prog F_disk_Disk_On [d0].toArray h K :=
  callsH_of (ann := (annG (Tryz.f16.body.getD .skip) 0 []).1) (c := Tryz.f16.body.getD .skip) Tryz.func16 (by kernel_rfl) (by kernel_rfl) (by kernel_rfl) (of_decide_eq_true (by kernel_rfl))
    (Eq.mpr (by kernel_rfl) H)

/-! (*milestone/disk.Disk).Names -/

def sh_disk_Disk_Names (P : Program) (d0 : Value) (h : Heap) (K : Value → Heap → Prop) : Prop :=
  callS P F_disk_Disk_On [d0] h fun t4 h_1 =>
  pUn .not t4 fun t5 =>
  ifV t5
  (K (.slice none 0 0) h_1)
  (pNil d0 fun t7 =>
  pField 1 t7 fun t8 =>
  pLoad h_1 t8 fun t9 =>
  callS P F_disk_directory_rising [t9] h_1 fun t10 h_2 =>
  callS P F_slices_Collect_string [t10] h_2 fun t11 h_3 =>
  K t11 h_3)

set_option maxRecDepth 100000 in
theorem lk_disk_Disk_Names (d0 : Value) {h : Heap} {K : Value → Heap → Prop} (H : sh_disk_Disk_Names Tryz.prog d0 h K) : CallsH Tryz.prog F_disk_Disk_Names [d0].toArray h K :=
  callsH_of (ann := (annG (Tryz.f17.body.getD .skip) 0 []).1) (c := Tryz.f17.body.getD .skip) Tryz.func17 (by kernel_rfl) (by kernel_rfl) (by kernel_rfl) (of_decide_eq_true (by kernel_rfl))
    (Eq.mpr (by kernel_rfl) H)

/-! (*milestone/milestoneref29.Disk).Names -/

def sh_milestoneref29_Disk_Names_k3 (P : Program) (t41 : Value) (Z_1 : Value → Value → Heap → Prop) (out3_2 : Value) (h_4 : Heap) : Prop :=
  pBin .add t41 (.int .i64 1) fun t89 =>
  Z_1 out3_2 t89 h_4

def sh_milestoneref29_Disk_Names_k6 (P : Program) (out3_1 k7 t43 t41 : Value) (Z_1 : Value → Value → Heap → Prop) (h_7 : Heap) : Prop :=
  pSlice 1 out3_1 none (some k7) none fun t80 =>
  pSlice 1 out3_1 (some k7) none none fun t87 =>
  (pBuildSlice T_string (zerosL [(.string ⟨#[]⟩)] 0) [] 0 h_7 fun t77 h_8 =>
  (pAppend T_string 1 16 [(.string ⟨#[]⟩)] t77 t80 h_8 fun t81 h_9 =>
  pBuildSlice T_string (zerosL [(.string ⟨#[]⟩)] 1) [(0, 1, t43)] 1 h_9 fun t83 h_10 =>
  pAppend T_string 1 16 [(.string ⟨#[]⟩)] t81 t83 h_10 fun t84 h_11 =>
  pAppend T_string 1 16 [(.string ⟨#[]⟩)] t84 t87 h_11 fun t88 h_12 =>
  sh_milestoneref29_Disk_Names_k3 P t41 Z_1 t88 h_12) ∧
  (pBuildSlice T_string (zerosL [(.string ⟨#[]⟩)] 1) [(0, 1, t43)] 1 h_8 fun t83_1 h_13 =>
  pAppend T_string 1 16 [(.string ⟨#[]⟩)] t77 t80 h_13 fun t81_1 h_14 =>
  pAppend T_string 1 16 [(.string ⟨#[]⟩)] t81_1 t83_1 h_14 fun t84_1 h_15 =>
  pAppend T_string 1 16 [(.string ⟨#[]⟩)] t84_1 t87 h_15 fun t88_1 h_16 =>
  sh_milestoneref29_Disk_Names_k3 P t41 Z_1 t88_1 h_16)) ∧
  (pBuildSlice T_string (zerosL [(.string ⟨#[]⟩)] 1) [(0, 1, t43)] 1 h_7 fun t83_2 h_17 =>
  pBuildSlice T_string (zerosL [(.string ⟨#[]⟩)] 0) [] 0 h_17 fun t77_1 h_18 =>
  pAppend T_string 1 16 [(.string ⟨#[]⟩)] t77_1 t80 h_18 fun t81_2 h_19 =>
  pAppend T_string 1 16 [(.string ⟨#[]⟩)] t81_2 t83_2 h_19 fun t84_2 h_20 =>
  pAppend T_string 1 16 [(.string ⟨#[]⟩)] t84_2 t87 h_20 fun t88_2 h_21 =>
  sh_milestoneref29_Disk_Names_k3 P t41 Z_1 t88_2 h_21)

def sh_milestoneref29_Disk_Names_k5 (P : Program) (out3_1 k7 t43 t41 : Value) (Z_1 : Value → Value → Heap → Prop) (h_6 : Heap) : Prop :=
  pLen out3_1 fun t67 =>
  pBin .eql k7 t67 fun t68 =>
  ifV t68
  (sh_milestoneref29_Disk_Names_k6 P out3_1 k7 t43 t41 Z_1 h_6)
  (pIdx 1 out3_1 k7 fun t72 =>
  pLoad h_6 t72 fun t73 =>
  pBin .neq t73 t43 fun t75 =>
  ifV t75
  (sh_milestoneref29_Disk_Names_k6 P out3_1 k7 t43 t41 Z_1 h_6)
  (sh_milestoneref29_Disk_Names_k3 P t41 Z_1 out3_1 h_6))

def sh_milestoneref29_Disk_Names_L4 (P : Program) (out3_1 t43 t41 : Value) (Z_1 : Value → Value → Heap → Prop) (k7 : Value) (h_5 : Heap) (Z_2 : Value → Heap → Prop) : Prop :=
  pLen out3_1 fun t53 =>
  pBin .lss k7 t53 fun t54 =>
  ifV t54
  (pIdx 1 out3_1 k7 fun t58 =>
  pLoad h_5 t58 fun t59 =>
  pBin .lss t59 t43 fun t61 =>
  ifV t61
  (pBin .add k7 (.int .i64 1) fun t64 =>
  Z_2 t64 h_5)
  (sh_milestoneref29_Disk_Names_k5 P out3_1 k7 t43 t41 Z_1 h_5))
  (sh_milestoneref29_Disk_Names_k5 P out3_1 k7 t43 t41 Z_1 h_5)

def sh_milestoneref29_Disk_Names_L2 (P : Program) (t40 d0 i4 : Value) (Z : Value → Value → Heap → Prop) (out3_1 t41 : Value) (h_2 : Heap) (Z_1 : Value → Value → Heap → Prop) : Prop :=
  pBin .lss t41 (.int .i64 2) fun t42 =>
  ifV t42
  (pIdxV1 2 t40 t41 fun t43 =>
  pNil d0 fun t45 =>
  pField 1 t45 fun t46 =>
  pLoad h_2 t46 fun t47 =>
  callS P F_milestoneref29_Points [t47, t43] h_2 fun t49 h_3 =>
  pBin .lss t49 (.int .i64 0) fun t50 =>
  ifV t50
  (sh_milestoneref29_Disk_Names_k3 P t41 Z_1 out3_1 h_3)
  (LoopH (σ := Vals [7]) (fun x hh ZZ => sh_milestoneref29_Disk_Names_L4 P out3_1 t43 t41 Z_1 x.1 hh (fun a0 hz => ZZ (a0, ()) hz)) ((.int .i64 0), ()) h_3))
  (pBin .add i4 (.int .i64 1) fun t23 =>
  Z out3_1 t23 h_2)

def sh_milestoneref29_Disk_Names_k7 (P : Program) (K : Value → Heap → Prop) (out3 : Value) (h_22 : Heap) : Prop :=
  K out3 h_22

def sh_milestoneref29_Disk_Names_L1 (P : Program) (d0 : Value) (K : Value → Heap → Prop) (out3 i4 : Value) (h_1 : Heap) (Z : Value → Value → Heap → Prop) : Prop :=
  pNil d0 fun t10 =>
  pField 1 t10 fun t11 =>
  pLoad h_1 t11 fun t12 =>
  pLen t12 fun t13 =>
  pBin .lss i4 t13 fun t14 =>
  ifV t14
  (pNil d0 fun t17 =>
  pField 2 t17 fun t18 =>
  pLoad h_1 t18 fun t19 =>
  pUn .not t19 fun t20 =>
  ifV t20
  (pNil d0 fun t25 =>
  pField 1 t25 fun t26 =>
  pLoad h_1 t26 fun t27 =>
  pIdx 5 t27 i4 fun t29 =>
  pField 2 t29 fun t30 =>
  pLoad h_1 t30 fun t31 =>
  pNil d0 fun t33 =>
  pField 1 t33 fun t34 =>
  pLoad h_1 t34 fun t35 =>
  pIdx 5 t35 i4 fun t37 =>
  pField 3 t37 fun t38 =>
  pLoad h_1 t38 fun t39 =>
  pBuild [(.string ⟨#[]⟩), (.string ⟨#[]⟩)] [(0, 1, t31), (1, 1, t39)] fun t40 =>
  LoopH (σ := Vals [3, 41]) (fun x hh ZZ => sh_milestoneref29_Disk_Names_L2 P t40 d0 i4 Z x.1 x.2.1 hh (fun a0 a1 hz => ZZ (a0, (a1, ())) hz)) (out3, ((.int .i64 0), ())) h_1)
  (sh_milestoneref29_Disk_Names_k7 P K out3 h_1))
  (sh_milestoneref29_Disk_Names_k7 P K out3 h_1)

def sh_milestoneref29_Disk_Names (P : Program) (d0 : Value) (h : Heap) (K : Value → Heap → Prop) : Prop :=
  LoopH (σ := Vals [3, 4]) (fun x hh ZZ => sh_milestoneref29_Disk_Names_L1 P d0 K x.1 x.2.1 hh (fun a0 a1 hz => ZZ (a0, (a1, ())) hz)) ((.slice none 0 0), ((.int .i64 0), ())) h

set_option maxRecDepth 100000 in
theorem lk_milestoneref29_Disk_Names (d0 : Value) {h : Heap} {K : Value → Heap → Prop} (H : sh_milestoneref29_Disk_Names Tryz.prog d0 h K) : CallsH Tryz.prog F_milestoneref29_Disk_Names [d0].toArray h K :=
  callsH_of (ann := (annG (Tryz.f18.body.getD .skip) 0 [(4, [3, 4]), (9, [3, 41]), (18, [7])]).1) (c := Tryz.f18.body.getD .skip) Tryz.func18 (by kernel_rfl) (by kernel_rfl) (by kernel_rfl) (of_decide_eq_true (by kernel_rfl))
    (Eq.mpr (by kernel_rfl) H)

/-! milestone/milestonelaw30.works -/

def sh_milestonelaw30_works_k1 (P : Program) (t6 : Value) (K : Value → Heap → Prop) (one3 : Value) (h_9 : Heap) : Prop :=
  callS P F_disk_Disk_Arm [t6, (.int .i64 4)] h_9 fun t31 h_10 =>
  callS P F_store_Save [t6, (.string ⟨#[97, 98, 99]⟩)] h_10 fun t33 h_11 =>
  pBin .eql t33 (.int .i64 22) fun t34 =>
  callS P F_disk_Disk_Crash [t6, (.slice none 0 0)] h_11 fun t36 h_12 =>
  ifV one3
  (ifV t34
  (callS P F_milestonelaw30_loads [t6, (.string ⟨#[]⟩), (.int .i64 21)] h_12 fun t43 h_13 =>
  K t43 h_13)
  (K (.bool false) h_12))
  (K (.bool false) h_12)

def sh_milestonelaw30_works (P : Program) (h : Heap) (K : Value → Heap → Prop) : Prop :=
  callS P F_disk_New [] h fun t5 h_1 =>
  callS P F_disk_New [] h_1 fun t6 h_2 =>
  pEq false .ptr t5 (.pointer none) fun t8 =>
  ifV t8
  (K (.bool false) h_2)
  (callS P F_milestonelaw30_loads [t5, (.string ⟨#[]⟩), (.int .i64 21)] h_2 fun t10 h_3 =>
  ifV t10
  (callS P F_store_Save [t5, (.string ⟨#[97, 98, 99]⟩)] h_3 fun t13 h_4 =>
  pBin .eql t13 (.int .i64 0) fun t14 =>
  ifV t14
  (callS P F_milestonelaw30_loads [t5, (.string ⟨#[97, 98, 99]⟩), (.int .i64 0)] h_4 fun t18 h_5 =>
  ifV t18
  (callS P F_store_Steps [(.string ⟨#[97, 98, 99]⟩)] h_5 fun t21 h_6 =>
  pBin .eql t21 (.int .i64 5) fun t22 =>
  ifV t22
  (pMakeSlice T_uint8 1 [(.int .u8 0)] (.int .i64 129) (.int .i64 129) h_6 fun t25 h_7 =>
  pConvBS h_7 t25 fun t26 =>
  callS P F_store_Steps [t26] h_7 fun t27 h_8 =>
  pBin .eql t27 (.int .i64 7) fun t28 =>
  sh_milestonelaw30_works_k1 P t6 K t28 h_8)
  (sh_milestonelaw30_works_k1 P t6 K (.bool false) h_6))
  (sh_milestonelaw30_works_k1 P t6 K (.bool false) h_5))
  (sh_milestonelaw30_works_k1 P t6 K (.bool false) h_4))
  (sh_milestonelaw30_works_k1 P t6 K (.bool false) h_3))

set_option maxRecDepth 100000 in
theorem lk_milestonelaw30_works {h : Heap} {K : Value → Heap → Prop} (H : sh_milestonelaw30_works Tryz.prog h K) : CallsH Tryz.prog F_milestonelaw30_works [].toArray h K :=
  callsH_of (ann := (annG (Tryz.f19.body.getD .skip) 0 []).1) (c := Tryz.f19.body.getD .skip) Tryz.func19 (by kernel_rfl) (by kernel_rfl) (by kernel_rfl) (of_decide_eq_true (by kernel_rfl))
    (Eq.mpr (by kernel_rfl) H)

/-! milestone/store.Save$1 -/

def sh_store_Save_1 (P : Program) (step0 : Value) (h : Heap) (K : Value → Heap → Prop) : Prop :=
  pBox T_func_string_api_Errno step0 h fun step1 h_1 =>
  K (.func (.func F_store_Save_1_1) #[] #[step1]) h_1

set_option maxRecDepth 100000 in
theorem lk_store_Save_1 (step0 : Value) {h : Heap} {K : Value → Heap → Prop} (H : sh_store_Save_1 Tryz.prog step0 h K) : CallsH Tryz.prog F_store_Save_1 [step0].toArray h K :=
  callsH_of (ann := (annG (Tryz.f20.body.getD .skip) 0 []).1) (c := Tryz.f20.body.getD .skip) Tryz.func20 (by kernel_rfl) (by kernel_rfl) (by kernel_rfl) (of_decide_eq_true (by kernel_rfl))
    (Eq.mpr (by kernel_rfl) H)

/-! milestone/store.Save$1$1 -/

def sh_store_Save_1_1 (P : Program) (t0 : Value) (h : Heap) (K : Value → Heap → Prop) : Prop :=
  pLoad h t0 fun t2 =>
  callV P t2 [(.string ⟨#[116, 101, 109, 112]⟩)].toArray h fun t3 h_1 =>
  K t3 h_1

set_option maxRecDepth 100000 in
theorem lk_store_Save_1_1 (t0 : Value) {h : Heap} {K : Value → Heap → Prop} (H : sh_store_Save_1_1 Tryz.prog t0 h K) : CallsH Tryz.prog F_store_Save_1_1 [t0].toArray h K :=
  callsH_of (ann := (annG (Tryz.f21.body.getD .skip) 0 []).1) (c := Tryz.f21.body.getD .skip) Tryz.func21 (by kernel_rfl) (by kernel_rfl) (by kernel_rfl) (of_decide_eq_true (by kernel_rfl))
    (Eq.mpr (by kernel_rfl) H)

/-! milestone/store.Save$2 -/

def sh_store_Save_2_B1 (P : Program) (h_2 : Heap) (t1 t2 : Value) (L : Loop) (t8 t9 : Value) (h_3 : Heap) (R : Exit → Heap → Prop) : Prop :=
  beginR (h_2.size + 1) L h_3 fun h_4 =>
  pLoad h_4 t1 fun t10 =>
  callS P F_disk_Disk_Write [t10, (.string ⟨#[116, 101, 109, 112]⟩), t8, t9] h_4 fun t13 h_5 =>
  pBin .neq t13 (.int .i64 0) fun t15 =>
  ifV t15
  (pStore 1 t2 t13 h_5 fun u h_6 =>
  R .ret h_6)
  (R .normal h_5)

def sh_store_Save_2 (P : Program) (t0 t1 : Value) (h : Heap) (K : Value → Heap → Prop) : Prop :=
  pBox T_api_Errno (.int .i64 0) h fun t2 h_1 =>
  pLoad h_1 t0 fun t6 =>
  callS P F_store_pieces [t6] h_1 fun t7 h_2 =>
  rangeH P t7 [8, 9] (h_2.size + 1) (h_2.push (.deferred (some []))) (fun L x hh R => sh_store_Save_2_B1 P h_2 t1 t2 L x.1 x.2.1 hh R)
  (fun h_7 => pStore 1 t2 (.int .i64 0) h_7 fun u_1 h_8 =>
  takeM (h_2.size :: []) h_8 fun h_9 =>
  pLoad h_9 t2 fun res =>
  K res h_9)
  (fun h_10 => takeM (h_2.size :: []) h_10 fun h_11 =>
  pLoad h_11 t2 fun res_1 =>
  K res_1 h_11)
  []

set_option maxRecDepth 100000 in
theorem lk_store_Save_2 (t0 t1 : Value) {h : Heap} {K : Value → Heap → Prop} (H : sh_store_Save_2 Tryz.prog t0 t1 h K) : CallsH Tryz.prog F_store_Save_2 [t0, t1].toArray h K :=
  callsH_of (ann := (annG (Tryz.f22.body.getD .skip) 0 []).1) (c := Tryz.f22.body.getD .skip) Tryz.func22 (by kernel_rfl) (by kernel_rfl) (by kernel_rfl) (of_decide_eq_true (by kernel_rfl))
    (Eq.mpr (by kernel_rfl) H)

/-! milestone/store.pieces -/

def sh_store_pieces (P : Program) (s0 : Value) (h : Heap) (K : Value → Heap → Prop) : Prop :=
  pBox T_string s0 h fun s1 h_1 =>
  K (.func (.func F_store_pieces_1) #[] #[s1]) h_1

set_option maxRecDepth 100000 in
theorem lk_store_pieces (s0 : Value) {h : Heap} {K : Value → Heap → Prop} (H : sh_store_pieces Tryz.prog s0 h K) : CallsH Tryz.prog F_store_pieces [s0].toArray h K :=
  callsH_of (ann := (annG (Tryz.f23.body.getD .skip) 0 []).1) (c := Tryz.f23.body.getD .skip) Tryz.func23 (by kernel_rfl) (by kernel_rfl) (by kernel_rfl) (of_decide_eq_true (by kernel_rfl))
    (Eq.mpr (by kernel_rfl) H)

/-! (*milestone/disk.Disk).Write -/

def sh_disk_Disk_Write_k2 (P : Program) (d4 name5 at6 s7 : Value) (K : Value → Heap → Prop) (e9 : Value) (h_8 : Heap) : Prop :=
  pLoad h_8 d4 fun t26 =>
  pLoad h_8 d4 fun t27 =>
  pLoad h_8 name5 fun t29 =>
  pBuildSlice T_string (zerosL [(.string ⟨#[]⟩)] 1) [(0, 1, t29)] 1 h_8 fun t30 h_9 =>
  callS P F_disk_Disk_refused [t27, e9, t30] h_9 fun t31 h_10 =>
  (pLoad h_10 d4 fun t26_1 =>
  t26_1 = t26) ∧
  (callS P F_disk_Disk_step [t26, t31, (.func (.func F_disk_Disk_Write_1) #[] #[d4, name5, at6, s7])] h_10 fun t33 h_11 =>
  K t33 h_11)

def sh_disk_Disk_Write_k1 (P : Program) (d4 name5 at6 s7 : Value) (K : Value → Heap → Prop) (h_7 : Heap) : Prop :=
  sh_disk_Disk_Write_k2 P d4 name5 at6 s7 K (.int .i64 2) h_7

def sh_disk_Disk_Write (P : Program) (d0 name1 at2 s3 : Value) (h : Heap) (K : Value → Heap → Prop) : Prop :=
  pBox T_p_disk_Disk d0 h fun d4 h_1 =>
  pBox T_string name1 h_1 fun name5 h_2 =>
  pBox T_int at2 h_2 fun at6 h_3 =>
  pBox T_string s3 h_3 fun s7 h_4 =>
  pLoad h_4 name5 fun t10 =>
  pBuildSlice T_string (zerosL [(.string ⟨#[]⟩)] 1) [(0, 1, t10)] 1 h_4 fun t11 h_5 =>
  callS P F_disk_names [t11] h_5 fun t12 h_6 =>
  pBin .eql t12 (.int .i64 0) fun t14 =>
  ifV t14
  (pLoad h_6 at6 fun t16 =>
  pBin .lss t16 (.int .i64 0) fun t17 =>
  ifV t17
  (sh_disk_Disk_Write_k1 P d4 name5 at6 s7 K h_6)
  (pLoad h_6 at6 fun t19 =>
  pLoad h_6 s7 fun t20 =>
  pLenS t20 fun t21 =>
  pBin .sub (.int .i64 1048576) t21 fun t22 =>
  pBin .gtr t19 t22 fun t23 =>
  ifV t23
  (sh_disk_Disk_Write_k1 P d4 name5 at6 s7 K h_6)
  (sh_disk_Disk_Write_k2 P d4 name5 at6 s7 K t12 h_6)))
  (sh_disk_Disk_Write_k2 P d4 name5 at6 s7 K t12 h_6)

set_option maxRecDepth 100000 in
theorem lk_disk_Disk_Write (d0 name1 at2 s3 : Value) {h : Heap} {K : Value → Heap → Prop} (H : sh_disk_Disk_Write Tryz.prog d0 name1 at2 s3 h K) : CallsH Tryz.prog F_disk_Disk_Write [d0, name1, at2, s3].toArray h K :=
  callsH_of (ann := (annG (Tryz.f24.body.getD .skip) 0 []).1) (c := Tryz.f24.body.getD .skip) Tryz.func24 (by kernel_rfl) (by kernel_rfl) (by kernel_rfl) (of_decide_eq_true (by kernel_rfl))
    (Eq.mpr (by kernel_rfl) H)

/-! milestone/store.do -/

def sh_store_do_L1 (P : Program) (t7 steps0 : Value) (K : Value → Heap → Prop) (t8 : Value) (h_1 : Heap) (Z : Value → Heap → Prop) : Prop :=
  pBin .lss t8 t7 fun t9 =>
  ifV t9
  (pIdx 1 steps0 t8 fun t10 =>
  pLoad h_1 t10 fun t11 =>
  callV P t11 [].toArray h_1 fun t13 h_2 =>
  pBin .neq t13 (.int .i64 0) fun t15 =>
  ifV t15
  (K t13 h_2)
  (pBin .add t8 (.int .i64 1) fun t17 =>
  Z t17 h_2))
  (K (.int .i64 0) h_1)

def sh_store_do (P : Program) (steps0 : Value) (h : Heap) (K : Value → Heap → Prop) : Prop :=
  pLen steps0 fun t7 =>
  LoopH (σ := Vals [8]) (fun x hh ZZ => sh_store_do_L1 P t7 steps0 K x.1 hh (fun a0 hz => ZZ (a0, ()) hz)) ((.int .i64 0), ()) h

set_option maxRecDepth 100000 in
theorem lk_store_do (steps0 : Value) {h : Heap} {K : Value → Heap → Prop} (H : sh_store_do Tryz.prog steps0 h K) : CallsH Tryz.prog F_store_do [steps0].toArray h K :=
  callsH_of (ann := (annG (Tryz.f25.body.getD .skip) 0 [(3, [8])]).1) (c := Tryz.f25.body.getD .skip) Tryz.func25 (by kernel_rfl) (by kernel_rfl) (by kernel_rfl) (of_decide_eq_true (by kernel_rfl))
    (Eq.mpr (by kernel_rfl) H)

/-! (*milestone/disk.Disk).Make -/

def sh_disk_Disk_Make (P : Program) (d0 name1 : Value) (h : Heap) (K : Value → Heap → Prop) : Prop :=
  pBox T_p_disk_Disk d0 h fun d2 h_1 =>
  pBox T_string name1 h_1 fun name3 h_2 =>
  pLoad h_2 d2 fun t5 =>
  pLoad h_2 d2 fun t6 =>
  pLoad h_2 name3 fun t7 =>
  pBuildSlice T_string (zerosL [(.string ⟨#[]⟩)] 1) [(0, 1, t7)] 1 h_2 fun t8 h_3 =>
  callS P F_disk_names [t8] h_3 fun t9 h_4 =>
  (pLoad h_4 d2 fun t5_1 =>
  t5_1 = t5) ∧
  (pLoad h_4 d2 fun t6_1 =>
  t6_1 = t6) ∧
  (callS P F_disk_Disk_refused [t6, t9, (.slice none 0 0)] h_4 fun t10 h_5 =>
  (pLoad h_5 d2 fun t5_2 =>
  t5_2 = t5) ∧
  (callS P F_disk_Disk_change [t5, t10, (.func (.func F_disk_Disk_Make_1) #[] #[d2, name3])] h_5 fun t12 h_6 =>
  K t12 h_6))

set_option maxRecDepth 100000 in
theorem lk_disk_Disk_Make (d0 name1 : Value) {h : Heap} {K : Value → Heap → Prop} (H : sh_disk_Disk_Make Tryz.prog d0 name1 h K) : CallsH Tryz.prog F_disk_Disk_Make [d0, name1].toArray h K :=
  callsH_of (ann := (annG (Tryz.f26.body.getD .skip) 0 []).1) (c := Tryz.f26.body.getD .skip) Tryz.func26 (by kernel_rfl) (by kernel_rfl) (by kernel_rfl) (of_decide_eq_true (by kernel_rfl))
    (Eq.mpr (by kernel_rfl) H)

/-! (*milestone/disk.Disk).Sync -/

def sh_disk_Disk_Sync_C1 (P : Program) (K : Value → Heap → Prop) (t4 : Value) (h_17 : Heap) : Prop :=
  K t4 h_17

def sh_disk_Disk_Sync (P : Program) (d0 name1 : Value) (h : Heap) (K : Value → Heap → Prop) : Prop :=
  pBox T_p_disk_Disk d0 h fun d2 h_1 =>
  pBox T_string name1 h_1 fun name3 h_2 =>
  cutP (σ := Vals [4]) (fun J =>
  pLoad h_2 d2 fun t5 =>
  pLoad h_2 d2 fun t6 =>
  pLoad h_2 name3 fun t7 =>
  pLoad h_2 name3 fun t10 =>
  (pBuildSlice T_string (zerosL [(.string ⟨#[]⟩)] 1) [(0, 1, t7)] 1 h_2 fun t8 h_3 =>
  (callS P F_disk_names [t8] h_3 fun t9 h_4 =>
  (pLoad h_4 d2 fun t5_1 =>
  t5_1 = t5) ∧
  (pLoad h_4 d2 fun t6_1 =>
  t6_1 = t6) ∧
  (pLoad h_4 name3 fun t10_1 =>
  t10_1 = t10) ∧
  (pBuildSlice T_string (zerosL [(.string ⟨#[]⟩)] 1) [(0, 1, t10)] 1 h_4 fun t11 h_5 =>
  callS P F_disk_Disk_refused [t6, t9, t11] h_5 fun t12 h_6 =>
  (pLoad h_6 d2 fun t5_2 =>
  t5_2 = t5) ∧
  (callS P F_disk_Disk_step [t5, t12, (.func (.func F_disk_Disk_Sync_1) #[] #[d2, name3])] h_6 fun t14 h_7 =>
  J (t14, ()) h_7))) ∧
  (pBuildSlice T_string (zerosL [(.string ⟨#[]⟩)] 1) [(0, 1, t10)] 1 h_3 fun t11_1 h_8 =>
  callS P F_disk_names [t8] h_8 fun t9_1 h_9 =>
  (pLoad h_9 d2 fun t5_3 =>
  t5_3 = t5) ∧
  (pLoad h_9 d2 fun t6_2 =>
  t6_2 = t6) ∧
  (callS P F_disk_Disk_refused [t6, t9_1, t11_1] h_9 fun t12_1 h_10 =>
  (pLoad h_10 d2 fun t5_4 =>
  t5_4 = t5) ∧
  (callS P F_disk_Disk_step [t5, t12_1, (.func (.func F_disk_Disk_Sync_1) #[] #[d2, name3])] h_10 fun t14_1 h_11 =>
  J (t14_1, ()) h_11)))) ∧
  (pBuildSlice T_string (zerosL [(.string ⟨#[]⟩)] 1) [(0, 1, t10)] 1 h_2 fun t11_2 h_12 =>
  pBuildSlice T_string (zerosL [(.string ⟨#[]⟩)] 1) [(0, 1, t7)] 1 h_12 fun t8_1 h_13 =>
  callS P F_disk_names [t8_1] h_13 fun t9_2 h_14 =>
  (pLoad h_14 d2 fun t5_5 =>
  t5_5 = t5) ∧
  (pLoad h_14 d2 fun t6_3 =>
  t6_3 = t6) ∧
  (callS P F_disk_Disk_refused [t6, t9_2, t11_2] h_14 fun t12_2 h_15 =>
  (pLoad h_15 d2 fun t5_6 =>
  t5_6 = t5) ∧
  (callS P F_disk_Disk_step [t5, t12_2, (.func (.func F_disk_Disk_Sync_1) #[] #[d2, name3])] h_15 fun t14_2 h_16 =>
  J (t14_2, ()) h_16))))
  (fun x hh => sh_disk_Disk_Sync_C1 P K x.1 hh)

set_option maxRecDepth 100000 in
theorem lk_disk_Disk_Sync (d0 name1 : Value) {h : Heap} {K : Value → Heap → Prop} (H : sh_disk_Disk_Sync Tryz.prog d0 name1 h K) : CallsH Tryz.prog F_disk_Disk_Sync [d0, name1].toArray h K :=
  callsH_of (ann := (annG (Tryz.f27.body.getD .skip) 0 [(1, [4])]).1) (c := Tryz.f27.body.getD .skip) Tryz.func27 (by kernel_rfl) (by kernel_rfl) (by kernel_rfl) (of_decide_eq_true (by kernel_rfl))
    (Eq.mpr (by kernel_rfl) H)

/-! milestone/store.Save$3 -/

def sh_store_Save_3 (P : Program) (t0 : Value) (h : Heap) (K : Value → Heap → Prop) : Prop :=
  pLoad h t0 fun t2 =>
  callS P F_disk_Disk_Rename [t2, (.string ⟨#[116, 101, 109, 112]⟩), (.string ⟨#[105, 109, 97, 103, 101]⟩)] h fun t3 h_1 =>
  K t3 h_1

set_option maxRecDepth 100000 in
theorem lk_store_Save_3 (t0 : Value) {h : Heap} {K : Value → Heap → Prop} (H : sh_store_Save_3 Tryz.prog t0 h K) : CallsH Tryz.prog F_store_Save_3 [t0].toArray h K :=
  callsH_of (ann := (annG (Tryz.f28.body.getD .skip) 0 []).1) (c := Tryz.f28.body.getD .skip) Tryz.func28 (by kernel_rfl) (by kernel_rfl) (by kernel_rfl) (of_decide_eq_true (by kernel_rfl))
    (Eq.mpr (by kernel_rfl) H)

/-! (*milestone/disk.Disk).Rename -/

def sh_disk_Disk_Rename_C1 (P : Program) (K : Value → Heap → Prop) (t6 : Value) (h_17 : Heap) : Prop :=
  K t6 h_17

def sh_disk_Disk_Rename (P : Program) (d0 from1 to2 : Value) (h : Heap) (K : Value → Heap → Prop) : Prop :=
  pBox T_string from1 h fun from4 h_1 =>
  pBox T_string to2 h_1 fun to5 h_2 =>
  cutP (σ := Vals [6]) (fun J =>
  pLoad h_2 from4 fun t9 =>
  pLoad h_2 to5 fun t10 =>
  pLoad h_2 from4 fun t13 =>
  (pBuildSlice T_string (zerosL [(.string ⟨#[]⟩)] 2) [(0, 1, t9), (1, 1, t10)] 2 h_2 fun t11 h_3 =>
  (callS P F_disk_names [t11] h_3 fun t12 h_4 =>
  (pLoad h_4 from4 fun t13_1 =>
  t13_1 = t13) ∧
  (pBuildSlice T_string (zerosL [(.string ⟨#[]⟩)] 1) [(0, 1, t13)] 1 h_4 fun t14 h_5 =>
  callS P F_disk_Disk_refused [d0, t12, t14] h_5 fun t15 h_6 =>
  callS P F_disk_Disk_change [d0, t15, (.func (.func F_disk_Disk_Rename_1) #[] #[from4, to5])] h_6 fun t17 h_7 =>
  J (t17, ()) h_7)) ∧
  (pBuildSlice T_string (zerosL [(.string ⟨#[]⟩)] 1) [(0, 1, t13)] 1 h_3 fun t14_1 h_8 =>
  callS P F_disk_names [t11] h_8 fun t12_1 h_9 =>
  callS P F_disk_Disk_refused [d0, t12_1, t14_1] h_9 fun t15_1 h_10 =>
  callS P F_disk_Disk_change [d0, t15_1, (.func (.func F_disk_Disk_Rename_1) #[] #[from4, to5])] h_10 fun t17_1 h_11 =>
  J (t17_1, ()) h_11)) ∧
  (pBuildSlice T_string (zerosL [(.string ⟨#[]⟩)] 1) [(0, 1, t13)] 1 h_2 fun t14_2 h_12 =>
  pBuildSlice T_string (zerosL [(.string ⟨#[]⟩)] 2) [(0, 1, t9), (1, 1, t10)] 2 h_12 fun t11_1 h_13 =>
  callS P F_disk_names [t11_1] h_13 fun t12_2 h_14 =>
  callS P F_disk_Disk_refused [d0, t12_2, t14_2] h_14 fun t15_2 h_15 =>
  callS P F_disk_Disk_change [d0, t15_2, (.func (.func F_disk_Disk_Rename_1) #[] #[from4, to5])] h_15 fun t17_2 h_16 =>
  J (t17_2, ()) h_16))
  (fun x hh => sh_disk_Disk_Rename_C1 P K x.1 hh)

set_option maxRecDepth 100000 in
theorem lk_disk_Disk_Rename (d0 from1 to2 : Value) {h : Heap} {K : Value → Heap → Prop} (H : sh_disk_Disk_Rename Tryz.prog d0 from1 to2 h K) : CallsH Tryz.prog F_disk_Disk_Rename [d0, from1, to2].toArray h K :=
  callsH_of (ann := (annG (Tryz.f29.body.getD .skip) 0 [(1, [6])]).1) (c := Tryz.f29.body.getD .skip) Tryz.func29 (by kernel_rfl) (by kernel_rfl) (by kernel_rfl) (of_decide_eq_true (by kernel_rfl))
    (Eq.mpr (by kernel_rfl) H)

/-! (*milestone/disk.Disk).SyncDir -/

def sh_disk_Disk_SyncDir (P : Program) (d0 : Value) (h : Heap) (K : Value → Heap → Prop) : Prop :=
  pBox T_p_disk_Disk d0 h fun d1 h_1 =>
  pLoad h_1 d1 fun t3 =>
  pLoad h_1 d1 fun t4 =>
  callS P F_disk_Disk_refused [t4, (.int .i64 0), (.slice none 0 0)] h_1 fun t5 h_2 =>
  (pLoad h_2 d1 fun t3_1 =>
  t3_1 = t3) ∧
  (callS P F_disk_Disk_step [t3, t5, (.func (.func F_disk_Disk_SyncDir_1) #[] #[d1])] h_2 fun t7 h_3 =>
  K t7 h_3)

set_option maxRecDepth 100000 in
theorem lk_disk_Disk_SyncDir (d0 : Value) {h : Heap} {K : Value → Heap → Prop} (H : sh_disk_Disk_SyncDir Tryz.prog d0 h K) : CallsH Tryz.prog F_disk_Disk_SyncDir [d0].toArray h K :=
  callsH_of (ann := (annG (Tryz.f30.body.getD .skip) 0 []).1) (c := Tryz.f30.body.getD .skip) Tryz.func30 (by kernel_rfl) (by kernel_rfl) (by kernel_rfl) (of_decide_eq_true (by kernel_rfl))
    (Eq.mpr (by kernel_rfl) H)

/-! (*milestone/milestoneref29.Disk).Make -/

def sh_milestoneref29_Disk_Make_k1 (P : Program) (K : Value → Heap → Prop) (t16 : Value) (h_8 : Heap) : Prop :=
  K t16 h_8

def sh_milestoneref29_Disk_Make (P : Program) (d0 name1 : Value) (h : Heap) (K : Value → Heap → Prop) : Prop :=
  pNil d0 fun t8 =>
  pField 0 t8 fun t9 =>
  pLoad h t9 fun t10 =>
  pLen t10 fun t11 =>
  pBuild [(.int .i64 0), (.int .i64 0), (.string ⟨#[]⟩), (.string ⟨#[]⟩), (.bool false)] [(1, 1, t11), (2, 1, name1)] fun t13 =>
  pBuildSlice T_string (zerosL [(.string ⟨#[]⟩)] 1) [(0, 1, name1)] 1 h fun t15 h_1 =>
  callS P F_milestoneref29_Disk_change [d0, (.bool false), t13, t15] h_1 fun t16 h_2 =>
  pBin .eql t16 (.int .i64 0) fun t18 =>
  ifV t18
  (pBuildSlice T_milestoneref29_Thing (zerosL [(.slice none 0 0)] 0) [] 0 h_2 fun t20 h_3 =>
  pNil d0 fun t22 =>
  pField 0 t22 fun t23 =>
  pLoad h_3 t23 fun t24 =>
  pAppend T_milestoneref29_Thing 1 24 [(.slice none 0 0)] t20 t24 h_3 fun t25 h_4 =>
  pBuild [(.slice none 0 0)] [] fun t26 =>
  pBuildSlice T_milestoneref29_Thing (zerosL [(.slice none 0 0)] 1) [(0, 1, t26)] 1 h_4 fun t27 h_5 =>
  pAppend T_milestoneref29_Thing 1 24 [(.slice none 0 0)] t25 t27 h_5 fun t28 h_6 =>
  pNil d0 fun t29 =>
  pField 0 t29 fun t30 =>
  pStore 1 t30 t28 h_6 fun u h_7 =>
  sh_milestoneref29_Disk_Make_k1 P K t16 h_7)
  (sh_milestoneref29_Disk_Make_k1 P K t16 h_2)

set_option maxRecDepth 100000 in
theorem lk_milestoneref29_Disk_Make (d0 name1 : Value) {h : Heap} {K : Value → Heap → Prop} (H : sh_milestoneref29_Disk_Make Tryz.prog d0 name1 h K) : CallsH Tryz.prog F_milestoneref29_Disk_Make [d0, name1].toArray h K :=
  callsH_of (ann := (annG (Tryz.f31.body.getD .skip) 0 []).1) (c := Tryz.f31.body.getD .skip) Tryz.func31 (by kernel_rfl) (by kernel_rfl) (by kernel_rfl) (of_decide_eq_true (by kernel_rfl))
    (Eq.mpr (by kernel_rfl) H)

/-! (*milestone/milestoneref29.Disk).Write -/

def sh_milestoneref29_Disk_Write_k1 (P : Program) (K : Value → Heap → Prop) (h_2 : Heap) : Prop :=
  K (.int .i64 2) h_2

def sh_milestoneref29_Disk_Write_k4 (P : Program) (K : Value → Heap → Prop) (e9 : Value) (h_17 : Heap) : Prop :=
  K e9 h_17

def sh_milestoneref29_Disk_Write_k3 (P : Program) (d0 name1 at2 s3 : Value) (K : Value → Heap → Prop) (e9 : Value) (h_7 : Heap) : Prop :=
  pBin .eql e9 (.int .i64 0) fun t44 =>
  ifV t44
  (pNil d0 fun t46 =>
  pField 1 t46 fun t47 =>
  pLoad h_7 t47 fun t48 =>
  callS P F_milestoneref29_Points [t48, name1] h_7 fun t50 h_8 =>
  pBuildSlice T_milestoneref29_Thing (zerosL [(.slice none 0 0)] 0) [] 0 h_8 fun t52 h_9 =>
  pNil d0 fun t54 =>
  pField 0 t54 fun t55 =>
  pLoad h_9 t55 fun t56 =>
  pAppend T_milestoneref29_Thing 1 24 [(.slice none 0 0)] t52 t56 h_9 fun t57 h_10 =>
  pNil d0 fun t58 =>
  pField 0 t58 fun t59 =>
  pStore 1 t59 t57 h_10 fun u h_11 =>
  pNil d0 fun t61 =>
  pField 0 t61 fun t62 =>
  pLoad h_11 t62 fun t63 =>
  pNil d0 fun t67 =>
  pField 0 t67 fun t68 =>
  pLoad h_11 t68 fun t69 =>
  pIdx 1 t69 t50 fun t71 =>
  pField 0 t71 fun t72 =>
  pLoad h_11 t72 fun t73 =>
  pBuild [(.int .i64 0), (.string ⟨#[]⟩), (.bool false)] [(0, 1, at2), (1, 1, s3)] fun t77 =>
  (pBuildSlice T_milestoneref29_Write (zerosL [(.int .i64 0), (.string ⟨#[]⟩), (.bool false)] 0) [] 0 h_11 fun t65 h_12 =>
  (pAppend T_milestoneref29_Write 3 32 [(.int .i64 0), (.string ⟨#[]⟩), (.bool false)] t65 t73 h_12 fun t74 h_13 =>
  (pLoad h_13 t62 fun t63_1 =>
  t63_1 = t63) ∧
  (pBuildSlice T_milestoneref29_Write (zerosL [(.int .i64 0), (.string ⟨#[]⟩), (.bool false)] 1) [(0, 3, t77)] 1 h_13 fun t78 h_14 =>
  pAppend T_milestoneref29_Write 3 32 [(.int .i64 0), (.string ⟨#[]⟩), (.bool false)] t74 t78 h_14 fun t79 h_15 =>
  (pLoad h_15 t62 fun t63_2 =>
  t63_2 = t63) ∧
  (pBuild [(.slice none 0 0)] [(0, 1, t79)] fun t80 =>
  pIdx 1 t63 t50 fun t81 =>
  pStore 1 t81 t80 h_15 fun u_1 h_16 =>
  sh_milestoneref29_Disk_Write_k4 P K e9 h_16))) ∧
  (pBuildSlice T_milestoneref29_Write (zerosL [(.int .i64 0), (.string ⟨#[]⟩), (.bool false)] 1) [(0, 3, t77)] 1 h_12 fun t78_1 h_18 =>
  pAppend T_milestoneref29_Write 3 32 [(.int .i64 0), (.string ⟨#[]⟩), (.bool false)] t65 t73 h_18 fun t74_1 h_19 =>
  (pLoad h_19 t62 fun t63_3 =>
  t63_3 = t63) ∧
  (pAppend T_milestoneref29_Write 3 32 [(.int .i64 0), (.string ⟨#[]⟩), (.bool false)] t74_1 t78_1 h_19 fun t79_1 h_20 =>
  (pLoad h_20 t62 fun t63_4 =>
  t63_4 = t63) ∧
  (pBuild [(.slice none 0 0)] [(0, 1, t79_1)] fun t80_1 =>
  pIdx 1 t63 t50 fun t81_1 =>
  pStore 1 t81_1 t80_1 h_20 fun u_2 h_21 =>
  sh_milestoneref29_Disk_Write_k4 P K e9 h_21)))) ∧
  (pBuildSlice T_milestoneref29_Write (zerosL [(.int .i64 0), (.string ⟨#[]⟩), (.bool false)] 1) [(0, 3, t77)] 1 h_11 fun t78_2 h_22 =>
  pBuildSlice T_milestoneref29_Write (zerosL [(.int .i64 0), (.string ⟨#[]⟩), (.bool false)] 0) [] 0 h_22 fun t65_1 h_23 =>
  pAppend T_milestoneref29_Write 3 32 [(.int .i64 0), (.string ⟨#[]⟩), (.bool false)] t65_1 t73 h_23 fun t74_2 h_24 =>
  (pLoad h_24 t62 fun t63_5 =>
  t63_5 = t63) ∧
  (pAppend T_milestoneref29_Write 3 32 [(.int .i64 0), (.string ⟨#[]⟩), (.bool false)] t74_2 t78_2 h_24 fun t79_2 h_25 =>
  (pLoad h_25 t62 fun t63_6 =>
  t63_6 = t63) ∧
  (pBuild [(.slice none 0 0)] [(0, 1, t79_2)] fun t80_2 =>
  pIdx 1 t63 t50 fun t81_2 =>
  pStore 1 t81_2 t80_2 h_25 fun u_3 h_26 =>
  sh_milestoneref29_Disk_Write_k4 P K e9 h_26))))
  (sh_milestoneref29_Disk_Write_k4 P K e9 h_7)

def sh_milestoneref29_Disk_Write_k2 (P : Program) (name1 d0 at2 s3 : Value) (K : Value → Heap → Prop) (h_3 : Heap) : Prop :=
  pBuildSlice T_string (zerosL [(.string ⟨#[]⟩)] 1) [(0, 1, name1)] 1 h_3 fun t37 h_4 =>
  callS P F_milestoneref29_Disk_refused [d0, (.bool true), t37] h_4 fun t38 h_5 =>
  pBin .eql t38 (.int .i64 0) fun t40 =>
  ifV t40
  (callS P F_milestoneref29_Disk_step [d0] h_5 fun t42 h_6 =>
  sh_milestoneref29_Disk_Write_k3 P d0 name1 at2 s3 K t42 h_6)
  (sh_milestoneref29_Disk_Write_k3 P d0 name1 at2 s3 K t38 h_5)

def sh_milestoneref29_Disk_Write (P : Program) (d0 name1 at2 s3 : Value) (h : Heap) (K : Value → Heap → Prop) : Prop :=
  pNil d0 fun t12 =>
  pField 2 t12 fun t13 =>
  pLoad h t13 fun t14 =>
  pUn .not t14 fun t15 =>
  ifV t15
  (callS P F_milestoneref29_May [name1] h fun t18 h_1 =>
  ifV t18
  (pBin .lss at2 (.int .i64 0) fun t22 =>
  ifV t22
  (sh_milestoneref29_Disk_Write_k1 P K h_1)
  (pBin .gtr at2 (.int .i64 1048576) fun t25 =>
  ifV t25
  (sh_milestoneref29_Disk_Write_k1 P K h_1)
  (pLenS s3 fun t30 =>
  pBin .add at2 t30 fun t31 =>
  pBin .gtr t31 (.int .i64 1048576) fun t32 =>
  ifV t32
  (sh_milestoneref29_Disk_Write_k1 P K h_1)
  (sh_milestoneref29_Disk_Write_k2 P name1 d0 at2 s3 K h_1))))
  (sh_milestoneref29_Disk_Write_k2 P name1 d0 at2 s3 K h_1))
  (sh_milestoneref29_Disk_Write_k2 P name1 d0 at2 s3 K h)

set_option maxRecDepth 100000 in
theorem lk_milestoneref29_Disk_Write (d0 name1 at2 s3 : Value) {h : Heap} {K : Value → Heap → Prop} (H : sh_milestoneref29_Disk_Write Tryz.prog d0 name1 at2 s3 h K) : CallsH Tryz.prog F_milestoneref29_Disk_Write [d0, name1, at2, s3].toArray h K :=
  callsH_of (ann := (annG (Tryz.f32.body.getD .skip) 0 []).1) (c := Tryz.f32.body.getD .skip) Tryz.func32 (by kernel_rfl) (by kernel_rfl) (by kernel_rfl) (of_decide_eq_true (by kernel_rfl))
    (Eq.mpr (by kernel_rfl) H)

end Go.Proofs.YtleaknaadodjeaaGreat

namespace Go.Proofs.YtleaknaadodjeaaGreat
open Go Go.Mh
set_option maxHeartbeats 0
set_option linter.unusedVariables false

/-! (*milestone/milestoneref29.Disk).Sync -/

def sh_milestoneref29_Disk_Sync_k3 (P : Program) (K : Value → Heap → Prop) (e5 : Value) (h_14 : Heap) : Prop :=
  K e5 h_14

def sh_milestoneref29_Disk_Sync_L2 (P : Program) (t34 d0 t24 : Value) (K : Value → Heap → Prop) (e5 i8 : Value) (h_8 : Heap) (Z : Value → Heap → Prop) : Prop :=
  pLen t34 fun t37 =>
  pBin .lss i8 t37 fun t38 =>
  ifV t38
  (pIdx 3 t34 i8 fun t43 =>
  pField 2 t43 fun t44 =>
  pStore 1 t44 (.bool true) h_8 fun u h_9 =>
  pBin .add i8 (.int .i64 1) fun t40 =>
  Z t40 h_9)
  (pBuildSlice T_milestoneref29_Thing (zerosL [(.slice none 0 0)] 0) [] 0 h_8 fun t46 h_10 =>
  pNil d0 fun t48 =>
  pField 0 t48 fun t49 =>
  pLoad h_10 t49 fun t50 =>
  pAppend T_milestoneref29_Thing 1 24 [(.slice none 0 0)] t46 t50 h_10 fun t51 h_11 =>
  pNil d0 fun t52 =>
  pField 0 t52 fun t53 =>
  pStore 1 t53 t51 h_11 fun u_1 h_12 =>
  pNil d0 fun t55 =>
  pField 0 t55 fun t56 =>
  pLoad h_12 t56 fun t57 =>
  pBuild [(.slice none 0 0)] [(0, 1, t34)] fun t60 =>
  pIdx 1 t57 t24 fun t61 =>
  pStore 1 t61 t60 h_12 fun u_2 h_13 =>
  sh_milestoneref29_Disk_Sync_k3 P K e5 h_13)

def sh_milestoneref29_Disk_Sync_k1 (P : Program) (d0 name1 : Value) (K : Value → Heap → Prop) (e5 : Value) (h_4 : Heap) : Prop :=
  pBin .eql e5 (.int .i64 0) fun t18 =>
  ifV t18
  (pNil d0 fun t20 =>
  pField 1 t20 fun t21 =>
  pLoad h_4 t21 fun t22 =>
  callS P F_milestoneref29_Points [t22, name1] h_4 fun t24 h_5 =>
  pBuildSlice T_milestoneref29_Write (zerosL [(.int .i64 0), (.string ⟨#[]⟩), (.bool false)] 0) [] 0 h_5 fun t25 h_6 =>
  pNil d0 fun t27 =>
  pField 0 t27 fun t28 =>
  pLoad h_6 t28 fun t29 =>
  pIdx 1 t29 t24 fun t31 =>
  pField 0 t31 fun t32 =>
  pLoad h_6 t32 fun t33 =>
  pAppend T_milestoneref29_Write 3 32 [(.int .i64 0), (.string ⟨#[]⟩), (.bool false)] t25 t33 h_6 fun t34 h_7 =>
  LoopH (σ := Vals [8]) (fun x hh ZZ => sh_milestoneref29_Disk_Sync_L2 P t34 d0 t24 K e5 x.1 hh (fun a0 hz => ZZ (a0, ()) hz)) ((.int .i64 0), ()) h_7)
  (sh_milestoneref29_Disk_Sync_k3 P K e5 h_4)

def sh_milestoneref29_Disk_Sync (P : Program) (d0 name1 : Value) (h : Heap) (K : Value → Heap → Prop) : Prop :=
  pBuildSlice T_string (zerosL [(.string ⟨#[]⟩)] 1) [(0, 1, name1)] 1 h fun t11 h_1 =>
  callS P F_milestoneref29_Disk_refused [d0, (.bool true), t11] h_1 fun t12 h_2 =>
  pBin .eql t12 (.int .i64 0) fun t14 =>
  ifV t14
  (callS P F_milestoneref29_Disk_step [d0] h_2 fun t16 h_3 =>
  sh_milestoneref29_Disk_Sync_k1 P d0 name1 K t16 h_3)
  (sh_milestoneref29_Disk_Sync_k1 P d0 name1 K t12 h_2)

set_option maxRecDepth 100000 in
theorem lk_milestoneref29_Disk_Sync (d0 name1 : Value) {h : Heap} {K : Value → Heap → Prop} (H : sh_milestoneref29_Disk_Sync Tryz.prog d0 name1 h K) : CallsH Tryz.prog F_milestoneref29_Disk_Sync [d0, name1].toArray h K :=
  callsH_of (ann := (annG (Tryz.f33.body.getD .skip) 0 [(10, [8])]).1) (c := Tryz.f33.body.getD .skip) Tryz.func33 (by kernel_rfl) (by kernel_rfl) (by kernel_rfl) (of_decide_eq_true (by kernel_rfl))
    (Eq.mpr (by kernel_rfl) H)

/-! (*milestone/milestoneref29.Disk).Rename -/

def sh_milestoneref29_Disk_Rename (P : Program) (d0 from1 to2 : Value) (h : Heap) (K : Value → Heap → Prop) : Prop :=
  pBuild [(.int .i64 0), (.int .i64 0), (.string ⟨#[]⟩), (.string ⟨#[]⟩), (.bool false)] [(0, 1, (.int .i64 1)), (2, 1, from1), (3, 1, to2)] fun t10 =>
  pBuildSlice T_string (zerosL [(.string ⟨#[]⟩)] 2) [(0, 1, from1), (1, 1, to2)] 2 h fun t13 h_1 =>
  callS P F_milestoneref29_Disk_change [d0, (.bool true), t10, t13] h_1 fun t14 h_2 =>
  K t14 h_2

set_option maxRecDepth 100000 in
theorem lk_milestoneref29_Disk_Rename (d0 from1 to2 : Value) {h : Heap} {K : Value → Heap → Prop} (H : sh_milestoneref29_Disk_Rename Tryz.prog d0 from1 to2 h K) : CallsH Tryz.prog F_milestoneref29_Disk_Rename [d0, from1, to2].toArray h K :=
  callsH_of (ann := (annG (Tryz.f34.body.getD .skip) 0 []).1) (c := Tryz.f34.body.getD .skip) Tryz.func34 (by kernel_rfl) (by kernel_rfl) (by kernel_rfl) (of_decide_eq_true (by kernel_rfl))
    (Eq.mpr (by kernel_rfl) H)

/-! (*milestone/milestoneref29.Disk).SyncDir -/

def sh_milestoneref29_Disk_SyncDir_k3 (P : Program) (K : Value → Heap → Prop) (e3 : Value) (h_9 : Heap) : Prop :=
  K e3 h_9

def sh_milestoneref29_Disk_SyncDir_L2 (P : Program) (d0 : Value) (K : Value → Heap → Prop) (e3 i4 : Value) (h_7 : Heap) (Z : Value → Heap → Prop) : Prop :=
  pNil d0 fun t24 =>
  pField 1 t24 fun t25 =>
  pLoad h_7 t25 fun t26 =>
  pLen t26 fun t27 =>
  pBin .lss i4 t27 fun t28 =>
  ifV t28
  (pNil d0 fun t32 =>
  pField 1 t32 fun t33 =>
  pLoad h_7 t33 fun t34 =>
  pIdx 5 t34 i4 fun t36 =>
  pField 4 t36 fun t37 =>
  pStore 1 t37 (.bool true) h_7 fun u_1 h_8 =>
  pBin .add i4 (.int .i64 1) fun t30 =>
  Z t30 h_8)
  (sh_milestoneref29_Disk_SyncDir_k3 P K e3 h_7)

def sh_milestoneref29_Disk_SyncDir_k1 (P : Program) (d0 : Value) (K : Value → Heap → Prop) (e3 : Value) (h_3 : Heap) : Prop :=
  pBin .eql e3 (.int .i64 0) fun t12 =>
  ifV t12
  (pBuildSlice T_milestoneref29_Change (zerosL [(.int .i64 0), (.int .i64 0), (.string ⟨#[]⟩), (.string ⟨#[]⟩), (.bool false)] 0) [] 0 h_3 fun t14 h_4 =>
  pNil d0 fun t16 =>
  pField 1 t16 fun t17 =>
  pLoad h_4 t17 fun t18 =>
  pAppend T_milestoneref29_Change 5 56 [(.int .i64 0), (.int .i64 0), (.string ⟨#[]⟩), (.string ⟨#[]⟩), (.bool false)] t14 t18 h_4 fun t19 h_5 =>
  pNil d0 fun t20 =>
  pField 1 t20 fun t21 =>
  pStore 1 t21 t19 h_5 fun u h_6 =>
  LoopH (σ := Vals [4]) (fun x hh ZZ => sh_milestoneref29_Disk_SyncDir_L2 P d0 K e3 x.1 hh (fun a0 hz => ZZ (a0, ()) hz)) ((.int .i64 0), ()) h_6)
  (sh_milestoneref29_Disk_SyncDir_k3 P K e3 h_3)

def sh_milestoneref29_Disk_SyncDir (P : Program) (d0 : Value) (h : Heap) (K : Value → Heap → Prop) : Prop :=
  callS P F_milestoneref29_Disk_refused [d0, (.bool false), (.slice none 0 0)] h fun t6 h_1 =>
  pBin .eql t6 (.int .i64 0) fun t8 =>
  ifV t8
  (callS P F_milestoneref29_Disk_step [d0] h_1 fun t10 h_2 =>
  sh_milestoneref29_Disk_SyncDir_k1 P d0 K t10 h_2)
  (sh_milestoneref29_Disk_SyncDir_k1 P d0 K t6 h_1)

set_option maxRecDepth 100000 in
theorem lk_milestoneref29_Disk_SyncDir (d0 : Value) {h : Heap} {K : Value → Heap → Prop} (H : sh_milestoneref29_Disk_SyncDir Tryz.prog d0 h K) : CallsH Tryz.prog F_milestoneref29_Disk_SyncDir [d0].toArray h K :=
  callsH_of (ann := (annG (Tryz.f35.body.getD .skip) 0 [(8, [4])]).1) (c := Tryz.f35.body.getD .skip) Tryz.func35 (by kernel_rfl) (by kernel_rfl) (by kernel_rfl) (of_decide_eq_true (by kernel_rfl))
    (Eq.mpr (by kernel_rfl) H)

/-! (*milestone/disk.Disk).Crash$1 -/

def sh_disk_Disk_Crash_1 (P : Program) (t0 : Value) (h : Heap) (K : Value → Heap → Prop) : Prop :=
  pLoad h t0 fun t3 =>
  pLen t3 fun t4 =>
  pBin .eql t4 (.int .i64 0) fun t5 =>
  ifV t5
  (K (.int .i64 0) h)
  (pLoad h t0 fun t6 =>
  pIdx 1 t6 (.int .i64 0) fun t7 =>
  pLoad h t7 fun t8 =>
  pConv .i64 t8 fun t9 =>
  pLoad h t0 fun t10 =>
  pSlice 1 t10 (some (.int .i64 1)) none none fun t11 =>
  pStore 1 t0 t11 h fun u h_1 =>
  K t9 h_1)

set_option maxRecDepth 100000 in
theorem lk_disk_Disk_Crash_1 (t0 : Value) {h : Heap} {K : Value → Heap → Prop} (H : sh_disk_Disk_Crash_1 Tryz.prog t0 h K) : CallsH Tryz.prog F_disk_Disk_Crash_1 [t0].toArray h K :=
  callsH_of (ann := (annG (Tryz.f36.body.getD .skip) 0 []).1) (c := Tryz.f36.body.getD .skip) Tryz.func36 (by kernel_rfl) (by kernel_rfl) (by kernel_rfl) (of_decide_eq_true (by kernel_rfl))
    (Eq.mpr (by kernel_rfl) H)

/-! (*milestone/disk.Disk).named -/

def sh_disk_Disk_named (P : Program) (d0 : Value) (h : Heap) (K : Value → Heap → Prop) : Prop :=
  pBox T_p_disk_Disk d0 h fun d1 h_1 =>
  K (.func (.func F_disk_Disk_named_1) #[] #[d1]) h_1

set_option maxRecDepth 100000 in
theorem lk_disk_Disk_named (d0 : Value) {h : Heap} {K : Value → Heap → Prop} (H : sh_disk_Disk_named Tryz.prog d0 h K) : CallsH Tryz.prog F_disk_Disk_named [d0].toArray h K :=
  callsH_of (ann := (annG (Tryz.f38.body.getD .skip) 0 []).1) (c := Tryz.f38.body.getD .skip) Tryz.func38 (by kernel_rfl) (by kernel_rfl) (by kernel_rfl) (of_decide_eq_true (by kernel_rfl))
    (Eq.mpr (by kernel_rfl) H)

/-! milestone/disk.put -/

def sh_disk_put_k1 (P : Program) (w3 : Value) (K : Value → Heap → Prop) (b0_1 : Value) (h_3 : Heap) : Prop :=
  pField 0 w3 fun t21 =>
  pLoad h_3 t21 fun t22 =>
  pSlice 1 b0_1 (some t22) none none fun t23 =>
  pField 1 w3 fun t24 =>
  pLoad h_3 t24 fun t25 =>
  pCopyS t23 t25 h_3 fun t26 h_4 =>
  K b0_1 h_4

def sh_disk_put (P : Program) (b0 w1 : Value) (h : Heap) (K : Value → Heap → Prop) : Prop :=
  pBox T_disk_write w1 h fun w3 h_1 =>
  pField 0 w3 fun t6 =>
  pLoad h_1 t6 fun t7 =>
  pField 1 w3 fun t8 =>
  pLoad h_1 t8 fun t9 =>
  pLenS t9 fun t10 =>
  pBin .add t7 t10 fun t11 =>
  pLen b0 fun t13 =>
  pBin .sub t11 t13 fun t14 =>
  pBin .gtr t14 (.int .i64 0) fun t16 =>
  ifV t16
  (pAppendZ T_uint8 1 1 [(.int .u8 0)] b0 t14 h_1 fun t19 h_2 =>
  sh_disk_put_k1 P w3 K t19 h_2)
  (sh_disk_put_k1 P w3 K b0 h_1)

set_option maxRecDepth 100000 in
theorem lk_disk_put (b0 w1 : Value) {h : Heap} {K : Value → Heap → Prop} (H : sh_disk_put Tryz.prog b0 w1 h K) : CallsH Tryz.prog F_disk_put [b0, w1].toArray h K :=
  callsH_of (ann := (annG (Tryz.f39.body.getD .skip) 0 []).1) (c := Tryz.f39.body.getD .skip) Tryz.func39 (by kernel_rfl) (by kernel_rfl) (by kernel_rfl) (of_decide_eq_true (by kernel_rfl))
    (Eq.mpr (by kernel_rfl) H)

/-! (*milestone/milestoneref29.Disk).Pending -/

def sh_milestoneref29_Disk_Pending_k2 (P : Program) (i6 : Value) (Z : Value → Value → Heap → Prop) (changes4_1 : Value) (h_2 : Heap) : Prop :=
  pBin .add i6 (.int .i64 1) fun t17 =>
  Z changes4_1 t17 h_2

def sh_milestoneref29_Disk_Pending_k5 (P : Program) (i8 : Value) (Z_2 : Value → Value → Heap → Prop) (writes5_2 : Value) (h_6 : Heap) : Prop :=
  pBin .add i8 (.int .i64 1) fun t55 =>
  Z_2 writes5_2 t55 h_6

def sh_milestoneref29_Disk_Pending_k6 (P : Program) (n7 : Value) (Z_1 : Value → Value → Heap → Prop) (writes5_1 : Value) (h_7 : Heap) : Prop :=
  pBin .add n7 (.int .i64 1) fun t37 =>
  Z_1 writes5_1 t37 h_7

def sh_milestoneref29_Disk_Pending_L4 (P : Program) (d0 n7 : Value) (Z_1 : Value → Value → Heap → Prop) (writes5_1 i8 : Value) (h_4 : Heap) (Z_2 : Value → Value → Heap → Prop) : Prop :=
  pNil d0 fun t40 =>
  pField 0 t40 fun t41 =>
  pLoad h_4 t41 fun t42 =>
  pIdx 1 t42 n7 fun t44 =>
  pField 0 t44 fun t45 =>
  pLoad h_4 t45 fun t46 =>
  pLen t46 fun t47 =>
  pBin .lss i8 t47 fun t48 =>
  ifV t48
  (callS P F_milestoneref29_Disk_points [d0, n7] h_4 fun t52 h_5 =>
  ifV t52
  (pNil d0 fun t57 =>
  pField 0 t57 fun t58 =>
  pLoad h_5 t58 fun t59 =>
  pIdx 1 t59 n7 fun t61 =>
  pField 0 t61 fun t62 =>
  pLoad h_5 t62 fun t63 =>
  pIdx 3 t63 i8 fun t65 =>
  pField 2 t65 fun t66 =>
  pLoad h_5 t66 fun t67 =>
  pUn .not t67 fun t68 =>
  ifV t68
  (pBin .add writes5_1 (.int .i64 1) fun t70 =>
  sh_milestoneref29_Disk_Pending_k5 P i8 Z_2 t70 h_5)
  (sh_milestoneref29_Disk_Pending_k5 P i8 Z_2 writes5_1 h_5))
  (sh_milestoneref29_Disk_Pending_k6 P n7 Z_1 writes5_1 h_5))
  (sh_milestoneref29_Disk_Pending_k6 P n7 Z_1 writes5_1 h_4)

def sh_milestoneref29_Disk_Pending_L3 (P : Program) (d0 : Value) (K : Value → Heap → Prop) (changes4 writes5 n7 : Value) (h_3 : Heap) (Z_1 : Value → Value → Heap → Prop) : Prop :=
  pNil d0 fun t31 =>
  pField 0 t31 fun t32 =>
  pLoad h_3 t32 fun t33 =>
  pLen t33 fun t34 =>
  pBin .lss n7 t34 fun t35 =>
  ifV t35
  (LoopH (σ := Vals [5, 8]) (fun x hh ZZ => sh_milestoneref29_Disk_Pending_L4 P d0 n7 Z_1 x.1 x.2.1 hh (fun a0 a1 hz => ZZ (a0, (a1, ())) hz)) (writes5, ((.int .i64 0), ())) h_3)
  (K (.tuple #[changes4, writes5]) h_3)

def sh_milestoneref29_Disk_Pending_L1 (P : Program) (d0 : Value) (K : Value → Heap → Prop) (changes4 i6 : Value) (h_1 : Heap) (Z : Value → Value → Heap → Prop) : Prop :=
  pNil d0 fun t11 =>
  pField 1 t11 fun t12 =>
  pLoad h_1 t12 fun t13 =>
  pLen t13 fun t14 =>
  pBin .lss i6 t14 fun t15 =>
  ifV t15
  (pNil d0 fun t19 =>
  pField 1 t19 fun t20 =>
  pLoad h_1 t20 fun t21 =>
  pIdx 5 t21 i6 fun t23 =>
  pField 4 t23 fun t24 =>
  pLoad h_1 t24 fun t25 =>
  pUn .not t25 fun t26 =>
  ifV t26
  (pBin .add changes4 (.int .i64 1) fun t28 =>
  sh_milestoneref29_Disk_Pending_k2 P i6 Z t28 h_1)
  (sh_milestoneref29_Disk_Pending_k2 P i6 Z changes4 h_1))
  (LoopH (σ := Vals [5, 7]) (fun x hh ZZ => sh_milestoneref29_Disk_Pending_L3 P d0 K changes4 x.1 x.2.1 hh (fun a0 a1 hz => ZZ (a0, (a1, ())) hz)) ((.int .i64 0), ((.int .i64 0), ())) h_1)

def sh_milestoneref29_Disk_Pending (P : Program) (d0 : Value) (h : Heap) (K : Value → Heap → Prop) : Prop :=
  LoopH (σ := Vals [4, 6]) (fun x hh ZZ => sh_milestoneref29_Disk_Pending_L1 P d0 K x.1 x.2.1 hh (fun a0 a1 hz => ZZ (a0, (a1, ())) hz)) ((.int .i64 0), ((.int .i64 0), ())) h

set_option maxRecDepth 100000 in
theorem lk_milestoneref29_Disk_Pending (d0 : Value) {h : Heap} {K : Value → Heap → Prop} (H : sh_milestoneref29_Disk_Pending Tryz.prog d0 h K) : CallsH Tryz.prog F_milestoneref29_Disk_Pending [d0].toArray h K :=
  callsH_of (ann := (annG (Tryz.f40.body.getD .skip) 0 [(4, [4, 6]), (11, [5, 7]), (16, [5, 8])]).1) (c := Tryz.f40.body.getD .skip) Tryz.func40 (by kernel_rfl) (by kernel_rfl) (by kernel_rfl) (of_decide_eq_true (by kernel_rfl))
    (Eq.mpr (by kernel_rfl) H)

/-! (*milestone/milestoneref29.Disk).points -/

def sh_milestoneref29_Disk_points_C2 (P : Program) (K : Value → Heap → Prop) (i5 : Value) (Z : Value → Heap → Prop) (t46 : Value) (h_4 : Heap) : Prop :=
  ifV t46
  (K (.bool true) h_4)
  (pBin .add i5 (.int .i64 1) fun t14 =>
  Z t14 h_4)

def sh_milestoneref29_Disk_points_L1 (P : Program) (d0 n1 : Value) (K : Value → Heap → Prop) (i5 : Value) (h_1 : Heap) (Z : Value → Heap → Prop) : Prop :=
  pNil d0 fun t8 =>
  pField 1 t8 fun t9 =>
  pLoad h_1 t9 fun t10 =>
  pLen t10 fun t11 =>
  pBin .lss i5 t11 fun t12 =>
  ifV t12
  (cutP (σ := Vals [46]) (fun J =>
  pNil d0 fun t16 =>
  pField 1 t16 fun t17 =>
  pLoad h_1 t17 fun t18 =>
  pNil d0 fun t20 =>
  pField 1 t20 fun t21 =>
  pLoad h_1 t21 fun t22 =>
  pIdx 5 t22 i5 fun t24 =>
  pField 2 t24 fun t25 =>
  pLoad h_1 t25 fun t26 =>
  callS P F_milestoneref29_Points [t18, t26] h_1 fun t27 h_2 =>
  pBin .eql t27 n1 fun t29 =>
  ifV t29
  (J ((.bool true), ()) h_2)
  (pNil d0 fun t32 =>
  pField 1 t32 fun t33 =>
  pLoad h_2 t33 fun t34 =>
  pNil d0 fun t36 =>
  pField 1 t36 fun t37 =>
  pLoad h_2 t37 fun t38 =>
  pIdx 5 t38 i5 fun t40 =>
  pField 3 t40 fun t41 =>
  pLoad h_2 t41 fun t42 =>
  callS P F_milestoneref29_Points [t34, t42] h_2 fun t43 h_3 =>
  pBin .eql t43 n1 fun t45 =>
  J (t45, ()) h_3))
  (fun x hh => sh_milestoneref29_Disk_points_C2 P K i5 Z x.1 hh))
  (K (.bool false) h_1)

def sh_milestoneref29_Disk_points (P : Program) (d0 n1 : Value) (h : Heap) (K : Value → Heap → Prop) : Prop :=
  LoopH (σ := Vals [5]) (fun x hh ZZ => sh_milestoneref29_Disk_points_L1 P d0 n1 K x.1 hh (fun a0 hz => ZZ (a0, ()) hz)) ((.int .i64 0), ()) h

set_option maxRecDepth 100000 in
theorem lk_milestoneref29_Disk_points (d0 n1 : Value) {h : Heap} {K : Value → Heap → Prop} (H : sh_milestoneref29_Disk_points Tryz.prog d0 n1 h K) : CallsH Tryz.prog F_milestoneref29_Disk_points [d0, n1].toArray h K :=
  callsH_of (ann := (annG (Tryz.f41.body.getD .skip) 0 [(3, [5]), (7, [46])]).1) (c := Tryz.f41.body.getD .skip) Tryz.func41 (by kernel_rfl) (by kernel_rfl) (by kernel_rfl) (of_decide_eq_true (by kernel_rfl))
    (Eq.mpr (by kernel_rfl) H)

/-! (*milestone/disk.Disk).Read -/

def sh_disk_Disk_Read (P : Program) (d0 name1 : Value) (h : Heap) (K : Value → Heap → Prop) : Prop :=
  pBuildSlice T_string (zerosL [(.string ⟨#[]⟩)] 1) [(0, 1, name1)] 1 h fun t9 h_1 =>
  callS P F_disk_names [t9] h_1 fun t10 h_2 =>
  pBuildSlice T_string (zerosL [(.string ⟨#[]⟩)] 1) [(0, 1, name1)] 1 h_2 fun t12 h_3 =>
  callS P F_disk_Disk_refused [d0, t10, t12] h_3 fun t13 h_4 =>
  pBin .neq t13 (.int .i64 0) fun t15 =>
  ifV t15
  (K (.tuple #[(.string ⟨#[]⟩), t13]) h_4)
  (pNil d0 fun t18 =>
  pField 2 t18 fun t19 =>
  pLoad h_4 t19 fun t20 =>
  pNil d0 fun t22 =>
  pField 1 t22 fun t23 =>
  pLoad h_4 t23 fun t24 =>
  pLook .string (.int .i64 0) false h_4 t24 name1 fun t26 =>
  pLook (.int .i64) (.pointer none) false h_4 t20 t26 fun t27 =>
  callS P F_disk_thing_seen [t27] h_4 fun t28 h_5 =>
  pConvBS h_5 t28 fun t29 =>
  K (.tuple #[t29, (.int .i64 0)]) h_5)

set_option maxRecDepth 100000 in
theorem lk_disk_Disk_Read (d0 name1 : Value) {h : Heap} {K : Value → Heap → Prop} (H : sh_disk_Disk_Read Tryz.prog d0 name1 h K) : CallsH Tryz.prog F_disk_Disk_Read [d0, name1].toArray h K :=
  callsH_of (ann := (annG (Tryz.f42.body.getD .skip) 0 []).1) (c := Tryz.f42.body.getD .skip) Tryz.func42 (by kernel_rfl) (by kernel_rfl) (by kernel_rfl) (of_decide_eq_true (by kernel_rfl))
    (Eq.mpr (by kernel_rfl) H)

/-! (*milestone/milestoneref29.Disk).refused -/

def sh_milestoneref29_Disk_refused_C2 (P : Program) (K : Value → Heap → Prop) (t35 : Value) (h_4 : Heap) : Prop :=
  ifV t35
  (K (.int .i64 21) h_4)
  (K (.int .i64 0) h_4)

def sh_milestoneref29_Disk_refused_L1 (P : Program) (names2 : Value) (K : Value → Heap → Prop) (there1 d0 i7 : Value) (h_1 : Heap) (Z : Value → Heap → Prop) : Prop :=
  pLen names2 fun t14 =>
  pBin .lss i7 t14 fun t15 =>
  ifV t15
  (pIdx 1 names2 i7 fun t20 =>
  pLoad h_1 t20 fun t21 =>
  callS P F_milestoneref29_May [t21] h_1 fun t22 h_2 =>
  pUn .not t22 fun t23 =>
  ifV t23
  (K (.int .i64 2) h_2)
  (pBin .add i7 (.int .i64 1) fun t17 =>
  Z t17 h_2))
  (cutP (σ := Vals [35]) (fun J =>
  ifV there1
  (pNil d0 fun t27 =>
  pField 1 t27 fun t28 =>
  pLoad h_1 t28 fun t29 =>
  pIdx 1 names2 (.int .i64 0) fun t31 =>
  pLoad h_1 t31 fun t32 =>
  callS P F_milestoneref29_Points [t29, t32] h_1 fun t33 h_3 =>
  pBin .lss t33 (.int .i64 0) fun t34 =>
  J (t34, ()) h_3)
  (J ((.bool false), ()) h_1))
  (fun x hh => sh_milestoneref29_Disk_refused_C2 P K x.1 hh))

def sh_milestoneref29_Disk_refused (P : Program) (d0 there1 names2 : Value) (h : Heap) (K : Value → Heap → Prop) : Prop :=
  pNil d0 fun t9 =>
  pField 2 t9 fun t10 =>
  pLoad h t10 fun t11 =>
  ifV t11
  (K (.int .i64 22) h)
  (LoopH (σ := Vals [7]) (fun x hh ZZ => sh_milestoneref29_Disk_refused_L1 P names2 K there1 d0 x.1 hh (fun a0 hz => ZZ (a0, ()) hz)) ((.int .i64 0), ()) h)

set_option maxRecDepth 100000 in
theorem lk_milestoneref29_Disk_refused (d0 there1 names2 : Value) {h : Heap} {K : Value → Heap → Prop} (H : sh_milestoneref29_Disk_refused Tryz.prog d0 there1 names2 h K) : CallsH Tryz.prog F_milestoneref29_Disk_refused [d0, there1, names2].toArray h K :=
  callsH_of (ann := (annG (Tryz.f43.body.getD .skip) 0 [(6, [7]), (13, [35])]).1) (c := Tryz.f43.body.getD .skip) Tryz.func43 (by kernel_rfl) (by kernel_rfl) (by kernel_rfl) (of_decide_eq_true (by kernel_rfl))
    (Eq.mpr (by kernel_rfl) H)

/-! milestone/milestoneref29.Points -/

def sh_milestoneref29_Points_k3 (P : Program) (i5 : Value) (Z : Value → Value → Heap → Prop) (name1_2 : Value) (h_5 : Heap) : Prop :=
  pBin .sub i5 (.int .i64 1) fun t13 =>
  Z name1_2 t13 h_5

def sh_milestoneref29_Points_k4 (P : Program) (x6 name1_1 : Value) (K : Value → Heap → Prop) (i5 : Value) (Z : Value → Value → Heap → Prop) (h_6 : Heap) : Prop :=
  pField 0 x6 fun t43 =>
  pLoad h_6 t43 fun t44 =>
  pBin .gtr t44 (.int .i64 0) fun t45 =>
  ifV t45
  (pField 2 x6 fun t47 =>
  pLoad h_6 t47 fun t48 =>
  pBin .eql t48 name1_1 fun t50 =>
  ifV t50
  (K (.int .i64 (-1)) h_6)
  (sh_milestoneref29_Points_k3 P i5 Z name1_1 h_6))
  (sh_milestoneref29_Points_k3 P i5 Z name1_1 h_6)

def sh_milestoneref29_Points_k2 (P : Program) (x6 name1_1 i5 : Value) (Z : Value → Value → Heap → Prop) (K : Value → Heap → Prop) (h_4 : Heap) : Prop :=
  pField 0 x6 fun t31 =>
  pLoad h_4 t31 fun t32 =>
  pBin .eql t32 (.int .i64 1) fun t33 =>
  ifV t33
  (pField 3 x6 fun t35 =>
  pLoad h_4 t35 fun t36 =>
  pBin .eql t36 name1_1 fun t38 =>
  ifV t38
  (pField 2 x6 fun t40 =>
  pLoad h_4 t40 fun t41 =>
  sh_milestoneref29_Points_k3 P i5 Z t41 h_4)
  (sh_milestoneref29_Points_k4 P x6 name1_1 K i5 Z h_4))
  (sh_milestoneref29_Points_k4 P x6 name1_1 K i5 Z h_4)

def sh_milestoneref29_Points_L1 (P : Program) (l0 : Value) (K : Value → Heap → Prop) (name1_1 i5 : Value) (h_1 : Heap) (Z : Value → Value → Heap → Prop) : Prop :=
  pBin .geq i5 (.int .i64 0) fun t11 =>
  ifV t11
  (pIdx 5 l0 i5 fun t16 =>
  pLoadN 5 h_1 t16 fun t17 =>
  pBox T_milestoneref29_Change (.agg #[(.int .i64 0), (.int .i64 0), (.string ⟨#[]⟩), (.string ⟨#[]⟩), (.bool false)]) h_1 fun x6 h_2 =>
  pStore 5 x6 t17 h_2 fun u h_3 =>
  pField 0 x6 fun t19 =>
  pLoad h_3 t19 fun t20 =>
  pBin .eql t20 (.int .i64 0) fun t21 =>
  ifV t21
  (pField 2 x6 fun t23 =>
  pLoad h_3 t23 fun t24 =>
  pBin .eql t24 name1_1 fun t26 =>
  ifV t26
  (pField 1 x6 fun t28 =>
  pLoad h_3 t28 fun t29 =>
  K t29 h_3)
  (sh_milestoneref29_Points_k2 P x6 name1_1 i5 Z K h_3))
  (sh_milestoneref29_Points_k2 P x6 name1_1 i5 Z K h_3))
  (K (.int .i64 (-1)) h_1)

def sh_milestoneref29_Points (P : Program) (l0 name1 : Value) (h : Heap) (K : Value → Heap → Prop) : Prop :=
  pLen l0 fun t8 =>
  pBin .sub t8 (.int .i64 1) fun t9 =>
  LoopH (σ := Vals [1, 5]) (fun x hh ZZ => sh_milestoneref29_Points_L1 P l0 K x.1 x.2.1 hh (fun a0 a1 hz => ZZ (a0, (a1, ())) hz)) (name1, (t9, ())) h

set_option maxRecDepth 100000 in
theorem lk_milestoneref29_Points (l0 name1 : Value) {h : Heap} {K : Value → Heap → Prop} (H : sh_milestoneref29_Points Tryz.prog l0 name1 h K) : CallsH Tryz.prog F_milestoneref29_Points [l0, name1].toArray h K :=
  callsH_of (ann := (annG (Tryz.f44.body.getD .skip) 0 [(3, [1, 5])]).1) (c := Tryz.f44.body.getD .skip) Tryz.func44 (by kernel_rfl) (by kernel_rfl) (by kernel_rfl) (of_decide_eq_true (by kernel_rfl))
    (Eq.mpr (by kernel_rfl) H)

/-! (milestone/milestoneref29.Thing).Bytes -/

def sh_milestoneref29_Thing_Bytes_L3 (P : Program) (w5 k6 : Value) (Z_1 : Value → Value → Heap → Prop) (out3_2 : Value) (h_6 : Heap) (Z_2 : Value → Heap → Prop) : Prop :=
  pLen out3_2 fun t27 =>
  pField 0 w5 fun t28 =>
  pLoad h_6 t28 fun t29 =>
  pBin .add t29 k6 fun t31 =>
  pBin .leq t27 t31 fun t32 =>
  ifV t32
  (pBuildSlice T_uint8 (zerosL [(.int .u8 0)] 1) [(0, 1, (.int .u8 0))] 1 h_6 fun t34 h_7 =>
  pAppend T_uint8 1 1 [(.int .u8 0)] out3_2 t34 h_7 fun t35 h_8 =>
  Z_2 t35 h_8)
  (pField 0 w5 fun t37 =>
  pLoad h_6 t37 fun t38 =>
  pBin .add t38 k6 fun t40 =>
  pField 1 w5 fun t41 =>
  pLoad h_6 t41 fun t42 =>
  pIdxS t42 k6 fun t44 =>
  pIdx 1 out3_2 t40 fun t45 =>
  pStore 1 t45 t44 h_6 fun u_1 h_9 =>
  pBin .add k6 (.int .i64 1) fun t25 =>
  Z_1 out3_2 t25 h_9)

def sh_milestoneref29_Thing_Bytes_k5 (P : Program) (i4 : Value) (Z : Value → Value → Heap → Prop) (out3_3 : Value) (h_13 : Heap) : Prop :=
  pBin .add i4 (.int .i64 1) fun t13 =>
  Z out3_3 t13 h_13

def sh_milestoneref29_Thing_Bytes_L4 (P : Program) (w5 i4 : Value) (Z : Value → Value → Heap → Prop) (out3_3 : Value) (h_10 : Heap) (Z_3 : Value → Heap → Prop) : Prop :=
  pField 1 w5 fun t46 =>
  pLoad h_10 t46 fun t47 =>
  pLenS t47 fun t48 =>
  pBin .eql t48 (.int .i64 0) fun t49 =>
  ifV t49
  (pLen out3_3 fun t52 =>
  pField 0 w5 fun t53 =>
  pLoad h_10 t53 fun t54 =>
  pBin .lss t52 t54 fun t55 =>
  ifV t55
  (pBuildSlice T_uint8 (zerosL [(.int .u8 0)] 1) [(0, 1, (.int .u8 0))] 1 h_10 fun t58 h_11 =>
  pAppend T_uint8 1 1 [(.int .u8 0)] out3_3 t58 h_11 fun t59 h_12 =>
  Z_3 t59 h_12)
  (sh_milestoneref29_Thing_Bytes_k5 P i4 Z out3_3 h_10))
  (sh_milestoneref29_Thing_Bytes_k5 P i4 Z out3_3 h_10)

def sh_milestoneref29_Thing_Bytes_L2 (P : Program) (w5 i4 : Value) (Z : Value → Value → Heap → Prop) (out3_1 k6 : Value) (h_5 : Heap) (Z_1 : Value → Value → Heap → Prop) : Prop :=
  pField 1 w5 fun t20 =>
  pLoad h_5 t20 fun t21 =>
  pLenS t21 fun t22 =>
  pBin .lss k6 t22 fun t23 =>
  ifV t23
  (LoopH (σ := Vals [3]) (fun x hh ZZ => sh_milestoneref29_Thing_Bytes_L3 P w5 k6 Z_1 x.1 hh (fun a0 hz => ZZ (a0, ()) hz)) (out3_1, ()) h_5)
  (LoopH (σ := Vals [3]) (fun x hh ZZ => sh_milestoneref29_Thing_Bytes_L4 P w5 i4 Z x.1 hh (fun a0 hz => ZZ (a0, ()) hz)) (out3_1, ()) h_5)

def sh_milestoneref29_Thing_Bytes_L1 (P : Program) (t1 : Value) (K : Value → Heap → Prop) (out3 i4 : Value) (h_2 : Heap) (Z : Value → Value → Heap → Prop) : Prop :=
  pField 0 t1 fun t8 =>
  pLoad h_2 t8 fun t9 =>
  pLen t9 fun t10 =>
  pBin .lss i4 t10 fun t11 =>
  ifV t11
  (pField 0 t1 fun t14 =>
  pLoad h_2 t14 fun t15 =>
  pIdx 3 t15 i4 fun t17 =>
  pLoadN 3 h_2 t17 fun t18 =>
  pBox T_milestoneref29_Write (.agg #[(.int .i64 0), (.string ⟨#[]⟩), (.bool false)]) h_2 fun w5 h_3 =>
  pStore 3 w5 t18 h_3 fun u h_4 =>
  LoopH (σ := Vals [3, 6]) (fun x hh ZZ => sh_milestoneref29_Thing_Bytes_L2 P w5 i4 Z x.1 x.2.1 hh (fun a0 a1 hz => ZZ (a0, (a1, ())) hz)) (out3, ((.int .i64 0), ())) h_4)
  (pConvBS h_2 out3 fun t61 =>
  K t61 h_2)

def sh_milestoneref29_Thing_Bytes (P : Program) (t0 : Value) (h : Heap) (K : Value → Heap → Prop) : Prop :=
  pBox T_milestoneref29_Thing t0 h fun t1 h_1 =>
  LoopH (σ := Vals [3, 4]) (fun x hh ZZ => sh_milestoneref29_Thing_Bytes_L1 P t1 K x.1 x.2.1 hh (fun a0 a1 hz => ZZ (a0, (a1, ())) hz)) ((.slice none 0 0), ((.int .i64 0), ())) h_1

set_option maxRecDepth 100000 in
theorem lk_milestoneref29_Thing_Bytes (t0 : Value) {h : Heap} {K : Value → Heap → Prop} (H : sh_milestoneref29_Thing_Bytes Tryz.prog t0 h K) : CallsH Tryz.prog F_milestoneref29_Thing_Bytes [t0].toArray h K :=
  callsH_of (ann := (annG (Tryz.f45.body.getD .skip) 0 [(4, [3, 4]), (11, [3, 6]), (16, [3]), (19, [3])]).1) (c := Tryz.f45.body.getD .skip) Tryz.func45 (by kernel_rfl) (by kernel_rfl) (by kernel_rfl) (of_decide_eq_true (by kernel_rfl))
    (Eq.mpr (by kernel_rfl) H)

/-! slices.Collect[string] -/

def sh_slices_Collect_string (P : Program) (seq0 : Value) (h : Heap) (K : Value → Heap → Prop) : Prop :=
  callS P F_slices_AppendSeq_sl_string_string [(.slice none 0 0), seq0] h fun t4 h_1 =>
  K t4 h_1

set_option maxRecDepth 100000 in
theorem lk_slices_Collect_string (seq0 : Value) {h : Heap} {K : Value → Heap → Prop} (H : sh_slices_Collect_string Tryz.prog seq0 h K) : CallsH Tryz.prog F_slices_Collect_string [seq0].toArray h K :=
  callsH_of (ann := (annG (Tryz.f46.body.getD .skip) 0 []).1) (c := Tryz.f46.body.getD .skip) Tryz.func46 (by kernel_rfl) (by kernel_rfl) (by kernel_rfl) (of_decide_eq_true (by kernel_rfl))
    (Eq.mpr (by kernel_rfl) H)

/-! (milestone/disk.directory).rising -/

def sh_disk_directory_rising (P : Program) (dir0 : Value) (h : Heap) (K : Value → Heap → Prop) : Prop :=
  pBox T_disk_directory dir0 h fun dir1 h_1 =>
  K (.func (.func F_disk_directory_rising_1) #[] #[dir1]) h_1

set_option maxRecDepth 100000 in
theorem lk_disk_directory_rising (dir0 : Value) {h : Heap} {K : Value → Heap → Prop} (H : sh_disk_directory_rising Tryz.prog dir0 h K) : CallsH Tryz.prog F_disk_directory_rising [dir0].toArray h K :=
  callsH_of (ann := (annG (Tryz.f47.body.getD .skip) 0 []).1) (c := Tryz.f47.body.getD .skip) Tryz.func47 (by kernel_rfl) (by kernel_rfl) (by kernel_rfl) (of_decide_eq_true (by kernel_rfl))
    (Eq.mpr (by kernel_rfl) H)

/-! milestone/milestonelaw30.loads -/

def sh_milestonelaw30_loads (P : Program) (d0 s1 e2 : Value) (h : Heap) (K : Value → Heap → Prop) : Prop :=
  callS P F_store_Load [d0] h fun t11 h_1 =>
  pExt t11 0 fun t12 =>
  pExt t11 1 fun t13 =>
  pBin .eql t12 s1 fun t16 =>
  ifV t16
  (pBin .eql t13 e2 fun t20 =>
  K t20 h_1)
  (K (.bool false) h_1)

set_option maxRecDepth 100000 in
theorem lk_milestonelaw30_loads (d0 s1 e2 : Value) {h : Heap} {K : Value → Heap → Prop} (H : sh_milestonelaw30_loads Tryz.prog d0 s1 e2 h K) : CallsH Tryz.prog F_milestonelaw30_loads [d0, s1, e2].toArray h K :=
  callsH_of (ann := (annG (Tryz.f48.body.getD .skip) 0 []).1) (c := Tryz.f48.body.getD .skip) Tryz.func48 (by kernel_rfl) (by kernel_rfl) (by kernel_rfl) (of_decide_eq_true (by kernel_rfl))
    (Eq.mpr (by kernel_rfl) H)

/-! milestone/store.pieces$1 -/

def sh_store_pieces_1_L1 (P : Program) (t1 yield0 : Value) (K : Value → Heap → Prop) (at3 : Value) (h_1 : Heap) (Z : Value → Heap → Prop) : Prop :=
  pLoad h_1 t1 fun t5 =>
  pLenS t5 fun t6 =>
  pBin .lss at3 t6 fun t7 =>
  ifV t7
  (pLoad h_1 t1 fun t12 =>
  pBin .add at3 (.int .i64 64) fun t15 =>
  pLoad h_1 t1 fun t16 =>
  pLenS t16 fun t17 =>
  pMin t15 t17 fun t18 =>
  pSliceS t12 (some at3) (some t18) fun t19 =>
  callV P yield0 [at3, t19].toArray h_1 fun t20 h_2 =>
  pUn .not t20 fun t21 =>
  ifV t21
  (K (.tuple #[]) h_2)
  (pBin .add at3 (.int .i64 64) fun t9 =>
  Z t9 h_2))
  (K (.tuple #[]) h_1)

def sh_store_pieces_1 (P : Program) (yield0 t1 : Value) (h : Heap) (K : Value → Heap → Prop) : Prop :=
  LoopH (σ := Vals [3]) (fun x hh ZZ => sh_store_pieces_1_L1 P t1 yield0 K x.1 hh (fun a0 hz => ZZ (a0, ()) hz)) ((.int .i64 0), ()) h

set_option maxRecDepth 100000 in
theorem lk_store_pieces_1 (yield0 t1 : Value) {h : Heap} {K : Value → Heap → Prop} (H : sh_store_pieces_1 Tryz.prog yield0 t1 h K) : CallsH Tryz.prog F_store_pieces_1 [yield0, t1].toArray h K :=
  callsH_of (ann := (annG (Tryz.f49.body.getD .skip) 0 [(1, [3])]).1) (c := Tryz.f49.body.getD .skip) Tryz.func49 (by kernel_rfl) (by kernel_rfl) (by kernel_rfl) (of_decide_eq_true (by kernel_rfl))
    (Eq.mpr (by kernel_rfl) H)

/-! milestone/disk.names -/

def sh_disk_names (P : Program) (l0 : Value) (h : Heap) (K : Value → Heap → Prop) : Prop :=
  callS P F_slices_ContainsFunc_sl_string_string [l0, (.func (.func F_disk_names_1) #[] #[])] h fun t4 h_1 =>
  ifV t4
  (K (.int .i64 2) h_1)
  (K (.int .i64 0) h_1)

set_option maxRecDepth 100000 in
theorem lk_disk_names (l0 : Value) {h : Heap} {K : Value → Heap → Prop} (H : sh_disk_names Tryz.prog l0 h K) : CallsH Tryz.prog F_disk_names [l0].toArray h K :=
  callsH_of (ann := (annG (Tryz.f50.body.getD .skip) 0 []).1) (c := Tryz.f50.body.getD .skip) Tryz.func50 (by kernel_rfl) (by kernel_rfl) (by kernel_rfl) (of_decide_eq_true (by kernel_rfl))
    (Eq.mpr (by kernel_rfl) H)

/-! (*milestone/disk.Disk).step -/

def sh_disk_Disk_step_k1 (P : Program) (do2 : Value) (K : Value → Heap → Prop) (h_3 : Heap) : Prop :=
  callV P do2 [].toArray h_3 fun t31 h_4 =>
  K (.int .i64 0) h_4

def sh_disk_Disk_step (P : Program) (d0 e1 do2 : Value) (h : Heap) (K : Value → Heap → Prop) : Prop :=
  pBin .neq e1 (.int .i64 0) fun t8 =>
  ifV t8
  (K e1 h)
  (pNil d0 fun t11 =>
  pField 5 t11 fun t12 =>
  pLoad h t12 fun t13 =>
  pBin .gtr t13 (.int .i64 0) fun t14 =>
  ifV t14
  (pNil d0 fun t16 =>
  pField 5 t16 fun t17 =>
  pLoad h t17 fun t18 =>
  pBin .sub t18 (.int .i64 1) fun t19 =>
  pNil d0 fun t20 =>
  pField 5 t20 fun t21 =>
  pStore 1 t21 t19 h fun u h_1 =>
  pNil d0 fun t23 =>
  pField 5 t23 fun t24 =>
  pLoad h_1 t24 fun t25 =>
  pBin .eql t25 (.int .i64 0) fun t26 =>
  ifV t26
  (pNil d0 fun t28 =>
  pField 6 t28 fun t29 =>
  pStore 1 t29 (.bool true) h_1 fun u_1 h_2 =>
  K (.int .i64 22) h_2)
  (sh_disk_Disk_step_k1 P do2 K h_1))
  (sh_disk_Disk_step_k1 P do2 K h))

set_option maxRecDepth 100000 in
theorem lk_disk_Disk_step (d0 e1 do2 : Value) {h : Heap} {K : Value → Heap → Prop} (H : sh_disk_Disk_step Tryz.prog d0 e1 do2 h K) : CallsH Tryz.prog F_disk_Disk_step [d0, e1, do2].toArray h K :=
  callsH_of (ann := (annG (Tryz.f51.body.getD .skip) 0 []).1) (c := Tryz.f51.body.getD .skip) Tryz.func51 (by kernel_rfl) (by kernel_rfl) (by kernel_rfl) (of_decide_eq_true (by kernel_rfl))
    (Eq.mpr (by kernel_rfl) H)

end Go.Proofs.YtleaknaadodjeaaGreat

namespace Go.Proofs.YtleaknaadodjeaaGreat
open Go Go.Mh
set_option maxHeartbeats 0
set_option linter.unusedVariables false

/-! (*milestone/disk.Disk).refused -/

def sh_disk_Disk_refused_L1 (P : Program) (t24 there2 d0 : Value) (K : Value → Heap → Prop) (t25 : Value) (h_1 : Heap) (Z : Value → Heap → Prop) : Prop :=
  pBin .lss t25 t24 fun t26 =>
  ifV t26
  (pIdx 1 there2 t25 fun t27 =>
  pLoad h_1 t27 fun t28 =>
  pNil d0 fun t31 =>
  pField 1 t31 fun t32 =>
  pLoad h_1 t32 fun t33 =>
  pLook .string (.int .i64 0) true h_1 t33 t28 fun t35 =>
  pExt t35 0 fun t36 =>
  pExt t35 1 fun t37 =>
  pUn .not t37 fun t39 =>
  ifV t39
  (K (.int .i64 21) h_1)
  (pBin .add t25 (.int .i64 1) fun t40 =>
  Z t40 h_1))
  (K (.int .i64 0) h_1)

def sh_disk_Disk_refused (P : Program) (d0 e1 there2 : Value) (h : Heap) (K : Value → Heap → Prop) : Prop :=
  pEq false .ptr d0 (.pointer none) fun t13 =>
  ifV t13
  (K (.int .i64 1) h)
  (pNil d0 fun t16 =>
  pField 6 t16 fun t17 =>
  pLoad h t17 fun t18 =>
  ifV t18
  (K (.int .i64 22) h)
  (pBin .neq e1 (.int .i64 0) fun t21 =>
  ifV t21
  (K e1 h)
  (pLen there2 fun t24 =>
  LoopH (σ := Vals [25]) (fun x hh ZZ => sh_disk_Disk_refused_L1 P t24 there2 d0 K x.1 hh (fun a0 hz => ZZ (a0, ()) hz)) ((.int .i64 0), ()) h)))

set_option maxRecDepth 100000 in
theorem lk_disk_Disk_refused (d0 e1 there2 : Value) {h : Heap} {K : Value → Heap → Prop} (H : sh_disk_Disk_refused Tryz.prog d0 e1 there2 h K) : CallsH Tryz.prog F_disk_Disk_refused [d0, e1, there2].toArray h K :=
  callsH_of (ann := (annG (Tryz.f52.body.getD .skip) 0 [(10, [25])]).1) (c := Tryz.f52.body.getD .skip) Tryz.func52 (by kernel_rfl) (by kernel_rfl) (by kernel_rfl) (of_decide_eq_true (by kernel_rfl))
    (Eq.mpr (by kernel_rfl) H)

/-! (*milestone/disk.Disk).Write$1 -/

def sh_disk_Disk_Write_1 (P : Program) (t0 t1 t2 t3 : Value) (h : Heap) (K : Value → Heap → Prop) : Prop :=
  pLoad h t0 fun t5 =>
  pNil t5 fun t6 =>
  pField 2 t6 fun t7 =>
  pLoad h t7 fun t8 =>
  pLoad h t0 fun t9 =>
  pNil t9 fun t10 =>
  pField 1 t10 fun t11 =>
  pLoad h t11 fun t12 =>
  pLoad h t1 fun t13 =>
  pLook .string (.int .i64 0) false h t12 t13 fun t14 =>
  pLook (.int .i64) (.pointer none) false h t8 t14 fun t15 =>
  pNil t15 fun t18 =>
  pField 1 t18 fun t19 =>
  pLoad h t19 fun t20 =>
  pLoad h t2 fun t21 =>
  pLoad h t3 fun t22 =>
  pBuild [(.int .i64 0), (.string ⟨#[]⟩)] [(0, 1, t21), (1, 1, t22)] fun t23 =>
  pBuildSlice T_disk_write (zerosL [(.int .i64 0), (.string ⟨#[]⟩)] 1) [(0, 2, t23)] 1 h fun t24 h_1 =>
  pAppend T_disk_write 2 24 [(.int .i64 0), (.string ⟨#[]⟩)] t20 t24 h_1 fun t25 h_2 =>
  pNil t15 fun t26 =>
  pField 1 t26 fun t27 =>
  pStore 1 t27 t25 h_2 fun u h_3 =>
  K (.tuple #[]) h_3

set_option maxRecDepth 100000 in
theorem lk_disk_Disk_Write_1 (t0 t1 t2 t3 : Value) {h : Heap} {K : Value → Heap → Prop} (H : sh_disk_Disk_Write_1 Tryz.prog t0 t1 t2 t3 h K) : CallsH Tryz.prog F_disk_Disk_Write_1 [t0, t1, t2, t3].toArray h K :=
  callsH_of (ann := (annG (Tryz.f53.body.getD .skip) 0 []).1) (c := Tryz.f53.body.getD .skip) Tryz.func53 (by kernel_rfl) (by kernel_rfl) (by kernel_rfl) (of_decide_eq_true (by kernel_rfl))
    (Eq.mpr (by kernel_rfl) H)

/-! (*milestone/disk.Disk).change -/

def sh_disk_Disk_change (P : Program) (d0 e1 c2 : Value) (h : Heap) (K : Value → Heap → Prop) : Prop :=
  pBox T_p_disk_Disk d0 h fun d3 h_1 =>
  pBox T_func_disk_change c2 h_1 fun c5 h_2 =>
  pLoad h_2 d3 fun t7 =>
  callS P F_disk_Disk_step [t7, e1, (.func (.func F_disk_Disk_change_1) #[] #[c5, d3])] h_2 fun t10 h_3 =>
  K t10 h_3

set_option maxRecDepth 100000 in
theorem lk_disk_Disk_change (d0 e1 c2 : Value) {h : Heap} {K : Value → Heap → Prop} (H : sh_disk_Disk_change Tryz.prog d0 e1 c2 h K) : CallsH Tryz.prog F_disk_Disk_change [d0, e1, c2].toArray h K :=
  callsH_of (ann := (annG (Tryz.f54.body.getD .skip) 0 []).1) (c := Tryz.f54.body.getD .skip) Tryz.func54 (by kernel_rfl) (by kernel_rfl) (by kernel_rfl) (of_decide_eq_true (by kernel_rfl))
    (Eq.mpr (by kernel_rfl) H)

/-! (*milestone/disk.Disk).Make$1 -/

def sh_disk_Disk_Make_1 (P : Program) (t0 t1 : Value) (h : Heap) (K : Value → Heap → Prop) : Prop :=
  pBox T_disk_change (.agg #[.nilFunc]) h fun t2 h_1 =>
  pLoad h_1 t0 fun t4 =>
  pNil t4 fun t5 =>
  pField 4 t5 fun t6 =>
  pLoad h_1 t6 fun t7 =>
  pBox T_int (.int .i64 0) h_1 fun n3 h_2 =>
  pStore 1 n3 t7 h_2 fun u h_3 =>
  pLoad h_3 t0 fun t8 =>
  pNil t8 fun t9 =>
  pField 4 t9 fun t10 =>
  pLoad h_3 t10 fun t11 =>
  pBin .add t11 (.int .i64 1) fun t12 =>
  pNil t8 fun t13 =>
  pField 4 t13 fun t14 =>
  pStore 1 t14 t12 h_3 fun u_1 h_4 =>
  pLoad h_4 t0 fun t15 =>
  pNil t15 fun t16 =>
  pField 2 t16 fun t17 =>
  pLoad h_4 t17 fun t18 =>
  pLoad h_4 n3 fun t19 =>
  pBuild [(.slice none 0 0), (.slice none 0 0)] [] fun t20 =>
  pBox T_disk_thing t20 h_4 fun t21 h_5 =>
  pMapSet (.int .i64) t18 t19 t21 h_5 fun u_2 h_6 =>
  pBuild [.nilFunc] [(0, 1, (.func (.func F_disk_Disk_Make_1_1) #[] #[n3, t1]))] fun t23 =>
  pStore 1 t2 t23 h_6 fun u_3 h_7 =>
  pLoadN 1 h_7 t2 fun res =>
  K res h_7

set_option maxRecDepth 100000 in
theorem lk_disk_Disk_Make_1 (t0 t1 : Value) {h : Heap} {K : Value → Heap → Prop} (H : sh_disk_Disk_Make_1 Tryz.prog t0 t1 h K) : CallsH Tryz.prog F_disk_Disk_Make_1 [t0, t1].toArray h K :=
  callsH_of (ann := (annG (Tryz.f55.body.getD .skip) 0 []).1) (c := Tryz.f55.body.getD .skip) Tryz.func55 (by kernel_rfl) (by kernel_rfl) (by kernel_rfl) (of_decide_eq_true (by kernel_rfl))
    (Eq.mpr (by kernel_rfl) H)

/-! (*milestone/disk.Disk).Make$1$1 -/

def sh_disk_Disk_Make_1_1 (P : Program) (dir0 t1 t2 : Value) (h : Heap) (K : Value → Heap → Prop) : Prop :=
  pLoad h t2 fun t5 =>
  pLoad h t1 fun t6 =>
  pMapSet .string dir0 t5 t6 h fun u h_1 =>
  K (.tuple #[]) h_1

set_option maxRecDepth 100000 in
theorem lk_disk_Disk_Make_1_1 (dir0 t1 t2 : Value) {h : Heap} {K : Value → Heap → Prop} (H : sh_disk_Disk_Make_1_1 Tryz.prog dir0 t1 t2 h K) : CallsH Tryz.prog F_disk_Disk_Make_1_1 [dir0, t1, t2].toArray h K :=
  callsH_of (ann := (annG (Tryz.f56.body.getD .skip) 0 []).1) (c := Tryz.f56.body.getD .skip) Tryz.func56 (by kernel_rfl) (by kernel_rfl) (by kernel_rfl) (of_decide_eq_true (by kernel_rfl))
    (Eq.mpr (by kernel_rfl) H)

/-! (*milestone/disk.Disk).Sync$1 -/

def sh_disk_Disk_Sync_1 (P : Program) (t0 t1 : Value) (h : Heap) (K : Value → Heap → Prop) : Prop :=
  pLoad h t0 fun t3 =>
  pNil t3 fun t4 =>
  pField 2 t4 fun t5 =>
  pLoad h t5 fun t6 =>
  pLoad h t0 fun t7 =>
  pNil t7 fun t8 =>
  pField 1 t8 fun t9 =>
  pLoad h t9 fun t10 =>
  pLoad h t1 fun t11 =>
  pLook .string (.int .i64 0) false h t10 t11 fun t12 =>
  pLook (.int .i64) (.pointer none) false h t6 t12 fun t13 =>
  callS P F_disk_thing_seen [t13] h fun t17 h_1 =>
  pNil t13 fun t18 =>
  pField 0 t18 fun t19 =>
  pStore 1 t19 t17 h_1 fun u h_2 =>
  pNil t13 fun t20 =>
  pField 1 t20 fun t21 =>
  pStore 1 t21 (.slice none 0 0) h_2 fun u_1 h_3 =>
  K (.tuple #[]) h_3

set_option maxRecDepth 100000 in
theorem lk_disk_Disk_Sync_1 (t0 t1 : Value) {h : Heap} {K : Value → Heap → Prop} (H : sh_disk_Disk_Sync_1 Tryz.prog t0 t1 h K) : CallsH Tryz.prog F_disk_Disk_Sync_1 [t0, t1].toArray h K :=
  callsH_of (ann := (annG (Tryz.f57.body.getD .skip) 0 []).1) (c := Tryz.f57.body.getD .skip) Tryz.func57 (by kernel_rfl) (by kernel_rfl) (by kernel_rfl) (of_decide_eq_true (by kernel_rfl))
    (Eq.mpr (by kernel_rfl) H)

/-! (*milestone/disk.thing).seen -/

def sh_disk_thing_seen_L1 (P : Program) (t15 t14 : Value) (K : Value → Heap → Prop) (b3 t16 : Value) (h_2 : Heap) (Z : Value → Value → Heap → Prop) : Prop :=
  pBin .lss t16 t15 fun t17 =>
  ifV t17
  (pIdx 2 t14 t16 fun t18 =>
  pLoadN 2 h_2 t18 fun t19 =>
  pBox T_disk_write (.agg #[(.int .i64 0), (.string ⟨#[]⟩)]) h_2 fun w5 h_3 =>
  pStore 2 w5 t19 h_3 fun u h_4 =>
  pLoadN 2 h_4 w5 fun t21 =>
  callS P F_disk_put [b3, t21] h_4 fun t22 h_5 =>
  pBin .add t16 (.int .i64 1) fun t23 =>
  Z t22 t23 h_5)
  (K b3 h_2)

def sh_disk_thing_seen (P : Program) (t0 : Value) (h : Heap) (K : Value → Heap → Prop) : Prop :=
  pNil t0 fun t7 =>
  pField 0 t7 fun t8 =>
  pLoad h t8 fun t9 =>
  callS P F_slices_Clone_sl_byte_byte [t9] h fun t10 h_1 =>
  pNil t0 fun t12 =>
  pField 1 t12 fun t13 =>
  pLoad h_1 t13 fun t14 =>
  pLen t14 fun t15 =>
  LoopH (σ := Vals [3, 16]) (fun x hh ZZ => sh_disk_thing_seen_L1 P t15 t14 K x.1 x.2.1 hh (fun a0 a1 hz => ZZ (a0, (a1, ())) hz)) (t10, ((.int .i64 0), ())) h_1

set_option maxRecDepth 100000 in
theorem lk_disk_thing_seen (t0 : Value) {h : Heap} {K : Value → Heap → Prop} (H : sh_disk_thing_seen Tryz.prog t0 h K) : CallsH Tryz.prog F_disk_thing_seen [t0].toArray h K :=
  callsH_of (ann := (annG (Tryz.f58.body.getD .skip) 0 [(4, [3, 16])]).1) (c := Tryz.f58.body.getD .skip) Tryz.func58 (by kernel_rfl) (by kernel_rfl) (by kernel_rfl) (of_decide_eq_true (by kernel_rfl))
    (Eq.mpr (by kernel_rfl) H)

/-! (*milestone/disk.Disk).Rename$1 -/

def sh_disk_Disk_Rename_1 (P : Program) (t0 t1 : Value) (h : Heap) (K : Value → Heap → Prop) : Prop :=
  pBox T_disk_change (.agg #[.nilFunc]) h fun t2 h_1 =>
  pBuild [.nilFunc] [(0, 1, (.func (.func F_disk_Disk_Rename_1_1) #[] #[t0, t1]))] fun t4 =>
  pStore 1 t2 t4 h_1 fun u h_2 =>
  pLoadN 1 h_2 t2 fun res =>
  K res h_2

set_option maxRecDepth 100000 in
theorem lk_disk_Disk_Rename_1 (t0 t1 : Value) {h : Heap} {K : Value → Heap → Prop} (H : sh_disk_Disk_Rename_1 Tryz.prog t0 t1 h K) : CallsH Tryz.prog F_disk_Disk_Rename_1 [t0, t1].toArray h K :=
  callsH_of (ann := (annG (Tryz.f59.body.getD .skip) 0 []).1) (c := Tryz.f59.body.getD .skip) Tryz.func59 (by kernel_rfl) (by kernel_rfl) (by kernel_rfl) (of_decide_eq_true (by kernel_rfl))
    (Eq.mpr (by kernel_rfl) H)

/-! (*milestone/disk.Disk).Rename$1$1 -/

def sh_disk_Disk_Rename_1_1 (P : Program) (dir0 t1 t2 : Value) (h : Heap) (K : Value → Heap → Prop) : Prop :=
  pLoad h t1 fun t6 =>
  pLook .string (.int .i64 0) false h dir0 t6 fun t7 =>
  pLoad h t1 fun t9 =>
  pDelete .string dir0 t9 h fun u h_1 =>
  pLoad h_1 t2 fun t11 =>
  pMapSet .string dir0 t11 t7 h_1 fun u_1 h_2 =>
  K (.tuple #[]) h_2

set_option maxRecDepth 100000 in
theorem lk_disk_Disk_Rename_1_1 (dir0 t1 t2 : Value) {h : Heap} {K : Value → Heap → Prop} (H : sh_disk_Disk_Rename_1_1 Tryz.prog dir0 t1 t2 h K) : CallsH Tryz.prog F_disk_Disk_Rename_1_1 [dir0, t1, t2].toArray h K :=
  callsH_of (ann := (annG (Tryz.f60.body.getD .skip) 0 []).1) (c := Tryz.f60.body.getD .skip) Tryz.func60 (by kernel_rfl) (by kernel_rfl) (by kernel_rfl) (of_decide_eq_true (by kernel_rfl))
    (Eq.mpr (by kernel_rfl) H)

/-! (*milestone/disk.Disk).SyncDir$1 -/

def sh_disk_Disk_SyncDir_1 (P : Program) (t0 : Value) (h : Heap) (K : Value → Heap → Prop) : Prop :=
  pLoad h t0 fun t1 =>
  pLoad h t0 fun t2 =>
  pLoad h t0 fun t3 =>
  pNil t3 fun t4 =>
  pField 1 t4 fun t5 =>
  pLoad h t5 fun t6 =>
  callS P F_maps_Clone_disk_directory_string_int [t6] h fun t7 h_1 =>
  (pLoad h_1 t0 fun t1_1 =>
  t1_1 = t1) ∧
  (pLoad h_1 t0 fun t2_1 =>
  t2_1 = t2) ∧
  (pNil t1 fun t8 =>
  pField 0 t8 fun t9 =>
  pStore 1 t9 t7 h_1 fun u h_2 =>
  (pLoad h_2 t0 fun t2_2 =>
  t2_2 = t2) ∧
  (pNil t2 fun t10 =>
  pField 3 t10 fun t11 =>
  pStore 1 t11 (.slice none 0 0) h_2 fun u_1 h_3 =>
  K (.tuple #[]) h_3))

set_option maxRecDepth 100000 in
theorem lk_disk_Disk_SyncDir_1 (t0 : Value) {h : Heap} {K : Value → Heap → Prop} (H : sh_disk_Disk_SyncDir_1 Tryz.prog t0 h K) : CallsH Tryz.prog F_disk_Disk_SyncDir_1 [t0].toArray h K :=
  callsH_of (ann := (annG (Tryz.f61.body.getD .skip) 0 []).1) (c := Tryz.f61.body.getD .skip) Tryz.func61 (by kernel_rfl) (by kernel_rfl) (by kernel_rfl) (of_decide_eq_true (by kernel_rfl))
    (Eq.mpr (by kernel_rfl) H)

/-! (*milestone/milestoneref29.Disk).change -/

def sh_milestoneref29_Disk_change_k2 (P : Program) (K : Value → Heap → Prop) (e9 : Value) (h_10 : Heap) : Prop :=
  K e9 h_10

def sh_milestoneref29_Disk_change_k1 (P : Program) (d0 x6 : Value) (K : Value → Heap → Prop) (e9 : Value) (h_4 : Heap) : Prop :=
  pBin .eql e9 (.int .i64 0) fun t19 =>
  ifV t19
  (pNil d0 fun t23 =>
  pField 1 t23 fun t24 =>
  pLoad h_4 t24 fun t25 =>
  pLoadN 5 h_4 x6 fun t27 =>
  (pBuildSlice T_milestoneref29_Change (zerosL [(.int .i64 0), (.int .i64 0), (.string ⟨#[]⟩), (.string ⟨#[]⟩), (.bool false)] 0) [] 0 h_4 fun t21 h_5 =>
  (pAppend T_milestoneref29_Change 5 56 [(.int .i64 0), (.int .i64 0), (.string ⟨#[]⟩), (.string ⟨#[]⟩), (.bool false)] t21 t25 h_5 fun t26 h_6 =>
  (pLoadN 5 h_6 x6 fun t27_1 =>
  t27_1 = t27) ∧
  (pBuildSlice T_milestoneref29_Change (zerosL [(.int .i64 0), (.int .i64 0), (.string ⟨#[]⟩), (.string ⟨#[]⟩), (.bool false)] 1) [(0, 5, t27)] 1 h_6 fun t28 h_7 =>
  pAppend T_milestoneref29_Change 5 56 [(.int .i64 0), (.int .i64 0), (.string ⟨#[]⟩), (.string ⟨#[]⟩), (.bool false)] t26 t28 h_7 fun t29 h_8 =>
  pNil d0 fun t30 =>
  pField 1 t30 fun t31 =>
  pStore 1 t31 t29 h_8 fun u h_9 =>
  sh_milestoneref29_Disk_change_k2 P K e9 h_9)) ∧
  (pBuildSlice T_milestoneref29_Change (zerosL [(.int .i64 0), (.int .i64 0), (.string ⟨#[]⟩), (.string ⟨#[]⟩), (.bool false)] 1) [(0, 5, t27)] 1 h_5 fun t28_1 h_11 =>
  pAppend T_milestoneref29_Change 5 56 [(.int .i64 0), (.int .i64 0), (.string ⟨#[]⟩), (.string ⟨#[]⟩), (.bool false)] t21 t25 h_11 fun t26_1 h_12 =>
  pAppend T_milestoneref29_Change 5 56 [(.int .i64 0), (.int .i64 0), (.string ⟨#[]⟩), (.string ⟨#[]⟩), (.bool false)] t26_1 t28_1 h_12 fun t29_1 h_13 =>
  pNil d0 fun t30_1 =>
  pField 1 t30_1 fun t31_1 =>
  pStore 1 t31_1 t29_1 h_13 fun u_1 h_14 =>
  sh_milestoneref29_Disk_change_k2 P K e9 h_14)) ∧
  (pBuildSlice T_milestoneref29_Change (zerosL [(.int .i64 0), (.int .i64 0), (.string ⟨#[]⟩), (.string ⟨#[]⟩), (.bool false)] 1) [(0, 5, t27)] 1 h_4 fun t28_2 h_15 =>
  pBuildSlice T_milestoneref29_Change (zerosL [(.int .i64 0), (.int .i64 0), (.string ⟨#[]⟩), (.string ⟨#[]⟩), (.bool false)] 0) [] 0 h_15 fun t21_1 h_16 =>
  pAppend T_milestoneref29_Change 5 56 [(.int .i64 0), (.int .i64 0), (.string ⟨#[]⟩), (.string ⟨#[]⟩), (.bool false)] t21_1 t25 h_16 fun t26_2 h_17 =>
  pAppend T_milestoneref29_Change 5 56 [(.int .i64 0), (.int .i64 0), (.string ⟨#[]⟩), (.string ⟨#[]⟩), (.bool false)] t26_2 t28_2 h_17 fun t29_2 h_18 =>
  pNil d0 fun t30_2 =>
  pField 1 t30_2 fun t31_2 =>
  pStore 1 t31_2 t29_2 h_18 fun u_2 h_19 =>
  sh_milestoneref29_Disk_change_k2 P K e9 h_19))
  (sh_milestoneref29_Disk_change_k2 P K e9 h_4)

def sh_milestoneref29_Disk_change (P : Program) (d0 there1 x2 names3 : Value) (h : Heap) (K : Value → Heap → Prop) : Prop :=
  pBox T_milestoneref29_Change x2 h fun x6 h_1 =>
  callS P F_milestoneref29_Disk_refused [d0, there1, names3] h_1 fun t13 h_2 =>
  pBin .eql t13 (.int .i64 0) fun t15 =>
  ifV t15
  (callS P F_milestoneref29_Disk_step [d0] h_2 fun t17 h_3 =>
  sh_milestoneref29_Disk_change_k1 P d0 x6 K t17 h_3)
  (sh_milestoneref29_Disk_change_k1 P d0 x6 K t13 h_2)

set_option maxRecDepth 100000 in
theorem lk_milestoneref29_Disk_change (d0 there1 x2 names3 : Value) {h : Heap} {K : Value → Heap → Prop} (H : sh_milestoneref29_Disk_change Tryz.prog d0 there1 x2 names3 h K) : CallsH Tryz.prog F_milestoneref29_Disk_change [d0, there1, x2, names3].toArray h K :=
  callsH_of (ann := (annG (Tryz.f62.body.getD .skip) 0 []).1) (c := Tryz.f62.body.getD .skip) Tryz.func62 (by kernel_rfl) (by kernel_rfl) (by kernel_rfl) (of_decide_eq_true (by kernel_rfl))
    (Eq.mpr (by kernel_rfl) H)

/-! milestone/milestoneref29.May -/

def sh_milestoneref29_May (P : Program) (name0 : Value) (h : Heap) (K : Value → Heap → Prop) : Prop :=
  pLenS name0 fun t4 =>
  pBin .geq t4 (.int .i64 1) fun t5 =>
  ifV t5
  (pLenS name0 fun t8 =>
  pBin .leq t8 (.int .i64 16) fun t9 =>
  K t9 h)
  (K (.bool false) h)

set_option maxRecDepth 100000 in
theorem lk_milestoneref29_May (name0 : Value) {h : Heap} {K : Value → Heap → Prop} (H : sh_milestoneref29_May Tryz.prog name0 h K) : CallsH Tryz.prog F_milestoneref29_May [name0].toArray h K :=
  callsH_of (ann := (annG (Tryz.f63.body.getD .skip) 0 []).1) (c := Tryz.f63.body.getD .skip) Tryz.func63 (by kernel_rfl) (by kernel_rfl) (by kernel_rfl) (of_decide_eq_true (by kernel_rfl))
    (Eq.mpr (by kernel_rfl) H)

/-! (*milestone/milestoneref29.Disk).step -/

def sh_milestoneref29_Disk_step_k1 (P : Program) (K : Value → Heap → Prop) (h_3 : Heap) : Prop :=
  K (.int .i64 0) h_3

def sh_milestoneref29_Disk_step (P : Program) (d0 : Value) (h : Heap) (K : Value → Heap → Prop) : Prop :=
  pNil d0 fun t4 =>
  pField 3 t4 fun t5 =>
  pLoad h t5 fun t6 =>
  pBin .gtr t6 (.int .i64 0) fun t7 =>
  ifV t7
  (pNil d0 fun t9 =>
  pField 3 t9 fun t10 =>
  pLoad h t10 fun t11 =>
  pBin .sub t11 (.int .i64 1) fun t12 =>
  pNil d0 fun t13 =>
  pField 3 t13 fun t14 =>
  pStore 1 t14 t12 h fun u h_1 =>
  pNil d0 fun t16 =>
  pField 3 t16 fun t17 =>
  pLoad h_1 t17 fun t18 =>
  pBin .eql t18 (.int .i64 0) fun t19 =>
  ifV t19
  (pNil d0 fun t21 =>
  pField 2 t21 fun t22 =>
  pStore 1 t22 (.bool true) h_1 fun u_1 h_2 =>
  K (.int .i64 22) h_2)
  (sh_milestoneref29_Disk_step_k1 P K h_1))
  (sh_milestoneref29_Disk_step_k1 P K h)

set_option maxRecDepth 100000 in
theorem lk_milestoneref29_Disk_step (d0 : Value) {h : Heap} {K : Value → Heap → Prop} (H : sh_milestoneref29_Disk_step Tryz.prog d0 h K) : CallsH Tryz.prog F_milestoneref29_Disk_step [d0].toArray h K :=
  callsH_of (ann := (annG (Tryz.f64.body.getD .skip) 0 []).1) (c := Tryz.f64.body.getD .skip) Tryz.func64 (by kernel_rfl) (by kernel_rfl) (by kernel_rfl) (of_decide_eq_true (by kernel_rfl))
    (Eq.mpr (by kernel_rfl) H)

/-! (*milestone/disk.Disk).named$1 -/

def sh_disk_Disk_named_1_L1 (P : Program) (t12 t11 t1 yield0 : Value) (K : Value → Heap → Prop) (t13 : Value) (h_4 : Heap) (Z : Value → Heap → Prop) : Prop :=
  pBin .lss t13 t12 fun t14 =>
  ifV t14
  (pIdx 1 t11 t13 fun t15 =>
  pLoad h_4 t15 fun t16 =>
  pLoad h_4 t1 fun t19 =>
  pNil t19 fun t20 =>
  pField 2 t20 fun t21 =>
  pLoad h_4 t21 fun t22 =>
  pLook (.int .i64) (.pointer none) false h_4 t22 t16 fun t24 =>
  callV P yield0 [t16, t24].toArray h_4 fun t25 h_5 =>
  pUn .not t25 fun t26 =>
  ifV t26
  (K (.tuple #[]) h_5)
  (pBin .add t13 (.int .i64 1) fun t27 =>
  Z t27 h_5))
  (K (.tuple #[]) h_4)

def sh_disk_Disk_named_1 (P : Program) (yield0 t1 : Value) (h : Heap) (K : Value → Heap → Prop) : Prop :=
  pLoad h t1 fun t5 =>
  pNil t5 fun t6 =>
  pField 1 t6 fun t7 =>
  pLoad h t7 fun t8 =>
  callS P F_maps_Values_disk_directory_string_int [t8] h fun t9 h_1 =>
  callS P F_slices_Sorted_int [t9] h_1 fun t10 h_2 =>
  callS P F_slices_Compact_sl_int_int [t10] h_2 fun t11 h_3 =>
  pLen t11 fun t12 =>
  LoopH (σ := Vals [13]) (fun x hh ZZ => sh_disk_Disk_named_1_L1 P t12 t11 t1 yield0 K x.1 hh (fun a0 hz => ZZ (a0, ()) hz)) ((.int .i64 0), ()) h_3

set_option maxRecDepth 100000 in
theorem lk_disk_Disk_named_1 (yield0 t1 : Value) {h : Heap} {K : Value → Heap → Prop} (H : sh_disk_Disk_named_1 Tryz.prog yield0 t1 h K) : CallsH Tryz.prog F_disk_Disk_named_1 [yield0, t1].toArray h K :=
  callsH_of (ann := (annG (Tryz.f66.body.getD .skip) 0 [(1, [13])]).1) (c := Tryz.f66.body.getD .skip) Tryz.func66 (by kernel_rfl) (by kernel_rfl) (by kernel_rfl) (of_decide_eq_true (by kernel_rfl))
    (Eq.mpr (by kernel_rfl) H)

/-! slices.Compact[[]int,int] -/

def sh_slices_Compact_sl_int_int_k3 (P : Program) (k25 : Value) (Z_1 : Value → Value → Heap → Prop) (k3_2 : Value) (h_4 : Heap) : Prop :=
  pBin .add k25 (.int .i64 1) fun t34 =>
  Z_1 k3_2 t34 h_4

def sh_slices_Compact_sl_int_int_L2 (P : Program) (t28 s0 : Value) (K : Value → Heap → Prop) (k3_1 k25 : Value) (h_2 : Heap) (Z_1 : Value → Value → Heap → Prop) : Prop :=
  pLen t28 fun t31 =>
  pBin .lss k25 t31 fun t32 =>
  ifV t32
  (pIdx 1 t28 k25 fun t37 =>
  pLoad h_2 t37 fun t38 =>
  pBin .sub k25 (.int .i64 1) fun t41 =>
  pIdx 1 t28 t41 fun t42 =>
  pLoad h_2 t42 fun t43 =>
  pBin .neq t38 t43 fun t44 =>
  ifV t44
  (pIdx 1 t28 k25 fun t49 =>
  pLoad h_2 t49 fun t50 =>
  pIdx 1 s0 k3_1 fun t51 =>
  pStore 1 t51 t50 h_2 fun u h_3 =>
  pBin .add k3_1 (.int .i64 1) fun t53 =>
  sh_slices_Compact_sl_int_int_k3 P k25 Z_1 t53 h_3)
  (sh_slices_Compact_sl_int_int_k3 P k25 Z_1 k3_1 h_2))
  (pSlice 1 s0 (some k3_1) none none fun t56 =>
  pClear [(.int .i64 0)] t56 h_2 fun u_1 h_5 =>
  pSlice 1 s0 none (some k3_1) none fun t59 =>
  K t59 h_5)

def sh_slices_Compact_sl_int_int_L1 (P : Program) (s0 : Value) (K : Value → Heap → Prop) (k3 : Value) (h_1 : Heap) (Z : Value → Heap → Prop) : Prop :=
  pLen s0 fun t12 =>
  pBin .lss k3 t12 fun t13 =>
  ifV t13
  (pIdx 1 s0 k3 fun t18 =>
  pLoad h_1 t18 fun t19 =>
  pBin .sub k3 (.int .i64 1) fun t22 =>
  pIdx 1 s0 t22 fun t23 =>
  pLoad h_1 t23 fun t24 =>
  pBin .eql t19 t24 fun t25 =>
  ifV t25
  (pSlice 1 s0 (some k3) none none fun t28 =>
  LoopH (σ := Vals [3, 5]) (fun x hh ZZ => sh_slices_Compact_sl_int_int_L2 P t28 s0 K x.1 x.2.1 hh (fun a0 a1 hz => ZZ (a0, (a1, ())) hz)) (k3, ((.int .i64 1), ())) h_1)
  (pBin .add k3 (.int .i64 1) fun t15 =>
  Z t15 h_1))
  (K s0 h_1)

def sh_slices_Compact_sl_int_int (P : Program) (s0 : Value) (h : Heap) (K : Value → Heap → Prop) : Prop :=
  pLen s0 fun t7 =>
  pBin .lss t7 (.int .i64 2) fun t8 =>
  ifV t8
  (K s0 h)
  (LoopH (σ := Vals [3]) (fun x hh ZZ => sh_slices_Compact_sl_int_int_L1 P s0 K x.1 hh (fun a0 hz => ZZ (a0, ()) hz)) ((.int .i64 1), ()) h)

set_option maxRecDepth 100000 in
theorem lk_slices_Compact_sl_int_int (s0 : Value) {h : Heap} {K : Value → Heap → Prop} (H : sh_slices_Compact_sl_int_int Tryz.prog s0 h K) : CallsH Tryz.prog F_slices_Compact_sl_int_int [s0].toArray h K :=
  callsH_of (ann := (annG (Tryz.f67.body.getD .skip) 0 [(6, [3]), (14, [3, 5])]).1) (c := Tryz.f67.body.getD .skip) Tryz.func67 (by kernel_rfl) (by kernel_rfl) (by kernel_rfl) (of_decide_eq_true (by kernel_rfl))
    (Eq.mpr (by kernel_rfl) H)

/-! slices.Sorted[int] -/

def sh_slices_Sorted_int (P : Program) (seq0 : Value) (h : Heap) (K : Value → Heap → Prop) : Prop :=
  callS P F_slices_Collect_int [seq0] h fun t5 h_1 =>
  callS P F_slices_Sort_sl_int_int [t5] h_1 fun t7 h_2 =>
  K t5 h_2

set_option maxRecDepth 100000 in
theorem lk_slices_Sorted_int (seq0 : Value) {h : Heap} {K : Value → Heap → Prop} (H : sh_slices_Sorted_int Tryz.prog seq0 h K) : CallsH Tryz.prog F_slices_Sorted_int [seq0].toArray h K :=
  callsH_of (ann := (annG (Tryz.f68.body.getD .skip) 0 []).1) (c := Tryz.f68.body.getD .skip) Tryz.func68 (by kernel_rfl) (by kernel_rfl) (by kernel_rfl) (of_decide_eq_true (by kernel_rfl))
    (Eq.mpr (by kernel_rfl) H)

/-! maps.Values[milestone/disk.directory,string,int] -/

def sh_maps_Values_disk_directory_string_int (P : Program) (m0 : Value) (h : Heap) (K : Value → Heap → Prop) : Prop :=
  pBox T_disk_directory m0 h fun m1 h_1 =>
  K (.func (.func F_maps_Values_disk_directory_string_int_1) #[] #[m1]) h_1

set_option maxRecDepth 100000 in
theorem lk_maps_Values_disk_directory_string_int (m0 : Value) {h : Heap} {K : Value → Heap → Prop} (H : sh_maps_Values_disk_directory_string_int Tryz.prog m0 h K) : CallsH Tryz.prog F_maps_Values_disk_directory_string_int [m0].toArray h K :=
  callsH_of (ann := (annG (Tryz.f69.body.getD .skip) 0 []).1) (c := Tryz.f69.body.getD .skip) Tryz.func69 (by kernel_rfl) (by kernel_rfl) (by kernel_rfl) (of_decide_eq_true (by kernel_rfl))
    (Eq.mpr (by kernel_rfl) H)

/-! slices.AppendSeq[[]string,string] -/

def sh_slices_AppendSeq_sl_string_string_B1 (P : Program) (h_1 : Heap) (s2 : Value) (L : Loop) (t7 : Value) (h_2 : Heap) (R : Exit → Heap → Prop) : Prop :=
  beginR (h_1.size + 1) L h_2 fun h_3 =>
  pLoad h_3 s2 fun t8 =>
  pBuildSlice T_string (zerosL [(.string ⟨#[]⟩)] 1) [(0, 1, t7)] 1 h_3 fun t10 h_4 =>
  pAppend T_string 1 16 [(.string ⟨#[]⟩)] t8 t10 h_4 fun t11 h_5 =>
  pStore 1 s2 t11 h_5 fun u h_6 =>
  R .normal h_6

def sh_slices_AppendSeq_sl_string_string (P : Program) (s0 seq1 : Value) (h : Heap) (K : Value → Heap → Prop) : Prop :=
  pBox T_sl_string s0 h fun s2 h_1 =>
  rangeH P seq1 [7] (h_1.size + 1) (h_1.push (.deferred (some []))) (fun L x hh R => sh_slices_AppendSeq_sl_string_string_B1 P h_1 s2 L x.1 hh R)
  (fun h_7 => pLoad h_7 s2 fun t12 =>
  takeM (h_1.size :: []) h_7 fun h_8 =>
  K t12 h_8)
  (fun h_9 => takeM (h_1.size :: []) h_9 fun h_10 =>
  K (.slice none 0 0) h_10)
  []

set_option maxRecDepth 100000 in
theorem lk_slices_AppendSeq_sl_string_string (s0 seq1 : Value) {h : Heap} {K : Value → Heap → Prop} (H : sh_slices_AppendSeq_sl_string_string Tryz.prog s0 seq1 h K) : CallsH Tryz.prog F_slices_AppendSeq_sl_string_string [s0, seq1].toArray h K :=
  callsH_of (ann := (annG (Tryz.f70.body.getD .skip) 0 []).1) (c := Tryz.f70.body.getD .skip) Tryz.func70 (by kernel_rfl) (by kernel_rfl) (by kernel_rfl) (of_decide_eq_true (by kernel_rfl))
    (Eq.mpr (by kernel_rfl) H)

/-! (milestone/disk.directory).rising$1 -/

def sh_disk_directory_rising_1_L1 (P : Program) (t8 t7 yield0 : Value) (K : Value → Heap → Prop) (t9 : Value) (h_3 : Heap) (Z : Value → Heap → Prop) : Prop :=
  pBin .lss t9 t8 fun t10 =>
  ifV t10
  (pIdx 1 t7 t9 fun t11 =>
  pLoad h_3 t11 fun t12 =>
  callV P yield0 [t12].toArray h_3 fun t15 h_4 =>
  pUn .not t15 fun t16 =>
  ifV t16
  (K (.tuple #[]) h_4)
  (pBin .add t9 (.int .i64 1) fun t17 =>
  Z t17 h_4))
  (K (.tuple #[]) h_3)

def sh_disk_directory_rising_1 (P : Program) (yield0 t1 : Value) (h : Heap) (K : Value → Heap → Prop) : Prop :=
  pLoad h t1 fun t5 =>
  callS P F_maps_Keys_disk_directory_string_int [t5] h fun t6 h_1 =>
  callS P F_slices_Sorted_string [t6] h_1 fun t7 h_2 =>
  pLen t7 fun t8 =>
  LoopH (σ := Vals [9]) (fun x hh ZZ => sh_disk_directory_rising_1_L1 P t8 t7 yield0 K x.1 hh (fun a0 hz => ZZ (a0, ()) hz)) ((.int .i64 0), ()) h_2

set_option maxRecDepth 100000 in
theorem lk_disk_directory_rising_1 (yield0 t1 : Value) {h : Heap} {K : Value → Heap → Prop} (H : sh_disk_directory_rising_1 Tryz.prog yield0 t1 h K) : CallsH Tryz.prog F_disk_directory_rising_1 [yield0, t1].toArray h K :=
  callsH_of (ann := (annG (Tryz.f71.body.getD .skip) 0 [(1, [9])]).1) (c := Tryz.f71.body.getD .skip) Tryz.func71 (by kernel_rfl) (by kernel_rfl) (by kernel_rfl) (of_decide_eq_true (by kernel_rfl))
    (Eq.mpr (by kernel_rfl) H)

/-! slices.Sorted[string] -/

def sh_slices_Sorted_string (P : Program) (seq0 : Value) (h : Heap) (K : Value → Heap → Prop) : Prop :=
  callS P F_slices_Collect_string [seq0] h fun t5 h_1 =>
  callS P F_slices_Sort_sl_string_string [t5] h_1 fun t7 h_2 =>
  K t5 h_2

set_option maxRecDepth 100000 in
theorem lk_slices_Sorted_string (seq0 : Value) {h : Heap} {K : Value → Heap → Prop} (H : sh_slices_Sorted_string Tryz.prog seq0 h K) : CallsH Tryz.prog F_slices_Sorted_string [seq0].toArray h K :=
  callsH_of (ann := (annG (Tryz.f72.body.getD .skip) 0 []).1) (c := Tryz.f72.body.getD .skip) Tryz.func72 (by kernel_rfl) (by kernel_rfl) (by kernel_rfl) (of_decide_eq_true (by kernel_rfl))
    (Eq.mpr (by kernel_rfl) H)

/-! maps.Keys[milestone/disk.directory,string,int] -/

def sh_maps_Keys_disk_directory_string_int (P : Program) (m0 : Value) (h : Heap) (K : Value → Heap → Prop) : Prop :=
  pBox T_disk_directory m0 h fun m1 h_1 =>
  K (.func (.func F_maps_Keys_disk_directory_string_int_1) #[] #[m1]) h_1

set_option maxRecDepth 100000 in
theorem lk_maps_Keys_disk_directory_string_int (m0 : Value) {h : Heap} {K : Value → Heap → Prop} (H : sh_maps_Keys_disk_directory_string_int Tryz.prog m0 h K) : CallsH Tryz.prog F_maps_Keys_disk_directory_string_int [m0].toArray h K :=
  callsH_of (ann := (annG (Tryz.f73.body.getD .skip) 0 []).1) (c := Tryz.f73.body.getD .skip) Tryz.func73 (by kernel_rfl) (by kernel_rfl) (by kernel_rfl) (of_decide_eq_true (by kernel_rfl))
    (Eq.mpr (by kernel_rfl) H)

/-! slices.ContainsFunc[[]string,string] -/

def sh_slices_ContainsFunc_sl_string_string (P : Program) (s0 f1 : Value) (h : Heap) (K : Value → Heap → Prop) : Prop :=
  callS P F_slices_IndexFunc_sl_string_string [s0, f1] h fun t7 h_1 =>
  pBin .geq t7 (.int .i64 0) fun t8 =>
  K t8 h_1

set_option maxRecDepth 100000 in
theorem lk_slices_ContainsFunc_sl_string_string (s0 f1 : Value) {h : Heap} {K : Value → Heap → Prop} (H : sh_slices_ContainsFunc_sl_string_string Tryz.prog s0 f1 h K) : CallsH Tryz.prog F_slices_ContainsFunc_sl_string_string [s0, f1].toArray h K :=
  callsH_of (ann := (annG (Tryz.f74.body.getD .skip) 0 []).1) (c := Tryz.f74.body.getD .skip) Tryz.func74 (by kernel_rfl) (by kernel_rfl) (by kernel_rfl) (of_decide_eq_true (by kernel_rfl))
    (Eq.mpr (by kernel_rfl) H)

/-! milestone/disk.names$1 -/

def sh_disk_names_1 (P : Program) (s0 : Value) (h : Heap) (K : Value → Heap → Prop) : Prop :=
  pBin .eql s0 (.string ⟨#[]⟩) fun t4 =>
  ifV t4
  (K (.bool true) h)
  (pLenS s0 fun t7 =>
  pBin .gtr t7 (.int .i64 16) fun t8 =>
  K t8 h)

set_option maxRecDepth 100000 in
theorem lk_disk_names_1 (s0 : Value) {h : Heap} {K : Value → Heap → Prop} (H : sh_disk_names_1 Tryz.prog s0 h K) : CallsH Tryz.prog F_disk_names_1 [s0].toArray h K :=
  callsH_of (ann := (annG (Tryz.f75.body.getD .skip) 0 []).1) (c := Tryz.f75.body.getD .skip) Tryz.func75 (by kernel_rfl) (by kernel_rfl) (by kernel_rfl) (of_decide_eq_true (by kernel_rfl))
    (Eq.mpr (by kernel_rfl) H)

/-! (*milestone/disk.Disk).change$1 -/

def sh_disk_Disk_change_1 (P : Program) (t0 t1 : Value) (h : Heap) (K : Value → Heap → Prop) : Prop :=
  pLoad h t0 fun t3 =>
  callV P t3 [].toArray h fun t4 h_1 =>
  pBox T_disk_change (.agg #[.nilFunc]) h_1 fun x2 h_2 =>
  pStore 1 x2 t4 h_2 fun u h_3 =>
  pLoad h_3 t1 fun t5 =>
  pLoad h_3 t1 fun t6 =>
  pNil t6 fun t7 =>
  pField 3 t7 fun t8 =>
  pLoad h_3 t8 fun t9 =>
  pLoadN 1 h_3 x2 fun t10 =>
  pBuildSlice T_disk_change (zerosL [.nilFunc] 1) [(0, 1, t10)] 1 h_3 fun t11 h_4 =>
  pAppend T_disk_change 1 8 [.nilFunc] t9 t11 h_4 fun t12 h_5 =>
  (pLoad h_5 t1 fun t5_1 =>
  t5_1 = t5) ∧
  (pNil t5 fun t13 =>
  pField 3 t13 fun t14 =>
  pStore 1 t14 t12 h_5 fun u_1 h_6 =>
  pField 0 x2 fun t15 =>
  pLoad h_6 t15 fun t16 =>
  pLoad h_6 t1 fun t17 =>
  pNil t17 fun t18 =>
  pField 1 t18 fun t19 =>
  pLoad h_6 t19 fun t20 =>
  callV P t16 [t20].toArray h_6 fun t21 h_7 =>
  K (.tuple #[]) h_7)

set_option maxRecDepth 100000 in
theorem lk_disk_Disk_change_1 (t0 t1 : Value) {h : Heap} {K : Value → Heap → Prop} (H : sh_disk_Disk_change_1 Tryz.prog t0 t1 h K) : CallsH Tryz.prog F_disk_Disk_change_1 [t0, t1].toArray h K :=
  callsH_of (ann := (annG (Tryz.f76.body.getD .skip) 0 []).1) (c := Tryz.f76.body.getD .skip) Tryz.func76 (by kernel_rfl) (by kernel_rfl) (by kernel_rfl) (of_decide_eq_true (by kernel_rfl))
    (Eq.mpr (by kernel_rfl) H)

end Go.Proofs.YtleaknaadodjeaaGreat

namespace Go.Proofs.YtleaknaadodjeaaGreat
open Go Go.Mh
set_option maxHeartbeats 0
set_option linter.unusedVariables false

/-! slices.Clone[[]byte,byte] -/

def sh_slices_Clone_sl_byte_byte (P : Program) (s0 : Value) (h : Heap) (K : Value → Heap → Prop) : Prop :=
  pEq false .slice s0 (.slice none 0 0) fun t4 =>
  ifV t4
  (K (.slice none 0 0) h)
  (pBuildSlice T_uint8 (zerosL [(.int .u8 0)] 0) [] 0 h fun t5 h_1 =>
  pAppend T_uint8 1 1 [(.int .u8 0)] t5 s0 h_1 fun t7 h_2 =>
  K t7 h_2)

set_option maxRecDepth 100000 in
theorem lk_slices_Clone_sl_byte_byte (s0 : Value) {h : Heap} {K : Value → Heap → Prop} (H : sh_slices_Clone_sl_byte_byte Tryz.prog s0 h K) : CallsH Tryz.prog F_slices_Clone_sl_byte_byte [s0].toArray h K :=
  callsH_of (ann := (annG (Tryz.f77.body.getD .skip) 0 []).1) (c := Tryz.f77.body.getD .skip) Tryz.func77 (by kernel_rfl) (by kernel_rfl) (by kernel_rfl) (of_decide_eq_true (by kernel_rfl))
    (Eq.mpr (by kernel_rfl) H)

/-! slices.Collect[int] -/

def sh_slices_Collect_int (P : Program) (seq0 : Value) (h : Heap) (K : Value → Heap → Prop) : Prop :=
  callS P F_slices_AppendSeq_sl_int_int [(.slice none 0 0), seq0] h fun t4 h_1 =>
  K t4 h_1

set_option maxRecDepth 100000 in
theorem lk_slices_Collect_int (seq0 : Value) {h : Heap} {K : Value → Heap → Prop} (H : sh_slices_Collect_int Tryz.prog seq0 h K) : CallsH Tryz.prog F_slices_Collect_int [seq0].toArray h K :=
  callsH_of (ann := (annG (Tryz.f78.body.getD .skip) 0 []).1) (c := Tryz.f78.body.getD .skip) Tryz.func78 (by kernel_rfl) (by kernel_rfl) (by kernel_rfl) (of_decide_eq_true (by kernel_rfl))
    (Eq.mpr (by kernel_rfl) H)

/-! slices.Sort[[]int,int] -/

def sh_slices_Sort_sl_int_int (P : Program) (x0 : Value) (h : Heap) (K : Value → Heap → Prop) : Prop :=
  pLen x0 fun t4 =>
  pConv .u64 t4 fun t8 =>
  callS P F_math_bits_Len [t8] h fun t9 h_1 =>
  callS P F_slices_pdqsortOrdered_int [x0, (.int .i64 0), t4, t9] h_1 fun t10 h_2 =>
  K (.tuple #[]) h_2

set_option maxRecDepth 100000 in
theorem lk_slices_Sort_sl_int_int (x0 : Value) {h : Heap} {K : Value → Heap → Prop} (H : sh_slices_Sort_sl_int_int Tryz.prog x0 h K) : CallsH Tryz.prog F_slices_Sort_sl_int_int [x0].toArray h K :=
  callsH_of (ann := (annG (Tryz.f79.body.getD .skip) 0 []).1) (c := Tryz.f79.body.getD .skip) Tryz.func79 (by kernel_rfl) (by kernel_rfl) (by kernel_rfl) (of_decide_eq_true (by kernel_rfl))
    (Eq.mpr (by kernel_rfl) H)

/-! maps.Values[milestone/disk.directory,string,int]$1 -/

def sh_maps_Values_disk_directory_string_int_1_L1 (P : Program) (t6 yield0 : Value) (K : Value → Heap → Prop) (h_2 : Heap) (Z : Heap → Prop) : Prop :=
  pNextM t6 h_2 fun t7 h_3 =>
  pExt t7 0 fun t8 =>
  ifV t8
  (pEntryM t6 h_3 fun t9 =>
  pExt t9 1 fun t10 =>
  callV P yield0 [t10].toArray h_3 fun t13 h_4 =>
  pUn .not t13 fun t14 =>
  ifV t14
  (K (.tuple #[]) h_4)
  (Z h_4))
  (K (.tuple #[]) h_3)

def sh_maps_Values_disk_directory_string_int_1 (P : Program) (yield0 t1 : Value) (h : Heap) (K : Value → Heap → Prop) : Prop :=
  pLoad h t1 fun t5 =>
  pRangeM t5 h fun t6 h_1 =>
  LoopH (σ := Vals []) (fun x hh ZZ => sh_maps_Values_disk_directory_string_int_1_L1 P t6 yield0 K hh (fun hz => ZZ () hz)) () h_1

set_option maxRecDepth 100000 in
theorem lk_maps_Values_disk_directory_string_int_1 (yield0 t1 : Value) {h : Heap} {K : Value → Heap → Prop} (H : sh_maps_Values_disk_directory_string_int_1 Tryz.prog yield0 t1 h K) : CallsH Tryz.prog F_maps_Values_disk_directory_string_int_1 [yield0, t1].toArray h K :=
  callsH_of (ann := (annG (Tryz.f80.body.getD .skip) 0 [(1, [])]).1) (c := Tryz.f80.body.getD .skip) Tryz.func80 (by kernel_rfl) (by kernel_rfl) (by kernel_rfl) (of_decide_eq_true (by kernel_rfl))
    (Eq.mpr (by kernel_rfl) H)

/-! slices.Sort[[]string,string] -/

def sh_slices_Sort_sl_string_string (P : Program) (x0 : Value) (h : Heap) (K : Value → Heap → Prop) : Prop :=
  pLen x0 fun t4 =>
  pConv .u64 t4 fun t8 =>
  callS P F_math_bits_Len [t8] h fun t9 h_1 =>
  callS P F_slices_pdqsortOrdered_string [x0, (.int .i64 0), t4, t9] h_1 fun t10 h_2 =>
  K (.tuple #[]) h_2

set_option maxRecDepth 100000 in
theorem lk_slices_Sort_sl_string_string (x0 : Value) {h : Heap} {K : Value → Heap → Prop} (H : sh_slices_Sort_sl_string_string Tryz.prog x0 h K) : CallsH Tryz.prog F_slices_Sort_sl_string_string [x0].toArray h K :=
  callsH_of (ann := (annG (Tryz.f81.body.getD .skip) 0 []).1) (c := Tryz.f81.body.getD .skip) Tryz.func81 (by kernel_rfl) (by kernel_rfl) (by kernel_rfl) (of_decide_eq_true (by kernel_rfl))
    (Eq.mpr (by kernel_rfl) H)

/-! maps.Keys[milestone/disk.directory,string,int]$1 -/

def sh_maps_Keys_disk_directory_string_int_1_L1 (P : Program) (t5 yield0 : Value) (K : Value → Heap → Prop) (h_2 : Heap) (Z : Heap → Prop) : Prop :=
  pNextM t5 h_2 fun t6 h_3 =>
  pExt t6 0 fun t7 =>
  ifV t7
  (pEntryM t5 h_3 fun t8 =>
  pExt t8 0 fun t9 =>
  callV P yield0 [t9].toArray h_3 fun t12 h_4 =>
  pUn .not t12 fun t13 =>
  ifV t13
  (K (.tuple #[]) h_4)
  (Z h_4))
  (K (.tuple #[]) h_3)

def sh_maps_Keys_disk_directory_string_int_1 (P : Program) (yield0 t1 : Value) (h : Heap) (K : Value → Heap → Prop) : Prop :=
  pLoad h t1 fun t4 =>
  pRangeM t4 h fun t5 h_1 =>
  LoopH (σ := Vals []) (fun x hh ZZ => sh_maps_Keys_disk_directory_string_int_1_L1 P t5 yield0 K hh (fun hz => ZZ () hz)) () h_1

set_option maxRecDepth 100000 in
theorem lk_maps_Keys_disk_directory_string_int_1 (yield0 t1 : Value) {h : Heap} {K : Value → Heap → Prop} (H : sh_maps_Keys_disk_directory_string_int_1 Tryz.prog yield0 t1 h K) : CallsH Tryz.prog F_maps_Keys_disk_directory_string_int_1 [yield0, t1].toArray h K :=
  callsH_of (ann := (annG (Tryz.f82.body.getD .skip) 0 [(1, [])]).1) (c := Tryz.f82.body.getD .skip) Tryz.func82 (by kernel_rfl) (by kernel_rfl) (by kernel_rfl) (of_decide_eq_true (by kernel_rfl))
    (Eq.mpr (by kernel_rfl) H)

/-! slices.IndexFunc[[]string,string] -/

def sh_slices_IndexFunc_sl_string_string_L1 (P : Program) (t7 s0 f1 : Value) (K : Value → Heap → Prop) (t8 : Value) (h_1 : Heap) (Z : Value → Heap → Prop) : Prop :=
  pBin .lss t8 t7 fun t9 =>
  ifV t9
  (pIdx 1 s0 t8 fun t14 =>
  pLoad h_1 t14 fun t15 =>
  callV P f1 [t15].toArray h_1 fun t16 h_2 =>
  ifV t16
  (K t8 h_2)
  (pBin .add t8 (.int .i64 1) fun t18 =>
  Z t18 h_2))
  (K (.int .i64 (-1)) h_1)

def sh_slices_IndexFunc_sl_string_string (P : Program) (s0 f1 : Value) (h : Heap) (K : Value → Heap → Prop) : Prop :=
  pLen s0 fun t7 =>
  LoopH (σ := Vals [8]) (fun x hh ZZ => sh_slices_IndexFunc_sl_string_string_L1 P t7 s0 f1 K x.1 hh (fun a0 hz => ZZ (a0, ()) hz)) ((.int .i64 0), ()) h

set_option maxRecDepth 100000 in
theorem lk_slices_IndexFunc_sl_string_string (s0 f1 : Value) {h : Heap} {K : Value → Heap → Prop} (H : sh_slices_IndexFunc_sl_string_string Tryz.prog s0 f1 h K) : CallsH Tryz.prog F_slices_IndexFunc_sl_string_string [s0, f1].toArray h K :=
  callsH_of (ann := (annG (Tryz.f83.body.getD .skip) 0 [(3, [8])]).1) (c := Tryz.f83.body.getD .skip) Tryz.func83 (by kernel_rfl) (by kernel_rfl) (by kernel_rfl) (of_decide_eq_true (by kernel_rfl))
    (Eq.mpr (by kernel_rfl) H)

/-! slices.AppendSeq[[]int,int] -/

def sh_slices_AppendSeq_sl_int_int_B1 (P : Program) (h_1 : Heap) (s2 : Value) (L : Loop) (t7 : Value) (h_2 : Heap) (R : Exit → Heap → Prop) : Prop :=
  beginR (h_1.size + 1) L h_2 fun h_3 =>
  pLoad h_3 s2 fun t8 =>
  pBuildSlice T_int (zerosL [(.int .i64 0)] 1) [(0, 1, t7)] 1 h_3 fun t10 h_4 =>
  pAppend T_int 1 8 [(.int .i64 0)] t8 t10 h_4 fun t11 h_5 =>
  pStore 1 s2 t11 h_5 fun u h_6 =>
  R .normal h_6

def sh_slices_AppendSeq_sl_int_int (P : Program) (s0 seq1 : Value) (h : Heap) (K : Value → Heap → Prop) : Prop :=
  pBox T_sl_int s0 h fun s2 h_1 =>
  rangeH P seq1 [7] (h_1.size + 1) (h_1.push (.deferred (some []))) (fun L x hh R => sh_slices_AppendSeq_sl_int_int_B1 P h_1 s2 L x.1 hh R)
  (fun h_7 => pLoad h_7 s2 fun t12 =>
  takeM (h_1.size :: []) h_7 fun h_8 =>
  K t12 h_8)
  (fun h_9 => takeM (h_1.size :: []) h_9 fun h_10 =>
  K (.slice none 0 0) h_10)
  []

set_option maxRecDepth 100000 in
theorem lk_slices_AppendSeq_sl_int_int (s0 seq1 : Value) {h : Heap} {K : Value → Heap → Prop} (H : sh_slices_AppendSeq_sl_int_int Tryz.prog s0 seq1 h K) : CallsH Tryz.prog F_slices_AppendSeq_sl_int_int [s0, seq1].toArray h K :=
  callsH_of (ann := (annG (Tryz.f84.body.getD .skip) 0 []).1) (c := Tryz.f84.body.getD .skip) Tryz.func84 (by kernel_rfl) (by kernel_rfl) (by kernel_rfl) (of_decide_eq_true (by kernel_rfl))
    (Eq.mpr (by kernel_rfl) H)

/-! slices.pdqsortOrdered[int] -/

def sh_slices_pdqsortOrdered_int_C5 (P : Program) (data0 a1_1 b2_1 pivot11 : Value) (Z : Value → Value → Value → Value → Value → Heap → Prop) (limit3_2 wasBalanced8 wasPartitioned9 t21 t87 : Value) (h_12 : Heap) : Prop :=
  ifV t87
  (callS P F_slices_partitionEqualOrdered_int [data0, a1_1, b2_1, pivot11] h_12 fun t92 h_13 =>
  Z t92 b2_1 limit3_2 wasBalanced8 wasPartitioned9 h_13)
  (callS P F_slices_partitionOrdered_int [data0, a1_1, b2_1, pivot11] h_12 fun t99 h_14 =>
  pExt t99 0 fun t100 =>
  pExt t99 1 fun t101 =>
  pBin .sub t100 a1_1 fun t105 =>
  pBin .sub b2_1 t100 fun t108 =>
  pBin .quo t21 (.int .i64 8) fun t110 =>
  pBin .lss t105 t108 fun t113 =>
  ifV t113
  (pBin .geq t105 t110 fun t116 =>
  callS P F_slices_pdqsortOrdered_int [data0, a1_1, t100, limit3_2] h_14 fun t121 h_15 =>
  pBin .add t100 (.int .i64 1) fun t123 =>
  Z t123 b2_1 limit3_2 t116 t101 h_15)
  (pBin .geq t108 t110 fun t126 =>
  pBin .add t100 (.int .i64 1) fun t129 =>
  callS P F_slices_pdqsortOrdered_int [data0, t129, b2_1, limit3_2] h_14 fun t132 h_16 =>
  Z a1_1 t100 limit3_2 t126 t101 h_16))

def sh_slices_pdqsortOrdered_int_k4 (P : Program) (a1_1 data0 pivot11 b2_1 : Value) (Z : Value → Value → Value → Value → Value → Heap → Prop) (limit3_2 wasBalanced8 wasPartitioned9 t21 : Value) (h_10 : Heap) : Prop :=
  cutP (σ := Vals [87]) (fun J =>
  pBin .gtr a1_1 (.int .i64 0) fun t74 =>
  ifV t74
  (pBin .sub a1_1 (.int .i64 1) fun t78 =>
  pIdx 1 data0 t78 fun t79 =>
  pLoad h_10 t79 fun t80 =>
  pIdx 1 data0 pivot11 fun t83 =>
  pLoad h_10 t83 fun t84 =>
  callS P F_cmp_Less_int [t80, t84] h_10 fun t85 h_11 =>
  pUn .not t85 fun t86 =>
  J (t86, ()) h_11)
  (J ((.bool false), ()) h_10))
  (fun x hh => sh_slices_pdqsortOrdered_int_C5 P data0 a1_1 b2_1 pivot11 Z limit3_2 wasBalanced8 wasPartitioned9 t21 x.1 hh)

def sh_slices_pdqsortOrdered_int_k3 (P : Program) (wasBalanced8 wasPartitioned9 data0 a1_1 b2_1 : Value) (K : Value → Heap → Prop) (Z : Value → Value → Value → Value → Value → Heap → Prop) (limit3_2 t21 pivot11 hint12 : Value) (h_8 : Heap) : Prop :=
  ifV wasBalanced8
  (ifV wasPartitioned9
  (pBin .eql hint12 (.int .i64 1) fun t67 =>
  ifV t67
  (callS P F_slices_partialInsertionSortOrdered_int [data0, a1_1, b2_1] h_8 fun t72 h_9 =>
  ifV t72
  (K (.tuple #[]) h_9)
  (sh_slices_pdqsortOrdered_int_k4 P a1_1 data0 pivot11 b2_1 Z limit3_2 wasBalanced8 wasPartitioned9 t21 h_9))
  (sh_slices_pdqsortOrdered_int_k4 P a1_1 data0 pivot11 b2_1 Z limit3_2 wasBalanced8 wasPartitioned9 t21 h_8))
  (sh_slices_pdqsortOrdered_int_k4 P a1_1 data0 pivot11 b2_1 Z limit3_2 wasBalanced8 wasPartitioned9 t21 h_8))
  (sh_slices_pdqsortOrdered_int_k4 P a1_1 data0 pivot11 b2_1 Z limit3_2 wasBalanced8 wasPartitioned9 t21 h_8)

def sh_slices_pdqsortOrdered_int_k2 (P : Program) (data0 a1_1 b2_1 wasBalanced8 wasPartitioned9 : Value) (K : Value → Heap → Prop) (Z : Value → Value → Value → Value → Value → Heap → Prop) (t21 limit3_2 : Value) (h_5 : Heap) : Prop :=
  callS P F_slices_choosePivotOrdered_int [data0, a1_1, b2_1] h_5 fun t46 h_6 =>
  pExt t46 0 fun t47 =>
  pExt t46 1 fun t48 =>
  pBin .eql t48 (.int .i64 2) fun t50 =>
  ifV t50
  (callS P F_slices_reverseRangeOrdered_int [data0, a1_1, b2_1] h_6 fun t54 h_7 =>
  pBin .sub b2_1 (.int .i64 1) fun t56 =>
  pBin .sub t47 a1_1 fun t59 =>
  pBin .sub t56 t59 fun t60 =>
  sh_slices_pdqsortOrdered_int_k3 P wasBalanced8 wasPartitioned9 data0 a1_1 b2_1 K Z limit3_2 t21 t60 (.int .i64 1) h_7)
  (sh_slices_pdqsortOrdered_int_k3 P wasBalanced8 wasPartitioned9 data0 a1_1 b2_1 K Z limit3_2 t21 t47 t48 h_6)

def sh_slices_pdqsortOrdered_int_L1 (P : Program) (data0 : Value) (K : Value → Heap → Prop) (a1_1 b2_1 limit3_1 wasBalanced8 wasPartitioned9 : Value) (h_1 : Heap) (Z : Value → Value → Value → Value → Value → Heap → Prop) : Prop :=
  pBin .sub b2_1 a1_1 fun t21 =>
  pBin .leq t21 (.int .i64 12) fun t23 =>
  ifV t23
  (callS P F_slices_insertionSortOrdered_int [data0, a1_1, b2_1] h_1 fun t27 h_2 =>
  K (.tuple #[]) h_2)
  (pBin .eql limit3_1 (.int .i64 0) fun t29 =>
  ifV t29
  (callS P F_slices_heapSortOrdered_int [data0, a1_1, b2_1] h_1 fun t33 h_3 =>
  K (.tuple #[]) h_3)
  (pUn .not wasBalanced8 fun t35 =>
  ifV t35
  (callS P F_slices_breakPatternsOrdered_int [data0, a1_1, b2_1] h_1 fun t39 h_4 =>
  pBin .sub limit3_1 (.int .i64 1) fun t41 =>
  sh_slices_pdqsortOrdered_int_k2 P data0 a1_1 b2_1 wasBalanced8 wasPartitioned9 K Z t21 t41 h_4)
  (sh_slices_pdqsortOrdered_int_k2 P data0 a1_1 b2_1 wasBalanced8 wasPartitioned9 K Z t21 limit3_1 h_1)))

def sh_slices_pdqsortOrdered_int (P : Program) (data0 a1 b2 limit3 : Value) (h : Heap) (K : Value → Heap → Prop) : Prop :=
  LoopH (σ := Vals [1, 2, 3, 8, 9]) (fun x hh ZZ => sh_slices_pdqsortOrdered_int_L1 P data0 K x.1 x.2.1 x.2.2.1 x.2.2.2.1 x.2.2.2.2.1 hh (fun a0 a1 a2 a3 a4 hz => ZZ (a0, (a1, (a2, (a3, (a4, ()))))) hz)) (a1, (b2, (limit3, ((.bool true), ((.bool true), ()))))) h

set_option maxRecDepth 100000 in
theorem lk_slices_pdqsortOrdered_int (data0 a1 b2 limit3 : Value) {h : Heap} {K : Value → Heap → Prop} (H : sh_slices_pdqsortOrdered_int Tryz.prog data0 a1 b2 limit3 h K) : CallsH Tryz.prog F_slices_pdqsortOrdered_int [data0, a1, b2, limit3].toArray h K :=
  callsH_of (ann := (annG (Tryz.f85.body.getD .skip) 0 [(2, [1, 2, 3, 8, 9]), (22, [87])]).1) (c := Tryz.f85.body.getD .skip) Tryz.func85 (by kernel_rfl) (by kernel_rfl) (by kernel_rfl) (of_decide_eq_true (by kernel_rfl))
    (Eq.mpr (by kernel_rfl) H)

/-! math/bits.Len -/

def sh_math_bits_Len (P : Program) (x0 : Value) (h : Heap) (K : Value → Heap → Prop) : Prop :=
  callS P F_math_bits_Len64 [x0] h fun t7 h_1 =>
  K t7 h_1

set_option maxRecDepth 100000 in
theorem lk_math_bits_Len (x0 : Value) {h : Heap} {K : Value → Heap → Prop} (H : sh_math_bits_Len Tryz.prog x0 h K) : CallsH Tryz.prog F_math_bits_Len [x0].toArray h K :=
  callsH_of (ann := (annG (Tryz.f86.body.getD .skip) 0 []).1) (c := Tryz.f86.body.getD .skip) Tryz.func86 (by kernel_rfl) (by kernel_rfl) (by kernel_rfl) (of_decide_eq_true (by kernel_rfl))
    (Eq.mpr (by kernel_rfl) H)

/-! slices.pdqsortOrdered[string] -/

def sh_slices_pdqsortOrdered_string_C5 (P : Program) (data0 a1_1 b2_1 pivot11 : Value) (Z : Value → Value → Value → Value → Value → Heap → Prop) (limit3_2 wasBalanced8 wasPartitioned9 t21 t87 : Value) (h_12 : Heap) : Prop :=
  ifV t87
  (callS P F_slices_partitionEqualOrdered_string [data0, a1_1, b2_1, pivot11] h_12 fun t92 h_13 =>
  Z t92 b2_1 limit3_2 wasBalanced8 wasPartitioned9 h_13)
  (callS P F_slices_partitionOrdered_string [data0, a1_1, b2_1, pivot11] h_12 fun t99 h_14 =>
  pExt t99 0 fun t100 =>
  pExt t99 1 fun t101 =>
  pBin .sub t100 a1_1 fun t105 =>
  pBin .sub b2_1 t100 fun t108 =>
  pBin .quo t21 (.int .i64 8) fun t110 =>
  pBin .lss t105 t108 fun t113 =>
  ifV t113
  (pBin .geq t105 t110 fun t116 =>
  callS P F_slices_pdqsortOrdered_string [data0, a1_1, t100, limit3_2] h_14 fun t121 h_15 =>
  pBin .add t100 (.int .i64 1) fun t123 =>
  Z t123 b2_1 limit3_2 t116 t101 h_15)
  (pBin .geq t108 t110 fun t126 =>
  pBin .add t100 (.int .i64 1) fun t129 =>
  callS P F_slices_pdqsortOrdered_string [data0, t129, b2_1, limit3_2] h_14 fun t132 h_16 =>
  Z a1_1 t100 limit3_2 t126 t101 h_16))

def sh_slices_pdqsortOrdered_string_k4 (P : Program) (a1_1 data0 pivot11 b2_1 : Value) (Z : Value → Value → Value → Value → Value → Heap → Prop) (limit3_2 wasBalanced8 wasPartitioned9 t21 : Value) (h_10 : Heap) : Prop :=
  cutP (σ := Vals [87]) (fun J =>
  pBin .gtr a1_1 (.int .i64 0) fun t74 =>
  ifV t74
  (pBin .sub a1_1 (.int .i64 1) fun t78 =>
  pIdx 1 data0 t78 fun t79 =>
  pLoad h_10 t79 fun t80 =>
  pIdx 1 data0 pivot11 fun t83 =>
  pLoad h_10 t83 fun t84 =>
  callS P F_cmp_Less_string [t80, t84] h_10 fun t85 h_11 =>
  pUn .not t85 fun t86 =>
  J (t86, ()) h_11)
  (J ((.bool false), ()) h_10))
  (fun x hh => sh_slices_pdqsortOrdered_string_C5 P data0 a1_1 b2_1 pivot11 Z limit3_2 wasBalanced8 wasPartitioned9 t21 x.1 hh)

def sh_slices_pdqsortOrdered_string_k3 (P : Program) (wasBalanced8 wasPartitioned9 data0 a1_1 b2_1 : Value) (K : Value → Heap → Prop) (Z : Value → Value → Value → Value → Value → Heap → Prop) (limit3_2 t21 pivot11 hint12 : Value) (h_8 : Heap) : Prop :=
  ifV wasBalanced8
  (ifV wasPartitioned9
  (pBin .eql hint12 (.int .i64 1) fun t67 =>
  ifV t67
  (callS P F_slices_partialInsertionSortOrdered_string [data0, a1_1, b2_1] h_8 fun t72 h_9 =>
  ifV t72
  (K (.tuple #[]) h_9)
  (sh_slices_pdqsortOrdered_string_k4 P a1_1 data0 pivot11 b2_1 Z limit3_2 wasBalanced8 wasPartitioned9 t21 h_9))
  (sh_slices_pdqsortOrdered_string_k4 P a1_1 data0 pivot11 b2_1 Z limit3_2 wasBalanced8 wasPartitioned9 t21 h_8))
  (sh_slices_pdqsortOrdered_string_k4 P a1_1 data0 pivot11 b2_1 Z limit3_2 wasBalanced8 wasPartitioned9 t21 h_8))
  (sh_slices_pdqsortOrdered_string_k4 P a1_1 data0 pivot11 b2_1 Z limit3_2 wasBalanced8 wasPartitioned9 t21 h_8)

def sh_slices_pdqsortOrdered_string_k2 (P : Program) (data0 a1_1 b2_1 wasBalanced8 wasPartitioned9 : Value) (K : Value → Heap → Prop) (Z : Value → Value → Value → Value → Value → Heap → Prop) (t21 limit3_2 : Value) (h_5 : Heap) : Prop :=
  callS P F_slices_choosePivotOrdered_string [data0, a1_1, b2_1] h_5 fun t46 h_6 =>
  pExt t46 0 fun t47 =>
  pExt t46 1 fun t48 =>
  pBin .eql t48 (.int .i64 2) fun t50 =>
  ifV t50
  (callS P F_slices_reverseRangeOrdered_string [data0, a1_1, b2_1] h_6 fun t54 h_7 =>
  pBin .sub b2_1 (.int .i64 1) fun t56 =>
  pBin .sub t47 a1_1 fun t59 =>
  pBin .sub t56 t59 fun t60 =>
  sh_slices_pdqsortOrdered_string_k3 P wasBalanced8 wasPartitioned9 data0 a1_1 b2_1 K Z limit3_2 t21 t60 (.int .i64 1) h_7)
  (sh_slices_pdqsortOrdered_string_k3 P wasBalanced8 wasPartitioned9 data0 a1_1 b2_1 K Z limit3_2 t21 t47 t48 h_6)

def sh_slices_pdqsortOrdered_string_L1 (P : Program) (data0 : Value) (K : Value → Heap → Prop) (a1_1 b2_1 limit3_1 wasBalanced8 wasPartitioned9 : Value) (h_1 : Heap) (Z : Value → Value → Value → Value → Value → Heap → Prop) : Prop :=
  pBin .sub b2_1 a1_1 fun t21 =>
  pBin .leq t21 (.int .i64 12) fun t23 =>
  ifV t23
  (callS P F_slices_insertionSortOrdered_string [data0, a1_1, b2_1] h_1 fun t27 h_2 =>
  K (.tuple #[]) h_2)
  (pBin .eql limit3_1 (.int .i64 0) fun t29 =>
  ifV t29
  (callS P F_slices_heapSortOrdered_string [data0, a1_1, b2_1] h_1 fun t33 h_3 =>
  K (.tuple #[]) h_3)
  (pUn .not wasBalanced8 fun t35 =>
  ifV t35
  (callS P F_slices_breakPatternsOrdered_string [data0, a1_1, b2_1] h_1 fun t39 h_4 =>
  pBin .sub limit3_1 (.int .i64 1) fun t41 =>
  sh_slices_pdqsortOrdered_string_k2 P data0 a1_1 b2_1 wasBalanced8 wasPartitioned9 K Z t21 t41 h_4)
  (sh_slices_pdqsortOrdered_string_k2 P data0 a1_1 b2_1 wasBalanced8 wasPartitioned9 K Z t21 limit3_1 h_1)))

def sh_slices_pdqsortOrdered_string (P : Program) (data0 a1 b2 limit3 : Value) (h : Heap) (K : Value → Heap → Prop) : Prop :=
  LoopH (σ := Vals [1, 2, 3, 8, 9]) (fun x hh ZZ => sh_slices_pdqsortOrdered_string_L1 P data0 K x.1 x.2.1 x.2.2.1 x.2.2.2.1 x.2.2.2.2.1 hh (fun a0 a1 a2 a3 a4 hz => ZZ (a0, (a1, (a2, (a3, (a4, ()))))) hz)) (a1, (b2, (limit3, ((.bool true), ((.bool true), ()))))) h

set_option maxRecDepth 100000 in
theorem lk_slices_pdqsortOrdered_string (data0 a1 b2 limit3 : Value) {h : Heap} {K : Value → Heap → Prop} (H : sh_slices_pdqsortOrdered_string Tryz.prog data0 a1 b2 limit3 h K) : CallsH Tryz.prog F_slices_pdqsortOrdered_string [data0, a1, b2, limit3].toArray h K :=
  callsH_of (ann := (annG (Tryz.f87.body.getD .skip) 0 [(2, [1, 2, 3, 8, 9]), (22, [87])]).1) (c := Tryz.f87.body.getD .skip) Tryz.func87 (by kernel_rfl) (by kernel_rfl) (by kernel_rfl) (of_decide_eq_true (by kernel_rfl))
    (Eq.mpr (by kernel_rfl) H)

/-! slices.insertionSortOrdered[int] -/

def sh_slices_insertionSortOrdered_int_C3 (P : Program) (j7 data0 : Value) (Z_1 : Value → Heap → Prop) (i6 : Value) (Z : Value → Heap → Prop) (t30 : Value) (h_4 : Heap) : Prop :=
  ifV t30
  (pBin .sub j7 (.int .i64 1) fun t37 =>
  pBin .sub j7 (.int .i64 1) fun t40 =>
  pIdx 1 data0 t40 fun t41 =>
  pLoad h_4 t41 fun t42 =>
  pIdx 1 data0 j7 fun t45 =>
  pLoad h_4 t45 fun t46 =>
  pIdx 1 data0 j7 fun t47 =>
  pStore 1 t47 t42 h_4 fun u h_5 =>
  pIdx 1 data0 t37 fun t48 =>
  pStore 1 t48 t46 h_5 fun u_1 h_6 =>
  pBin .sub j7 (.int .i64 1) fun t32 =>
  Z_1 t32 h_6)
  (pBin .add i6 (.int .i64 1) fun t14 =>
  Z t14 h_4)

def sh_slices_insertionSortOrdered_int_L2 (P : Program) (a1 data0 i6 : Value) (Z : Value → Heap → Prop) (j7 : Value) (h_2 : Heap) (Z_1 : Value → Heap → Prop) : Prop :=
  cutP (σ := Vals [30]) (fun J =>
  pBin .gtr j7 a1 fun t18 =>
  ifV t18
  (pIdx 1 data0 j7 fun t22 =>
  pLoad h_2 t22 fun t23 =>
  pBin .sub j7 (.int .i64 1) fun t26 =>
  pIdx 1 data0 t26 fun t27 =>
  pLoad h_2 t27 fun t28 =>
  callS P F_cmp_Less_int [t23, t28] h_2 fun t29 h_3 =>
  J (t29, ()) h_3)
  (J ((.bool false), ()) h_2))
  (fun x hh => sh_slices_insertionSortOrdered_int_C3 P j7 data0 Z_1 i6 Z x.1 hh)

def sh_slices_insertionSortOrdered_int_L1 (P : Program) (b2 a1 data0 : Value) (K : Value → Heap → Prop) (i6 : Value) (h_1 : Heap) (Z : Value → Heap → Prop) : Prop :=
  pBin .lss i6 b2 fun t12 =>
  ifV t12
  (LoopH (σ := Vals [7]) (fun x hh ZZ => sh_slices_insertionSortOrdered_int_L2 P a1 data0 i6 Z x.1 hh (fun a0 hz => ZZ (a0, ()) hz)) (i6, ()) h_1)
  (K (.tuple #[]) h_1)

def sh_slices_insertionSortOrdered_int (P : Program) (data0 a1 b2 : Value) (h : Heap) (K : Value → Heap → Prop) : Prop :=
  pBin .add a1 (.int .i64 1) fun t9 =>
  LoopH (σ := Vals [6]) (fun x hh ZZ => sh_slices_insertionSortOrdered_int_L1 P b2 a1 data0 K x.1 hh (fun a0 hz => ZZ (a0, ()) hz)) (t9, ()) h

set_option maxRecDepth 100000 in
theorem lk_slices_insertionSortOrdered_int (data0 a1 b2 : Value) {h : Heap} {K : Value → Heap → Prop} (H : sh_slices_insertionSortOrdered_int Tryz.prog data0 a1 b2 h K) : CallsH Tryz.prog F_slices_insertionSortOrdered_int [data0, a1, b2].toArray h K :=
  callsH_of (ann := (annG (Tryz.f88.body.getD .skip) 0 [(1, [6]), (6, [7]), (8, [30])]).1) (c := Tryz.f88.body.getD .skip) Tryz.func88 (by kernel_rfl) (by kernel_rfl) (by kernel_rfl) (of_decide_eq_true (by kernel_rfl))
    (Eq.mpr (by kernel_rfl) H)

/-! slices.heapSortOrdered[int] -/

def sh_slices_heapSortOrdered_int_L2 (P : Program) (a1 data0 : Value) (K : Value → Heap → Prop) (i10 : Value) (h_3 : Heap) (Z_1 : Value → Heap → Prop) : Prop :=
  pBin .geq i10 (.int .i64 0) fun t30 =>
  ifV t30
  (pBin .add a1 i10 fun t38 =>
  pBin .add a1 i10 fun t42 =>
  pIdx 1 data0 t42 fun t43 =>
  pLoad h_3 t43 fun t44 =>
  pIdx 1 data0 a1 fun t47 =>
  pLoad h_3 t47 fun t48 =>
  pIdx 1 data0 a1 fun t49 =>
  pStore 1 t49 t44 h_3 fun u h_4 =>
  pIdx 1 data0 t38 fun t50 =>
  pStore 1 t50 t48 h_4 fun u_1 h_5 =>
  callS P F_slices_siftDownOrdered_int [data0, (.int .i64 0), i10, a1] h_5 fun t55 h_6 =>
  pBin .sub i10 (.int .i64 1) fun t32 =>
  Z_1 t32 h_6)
  (K (.tuple #[]) h_3)

def sh_slices_heapSortOrdered_int_L1 (P : Program) (data0 t14 a1 : Value) (K : Value → Heap → Prop) (i9 : Value) (h_1 : Heap) (Z : Value → Heap → Prop) : Prop :=
  pBin .geq i9 (.int .i64 0) fun t19 =>
  ifV t19
  (callS P F_slices_siftDownOrdered_int [data0, i9, t14, a1] h_1 fun t26 h_2 =>
  pBin .sub i9 (.int .i64 1) fun t21 =>
  Z t21 h_2)
  (pBin .sub t14 (.int .i64 1) fun t28 =>
  LoopH (σ := Vals [10]) (fun x hh ZZ => sh_slices_heapSortOrdered_int_L2 P a1 data0 K x.1 hh (fun a0 hz => ZZ (a0, ()) hz)) (t28, ()) h_1)

def sh_slices_heapSortOrdered_int (P : Program) (data0 a1 b2 : Value) (h : Heap) (K : Value → Heap → Prop) : Prop :=
  pBin .sub b2 a1 fun t14 =>
  pBin .sub t14 (.int .i64 1) fun t16 =>
  pBin .quo t16 (.int .i64 2) fun t17 =>
  LoopH (σ := Vals [9]) (fun x hh ZZ => sh_slices_heapSortOrdered_int_L1 P data0 t14 a1 K x.1 hh (fun a0 hz => ZZ (a0, ()) hz)) (t17, ()) h

set_option maxRecDepth 100000 in
theorem lk_slices_heapSortOrdered_int (data0 a1 b2 : Value) {h : Heap} {K : Value → Heap → Prop} (H : sh_slices_heapSortOrdered_int Tryz.prog data0 a1 b2 h K) : CallsH Tryz.prog F_slices_heapSortOrdered_int [data0, a1, b2].toArray h K :=
  callsH_of (ann := (annG (Tryz.f89.body.getD .skip) 0 [(5, [9]), (10, [10])]).1) (c := Tryz.f89.body.getD .skip) Tryz.func89 (by kernel_rfl) (by kernel_rfl) (by kernel_rfl) (of_decide_eq_true (by kernel_rfl))
    (Eq.mpr (by kernel_rfl) H)

/-! cmp.Less[int] -/

def sh_cmp_Less_int (P : Program) (x0 y1 : Value) (h : Heap) (K : Value → Heap → Prop) : Prop :=
  callS P F_cmp_isNaN_int [x0] h fun t6 h_1 =>
  ifV t6
  (callS P F_cmp_isNaN_int [y1] h_1 fun t9 h_2 =>
  pUn .not t9 fun t10 =>
  ifV t10
  (K (.bool true) h_2)
  (pBin .lss x0 y1 fun t15 =>
  K t15 h_2))
  (pBin .lss x0 y1 fun t15_1 =>
  K t15_1 h_1)

set_option maxRecDepth 100000 in
theorem lk_cmp_Less_int (x0 y1 : Value) {h : Heap} {K : Value → Heap → Prop} (H : sh_cmp_Less_int Tryz.prog x0 y1 h K) : CallsH Tryz.prog F_cmp_Less_int [x0, y1].toArray h K :=
  callsH_of (ann := (annG (Tryz.f94.body.getD .skip) 0 []).1) (c := Tryz.f94.body.getD .skip) Tryz.func94 (by kernel_rfl) (by kernel_rfl) (by kernel_rfl) (of_decide_eq_true (by kernel_rfl))
    (Eq.mpr (by kernel_rfl) H)

/-! math/bits.Len32 -/

def sh_math_bits_Len32_k2 (P : Program) (K : Value → Heap → Prop) (x0_2 n2_1 : Value) (h_2 : Heap) : Prop :=
  pConv .u8 x0_2 fun t15 =>
  pIdxS (.string ⟨#[0, 1, 2, 2, 3, 3, 3, 3, 4, 4, 4, 4, 4, 4, 4, 4, 5, 5, 5, 5, 5, 5, 5, 5, 5, 5, 5, 5, 5, 5, 5, 5, 6, 6, 6, 6, 6, 6, 6, 6, 6, 6, 6, 6, 6, 6, 6, 6, 6, 6, 6, 6, 6, 6, 6, 6, 6, 6, 6, 6, 6, 6, 6, 6, 7, 7, 7, 7, 7, 7, 7, 7, 7, 7, 7, 7, 7, 7, 7, 7, 7, 7, 7, 7, 7, 7, 7, 7, 7, 7, 7, 7, 7, 7, 7, 7, 7, 7, 7, 7, 7, 7, 7, 7, 7, 7, 7, 7, 7, 7, 7, 7, 7, 7, 7, 7, 7, 7, 7, 7, 7, 7, 7, 7, 7, 7, 7, 7, 8, 8, 8, 8, 8, 8, 8, 8, 8, 8, 8, 8, 8, 8, 8, 8, 8, 8, 8, 8, 8, 8, 8, 8, 8, 8, 8, 8, 8, 8, 8, 8, 8, 8, 8, 8, 8, 8, 8, 8, 8, 8, 8, 8, 8, 8, 8, 8, 8, 8, 8, 8, 8, 8, 8, 8, 8, 8, 8, 8, 8, 8, 8, 8, 8, 8, 8, 8, 8, 8, 8, 8, 8, 8, 8, 8, 8, 8, 8, 8, 8, 8, 8, 8, 8, 8, 8, 8, 8, 8, 8, 8, 8, 8, 8, 8, 8, 8, 8, 8, 8, 8, 8, 8, 8, 8, 8, 8, 8, 8, 8, 8, 8, 8, 8, 8, 8, 8, 8, 8, 8, 8, 8, 8, 8, 8, 8, 8]⟩) t15 fun t16 =>
  pConv .i64 t16 fun t17 =>
  pBin .add n2_1 t17 fun t18 =>
  K t18 h_2

def sh_math_bits_Len32_k1 (P : Program) (K : Value → Heap → Prop) (x0_1 n2 : Value) (h_1 : Heap) : Prop :=
  pBin .geq x0_1 (.int .u32 256) fun t8 =>
  ifV t8
  (pBin .shr x0_1 (.int .u64 8) fun t10 =>
  pBin .add n2 (.int .i64 8) fun t12 =>
  sh_math_bits_Len32_k2 P K t10 t12 h_1)
  (sh_math_bits_Len32_k2 P K x0_1 n2 h_1)

def sh_math_bits_Len32 (P : Program) (x0 : Value) (h : Heap) (K : Value → Heap → Prop) : Prop :=
  pBin .geq x0 (.int .u32 65536) fun t4 =>
  ifV t4
  (pBin .shr x0 (.int .u64 16) fun t6 =>
  sh_math_bits_Len32_k1 P K t6 (.int .i64 16) h)
  (sh_math_bits_Len32_k1 P K x0 (.int .i64 0) h)

set_option maxRecDepth 100000 in
theorem lk_math_bits_Len32 (x0 : Value) {h : Heap} {K : Value → Heap → Prop} (H : sh_math_bits_Len32 Tryz.prog x0 h K) : CallsH Tryz.prog F_math_bits_Len32 [x0].toArray h K :=
  callsH_of (ann := (annG (Tryz.f97.body.getD .skip) 0 []).1) (c := Tryz.f97.body.getD .skip) Tryz.func97 (by kernel_rfl) (by kernel_rfl) (by kernel_rfl) (of_decide_eq_true (by kernel_rfl))
    (Eq.mpr (by kernel_rfl) H)

/-! math/bits.Len64 -/

def sh_math_bits_Len64_k3 (P : Program) (K : Value → Heap → Prop) (x0_3 n2_2 : Value) (h_3 : Heap) : Prop :=
  pConv .u8 x0_3 fun t21 =>
  pIdxS (.string ⟨#[0, 1, 2, 2, 3, 3, 3, 3, 4, 4, 4, 4, 4, 4, 4, 4, 5, 5, 5, 5, 5, 5, 5, 5, 5, 5, 5, 5, 5, 5, 5, 5, 6, 6, 6, 6, 6, 6, 6, 6, 6, 6, 6, 6, 6, 6, 6, 6, 6, 6, 6, 6, 6, 6, 6, 6, 6, 6, 6, 6, 6, 6, 6, 6, 7, 7, 7, 7, 7, 7, 7, 7, 7, 7, 7, 7, 7, 7, 7, 7, 7, 7, 7, 7, 7, 7, 7, 7, 7, 7, 7, 7, 7, 7, 7, 7, 7, 7, 7, 7, 7, 7, 7, 7, 7, 7, 7, 7, 7, 7, 7, 7, 7, 7, 7, 7, 7, 7, 7, 7, 7, 7, 7, 7, 7, 7, 7, 7, 8, 8, 8, 8, 8, 8, 8, 8, 8, 8, 8, 8, 8, 8, 8, 8, 8, 8, 8, 8, 8, 8, 8, 8, 8, 8, 8, 8, 8, 8, 8, 8, 8, 8, 8, 8, 8, 8, 8, 8, 8, 8, 8, 8, 8, 8, 8, 8, 8, 8, 8, 8, 8, 8, 8, 8, 8, 8, 8, 8, 8, 8, 8, 8, 8, 8, 8, 8, 8, 8, 8, 8, 8, 8, 8, 8, 8, 8, 8, 8, 8, 8, 8, 8, 8, 8, 8, 8, 8, 8, 8, 8, 8, 8, 8, 8, 8, 8, 8, 8, 8, 8, 8, 8, 8, 8, 8, 8, 8, 8, 8, 8, 8, 8, 8, 8, 8, 8, 8, 8, 8, 8, 8, 8, 8, 8, 8, 8]⟩) t21 fun t22 =>
  pConv .i64 t22 fun t23 =>
  pBin .add n2_2 t23 fun t24 =>
  K t24 h_3

def sh_math_bits_Len64_k2 (P : Program) (K : Value → Heap → Prop) (x0_2 n2_1 : Value) (h_2 : Heap) : Prop :=
  pBin .geq x0_2 (.int .u64 256) fun t14 =>
  ifV t14
  (pBin .shr x0_2 (.int .u64 8) fun t16 =>
  pBin .add n2_1 (.int .i64 8) fun t18 =>
  sh_math_bits_Len64_k3 P K t16 t18 h_2)
  (sh_math_bits_Len64_k3 P K x0_2 n2_1 h_2)

def sh_math_bits_Len64_k1 (P : Program) (K : Value → Heap → Prop) (x0_1 n2 : Value) (h_1 : Heap) : Prop :=
  pBin .geq x0_1 (.int .u64 65536) fun t8 =>
  ifV t8
  (pBin .shr x0_1 (.int .u64 16) fun t10 =>
  pBin .add n2 (.int .i64 16) fun t12 =>
  sh_math_bits_Len64_k2 P K t10 t12 h_1)
  (sh_math_bits_Len64_k2 P K x0_1 n2 h_1)

def sh_math_bits_Len64 (P : Program) (x0 : Value) (h : Heap) (K : Value → Heap → Prop) : Prop :=
  pBin .geq x0 (.int .u64 4294967296) fun t4 =>
  ifV t4
  (pBin .shr x0 (.int .u64 32) fun t6 =>
  sh_math_bits_Len64_k1 P K t6 (.int .i64 32) h)
  (sh_math_bits_Len64_k1 P K x0 (.int .i64 0) h)

set_option maxRecDepth 100000 in
theorem lk_math_bits_Len64 (x0 : Value) {h : Heap} {K : Value → Heap → Prop} (H : sh_math_bits_Len64 Tryz.prog x0 h K) : CallsH Tryz.prog F_math_bits_Len64 [x0].toArray h K :=
  callsH_of (ann := (annG (Tryz.f98.body.getD .skip) 0 []).1) (c := Tryz.f98.body.getD .skip) Tryz.func98 (by kernel_rfl) (by kernel_rfl) (by kernel_rfl) (of_decide_eq_true (by kernel_rfl))
    (Eq.mpr (by kernel_rfl) H)

/-! slices.insertionSortOrdered[string] -/

def sh_slices_insertionSortOrdered_string_C3 (P : Program) (j7 data0 : Value) (Z_1 : Value → Heap → Prop) (i6 : Value) (Z : Value → Heap → Prop) (t30 : Value) (h_4 : Heap) : Prop :=
  ifV t30
  (pBin .sub j7 (.int .i64 1) fun t37 =>
  pBin .sub j7 (.int .i64 1) fun t40 =>
  pIdx 1 data0 t40 fun t41 =>
  pLoad h_4 t41 fun t42 =>
  pIdx 1 data0 j7 fun t45 =>
  pLoad h_4 t45 fun t46 =>
  pIdx 1 data0 j7 fun t47 =>
  pStore 1 t47 t42 h_4 fun u h_5 =>
  pIdx 1 data0 t37 fun t48 =>
  pStore 1 t48 t46 h_5 fun u_1 h_6 =>
  pBin .sub j7 (.int .i64 1) fun t32 =>
  Z_1 t32 h_6)
  (pBin .add i6 (.int .i64 1) fun t14 =>
  Z t14 h_4)

def sh_slices_insertionSortOrdered_string_L2 (P : Program) (a1 data0 i6 : Value) (Z : Value → Heap → Prop) (j7 : Value) (h_2 : Heap) (Z_1 : Value → Heap → Prop) : Prop :=
  cutP (σ := Vals [30]) (fun J =>
  pBin .gtr j7 a1 fun t18 =>
  ifV t18
  (pIdx 1 data0 j7 fun t22 =>
  pLoad h_2 t22 fun t23 =>
  pBin .sub j7 (.int .i64 1) fun t26 =>
  pIdx 1 data0 t26 fun t27 =>
  pLoad h_2 t27 fun t28 =>
  callS P F_cmp_Less_string [t23, t28] h_2 fun t29 h_3 =>
  J (t29, ()) h_3)
  (J ((.bool false), ()) h_2))
  (fun x hh => sh_slices_insertionSortOrdered_string_C3 P j7 data0 Z_1 i6 Z x.1 hh)

def sh_slices_insertionSortOrdered_string_L1 (P : Program) (b2 a1 data0 : Value) (K : Value → Heap → Prop) (i6 : Value) (h_1 : Heap) (Z : Value → Heap → Prop) : Prop :=
  pBin .lss i6 b2 fun t12 =>
  ifV t12
  (LoopH (σ := Vals [7]) (fun x hh ZZ => sh_slices_insertionSortOrdered_string_L2 P a1 data0 i6 Z x.1 hh (fun a0 hz => ZZ (a0, ()) hz)) (i6, ()) h_1)
  (K (.tuple #[]) h_1)

def sh_slices_insertionSortOrdered_string (P : Program) (data0 a1 b2 : Value) (h : Heap) (K : Value → Heap → Prop) : Prop :=
  pBin .add a1 (.int .i64 1) fun t9 =>
  LoopH (σ := Vals [6]) (fun x hh ZZ => sh_slices_insertionSortOrdered_string_L1 P b2 a1 data0 K x.1 hh (fun a0 hz => ZZ (a0, ()) hz)) (t9, ()) h

set_option maxRecDepth 100000 in
theorem lk_slices_insertionSortOrdered_string (data0 a1 b2 : Value) {h : Heap} {K : Value → Heap → Prop} (H : sh_slices_insertionSortOrdered_string Tryz.prog data0 a1 b2 h K) : CallsH Tryz.prog F_slices_insertionSortOrdered_string [data0, a1, b2].toArray h K :=
  callsH_of (ann := (annG (Tryz.f99.body.getD .skip) 0 [(1, [6]), (6, [7]), (8, [30])]).1) (c := Tryz.f99.body.getD .skip) Tryz.func99 (by kernel_rfl) (by kernel_rfl) (by kernel_rfl) (of_decide_eq_true (by kernel_rfl))
    (Eq.mpr (by kernel_rfl) H)

end Go.Proofs.YtleaknaadodjeaaGreat

namespace Go.Proofs.YtleaknaadodjeaaGreat
open Go Go.Mh
set_option maxHeartbeats 0
set_option linter.unusedVariables false

/-! slices.heapSortOrdered[string] -/

def sh_slices_heapSortOrdered_string_L2 (P : Program) (a1 data0 : Value) (K : Value → Heap → Prop) (i10 : Value) (h_3 : Heap) (Z_1 : Value → Heap → Prop) : Prop :=
  pBin .geq i10 (.int .i64 0) fun t30 =>
  ifV t30
  (pBin .add a1 i10 fun t38 =>
  pBin .add a1 i10 fun t42 =>
  pIdx 1 data0 t42 fun t43 =>
  pLoad h_3 t43 fun t44 =>
  pIdx 1 data0 a1 fun t47 =>
  pLoad h_3 t47 fun t48 =>
  pIdx 1 data0 a1 fun t49 =>
  pStore 1 t49 t44 h_3 fun u h_4 =>
  pIdx 1 data0 t38 fun t50 =>
  pStore 1 t50 t48 h_4 fun u_1 h_5 =>
  callS P F_slices_siftDownOrdered_string [data0, (.int .i64 0), i10, a1] h_5 fun t55 h_6 =>
  pBin .sub i10 (.int .i64 1) fun t32 =>
  Z_1 t32 h_6)
  (K (.tuple #[]) h_3)

def sh_slices_heapSortOrdered_string_L1 (P : Program) (data0 t14 a1 : Value) (K : Value → Heap → Prop) (i9 : Value) (h_1 : Heap) (Z : Value → Heap → Prop) : Prop :=
  pBin .geq i9 (.int .i64 0) fun t19 =>
  ifV t19
  (callS P F_slices_siftDownOrdered_string [data0, i9, t14, a1] h_1 fun t26 h_2 =>
  pBin .sub i9 (.int .i64 1) fun t21 =>
  Z t21 h_2)
  (pBin .sub t14 (.int .i64 1) fun t28 =>
  LoopH (σ := Vals [10]) (fun x hh ZZ => sh_slices_heapSortOrdered_string_L2 P a1 data0 K x.1 hh (fun a0 hz => ZZ (a0, ()) hz)) (t28, ()) h_1)

def sh_slices_heapSortOrdered_string (P : Program) (data0 a1 b2 : Value) (h : Heap) (K : Value → Heap → Prop) : Prop :=
  pBin .sub b2 a1 fun t14 =>
  pBin .sub t14 (.int .i64 1) fun t16 =>
  pBin .quo t16 (.int .i64 2) fun t17 =>
  LoopH (σ := Vals [9]) (fun x hh ZZ => sh_slices_heapSortOrdered_string_L1 P data0 t14 a1 K x.1 hh (fun a0 hz => ZZ (a0, ()) hz)) (t17, ()) h

set_option maxRecDepth 100000 in
theorem lk_slices_heapSortOrdered_string (data0 a1 b2 : Value) {h : Heap} {K : Value → Heap → Prop} (H : sh_slices_heapSortOrdered_string Tryz.prog data0 a1 b2 h K) : CallsH Tryz.prog F_slices_heapSortOrdered_string [data0, a1, b2].toArray h K :=
  callsH_of (ann := (annG (Tryz.f100.body.getD .skip) 0 [(5, [9]), (10, [10])]).1) (c := Tryz.f100.body.getD .skip) Tryz.func100 (by kernel_rfl) (by kernel_rfl) (by kernel_rfl) (of_decide_eq_true (by kernel_rfl))
    (Eq.mpr (by kernel_rfl) H)

/-! cmp.Less[string] -/

def sh_cmp_Less_string (P : Program) (x0 y1 : Value) (h : Heap) (K : Value → Heap → Prop) : Prop :=
  callS P F_cmp_isNaN_string [x0] h fun t6 h_1 =>
  ifV t6
  (callS P F_cmp_isNaN_string [y1] h_1 fun t9 h_2 =>
  pUn .not t9 fun t10 =>
  ifV t10
  (K (.bool true) h_2)
  (pBin .lss x0 y1 fun t15 =>
  K t15 h_2))
  (pBin .lss x0 y1 fun t15_1 =>
  K t15_1 h_1)

set_option maxRecDepth 100000 in
theorem lk_cmp_Less_string (x0 y1 : Value) {h : Heap} {K : Value → Heap → Prop} (H : sh_cmp_Less_string Tryz.prog x0 y1 h K) : CallsH Tryz.prog F_cmp_Less_string [x0, y1].toArray h K :=
  callsH_of (ann := (annG (Tryz.f105.body.getD .skip) 0 []).1) (c := Tryz.f105.body.getD .skip) Tryz.func105 (by kernel_rfl) (by kernel_rfl) (by kernel_rfl) (of_decide_eq_true (by kernel_rfl))
    (Eq.mpr (by kernel_rfl) H)

/-! cmp.isNaN[int] -/

def sh_cmp_isNaN_int (P : Program) (x0 : Value) (h : Heap) (K : Value → Heap → Prop) : Prop :=
  pBin .neq x0 x0 fun t5 =>
  K t5 h

set_option maxRecDepth 100000 in
theorem lk_cmp_isNaN_int (x0 : Value) {h : Heap} {K : Value → Heap → Prop} (H : sh_cmp_isNaN_int Tryz.prog x0 h K) : CallsH Tryz.prog F_cmp_isNaN_int [x0].toArray h K :=
  callsH_of (ann := (annG (Tryz.f113.body.getD .skip) 0 []).1) (c := Tryz.f113.body.getD .skip) Tryz.func113 (by kernel_rfl) (by kernel_rfl) (by kernel_rfl) (of_decide_eq_true (by kernel_rfl))
    (Eq.mpr (by kernel_rfl) H)

/-! cmp.isNaN[string] -/

def sh_cmp_isNaN_string (P : Program) (x0 : Value) (h : Heap) (K : Value → Heap → Prop) : Prop :=
  pBin .neq x0 x0 fun t5 =>
  K t5 h

set_option maxRecDepth 100000 in
theorem lk_cmp_isNaN_string (x0 : Value) {h : Heap} {K : Value → Heap → Prop} (H : sh_cmp_isNaN_string Tryz.prog x0 h K) : CallsH Tryz.prog F_cmp_isNaN_string [x0].toArray h K :=
  callsH_of (ann := (annG (Tryz.f117.body.getD .skip) 0 []).1) (c := Tryz.f117.body.getD .skip) Tryz.func117 (by kernel_rfl) (by kernel_rfl) (by kernel_rfl) (of_decide_eq_true (by kernel_rfl))
    (Eq.mpr (by kernel_rfl) H)

end Go.Proofs.YtleaknaadodjeaaGreat


