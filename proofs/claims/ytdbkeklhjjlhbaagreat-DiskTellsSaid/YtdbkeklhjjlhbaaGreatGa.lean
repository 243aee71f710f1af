/- Texts of the proofs of seat YtdbkeklhjjlhbaaGreat, joined: Ids, Gen1, Gen2, Gen3, Gen4, Gen5. They have no conditions of their own. -/
import Derived.Test.YtdbkeklhjjlhbaaGreatMc
import Derived.Test.YtdbkeklhjjlhbaaGreatChecked
import Derived.KernelRfl
set_option linter.unusedVariables false
set_option linter.unusedSimpArgs false
set_option linter.unusedSectionVars false

namespace Go.Proofs.YtdbkeklhjjlhbaaGreat
abbrev F_gosem_cut_init : Nat := 2
abbrev F_milestonelaw29_DiskKeeps : Nat := 3
abbrev F_milestonelaw29_DiskCopies : Nat := 4
abbrev F_milestonelaw29_DiskTells : Nat := 5
abbrev F_milestonelaw29_DiskBeginning : Nat := 6
abbrev F_milestonelaw29_DiskKnown : Nat := 7
abbrev F_milestonelaw29_works : Nat := 8
abbrev F_disk_New : Nat := 9
abbrev F_milestonelaw29_do : Nat := 10
abbrev F_disk_Disk_Arm : Nat := 11
abbrev F_disk_Disk_Make : Nat := 12
abbrev F_disk_Disk_Write : Nat := 13
abbrev F_disk_Disk_Sync : Nat := 14
abbrev F_disk_Disk_SyncDir : Nat := 15
abbrev F_disk_Disk_On : Nat := 16
abbrev F_disk_Disk_Crash : Nat := 17
abbrev F_milestonelaw29_read : Nat := 18
abbrev F_disk_Disk_Copy : Nat := 19
abbrev F_milestonelaw29_state : Nat := 20
abbrev F_milestoneref29_Disk_Do : Nat := 21
abbrev F_milestonelaw29_alike : Nat := 22
abbrev F_strings_Join : Nat := 23
abbrev F_disk_Disk_Names : Nat := 24
abbrev F_disk_Disk_Pending : Nat := 25
abbrev F_strings_Repeat : Nat := 26
abbrev F_disk_Disk_Read : Nat := 27
abbrev F_disk_Disk_Rename : Nat := 28
abbrev F_disk_Disk_Remove : Nat := 29
abbrev F_milestoneref29_Name : Nat := 30
abbrev F_disk_Disk_change : Nat := 31
abbrev F_disk_Disk_refused : Nat := 32
abbrev F_disk_names : Nat := 33
abbrev F_disk_Disk_Make_1 : Nat := 34
abbrev F_disk_Disk_Make_1_1 : Nat := 35
abbrev F_disk_Disk_step : Nat := 36
abbrev F_disk_Disk_Write_1 : Nat := 37
abbrev F_disk_Disk_Sync_1 : Nat := 38
abbrev F_disk_thing_seen : Nat := 39
abbrev F_disk_Disk_SyncDir_1 : Nat := 40
abbrev F_maps_Clone_disk_directory_string_int : Nat := 41
abbrev F_disk_Disk_Crash_1 : Nat := 42
abbrev F_disk_Disk_named : Nat := 43
abbrev F_disk_put : Nat := 44
abbrev F_slices_Clone_sl_disk_change_disk_change : Nat := 45
abbrev F_slices_Clone_sl_byte_byte : Nat := 46
abbrev F_slices_Clone_sl_disk_write_disk_write : Nat := 47
abbrev F_milestoneref29_Disk_Make : Nat := 48
abbrev F_milestoneref29_Disk_Write : Nat := 49
abbrev F_milestoneref29_Disk_Sync : Nat := 50
abbrev F_milestoneref29_Disk_Rename : Nat := 51
abbrev F_milestoneref29_Disk_Remove : Nat := 52
abbrev F_milestoneref29_Disk_SyncDir : Nat := 53
abbrev F_milestoneref29_Disk_Read : Nat := 54
abbrev F_milestoneref29_Disk_Arm : Nat := 55
abbrev F_milestoneref29_Disk_Crash : Nat := 56
abbrev F_milestoneref29_Disk_Names : Nat := 57
abbrev F_milestoneref29_Disk_Pending : Nat := 58
abbrev F_strings_Builder_Grow : Nat := 59
abbrev F_strings_Builder_WriteString : Nat := 60
abbrev F_strings_Builder_String : Nat := 61
abbrev F_slices_Collect_string : Nat := 62
abbrev F_disk_directory_rising : Nat := 63
abbrev F_math_bits_Mul : Nat := 64
abbrev F_strings_HasPrefix : Nat := 65
abbrev F_strings_Builder_Len : Nat := 66
abbrev F_disk_Disk_Rename_1 : Nat := 67
abbrev F_disk_Disk_Rename_1_1 : Nat := 68
abbrev F_disk_Disk_Remove_1 : Nat := 69
abbrev F_disk_Disk_Remove_1_1 : Nat := 70
abbrev F_disk_Disk_change_1 : Nat := 71
abbrev F_slices_ContainsFunc_sl_string_string : Nat := 72
abbrev F_disk_names_1 : Nat := 73
abbrev F_disk_Disk_named_1 : Nat := 75
abbrev F_slices_Compact_sl_int_int : Nat := 76
abbrev F_slices_Sorted_int : Nat := 77
abbrev F_maps_Values_disk_directory_string_int : Nat := 78
abbrev F_milestoneref29_Disk_change : Nat := 79
abbrev F_milestoneref29_May : Nat := 80
abbrev F_milestoneref29_Disk_refused : Nat := 81
abbrev F_milestoneref29_Disk_step : Nat := 82
abbrev F_milestoneref29_Points : Nat := 83
abbrev F_milestoneref29_Thing_Bytes : Nat := 84
abbrev F_milestoneref29_Disk_points : Nat := 85
abbrev F_strings_Builder_copyCheck : Nat := 86
abbrev F_strings_Builder_grow : Nat := 87
abbrev F_slices_AppendSeq_sl_string_string : Nat := 88
abbrev F_disk_directory_rising_1 : Nat := 89
abbrev F_slices_Sorted_string : Nat := 90
abbrev F_maps_Keys_disk_directory_string_int : Nat := 91
abbrev F_math_bits_Mul32 : Nat := 92
abbrev F_math_bits_Mul64 : Nat := 93
abbrev F_internal_stringslite_HasPrefix : Nat := 94
abbrev F_slices_IndexFunc_sl_string_string : Nat := 95
abbrev F_slices_Collect_int : Nat := 96
abbrev F_slices_Sort_sl_int_int : Nat := 97
abbrev F_maps_Values_disk_directory_string_int_1 : Nat := 98
abbrev F_slices_Sort_sl_string_string : Nat := 101
abbrev F_maps_Keys_disk_directory_string_int_1 : Nat := 102
abbrev F_slices_AppendSeq_sl_int_int : Nat := 103
abbrev F_slices_pdqsortOrdered_int : Nat := 104
abbrev F_math_bits_Len : Nat := 105
abbrev F_slices_pdqsortOrdered_string : Nat := 106
abbrev F_slices_insertionSortOrdered_int : Nat := 107
abbrev F_slices_heapSortOrdered_int : Nat := 108
abbrev F_slices_breakPatternsOrdered_int : Nat := 109
abbrev F_slices_choosePivotOrdered_int : Nat := 110
abbrev F_slices_reverseRangeOrdered_int : Nat := 111
abbrev F_slices_partialInsertionSortOrdered_int : Nat := 112
abbrev F_cmp_Less_int : Nat := 113
abbrev F_slices_partitionEqualOrdered_int : Nat := 114
abbrev F_slices_partitionOrdered_int : Nat := 115
abbrev F_math_bits_Len32 : Nat := 116
abbrev F_math_bits_Len64 : Nat := 117
abbrev F_slices_insertionSortOrdered_string : Nat := 118
abbrev F_slices_heapSortOrdered_string : Nat := 119
abbrev F_slices_breakPatternsOrdered_string : Nat := 120
abbrev F_slices_choosePivotOrdered_string : Nat := 121
abbrev F_slices_reverseRangeOrdered_string : Nat := 122
abbrev F_slices_partialInsertionSortOrdered_string : Nat := 123
abbrev F_cmp_Less_string : Nat := 124
abbrev F_slices_partitionEqualOrdered_string : Nat := 125
abbrev F_slices_partitionOrdered_string : Nat := 126
abbrev F_slices_siftDownOrdered_int : Nat := 127
abbrev F_slices_nextPowerOfTwo : Nat := 128
abbrev F_slices_xorshift_Next : Nat := 129
abbrev F_slices_medianAdjacentOrdered_int : Nat := 130
abbrev F_slices_medianOrdered_int : Nat := 131
abbrev F_cmp_isNaN_int : Nat := 132
abbrev F_slices_siftDownOrdered_string : Nat := 133
abbrev F_slices_medianAdjacentOrdered_string : Nat := 134
abbrev F_slices_medianOrdered_string : Nat := 135
abbrev F_cmp_isNaN_string : Nat := 136
abbrev F_slices_order2Ordered_int : Nat := 137
abbrev F_slices_order2Ordered_string : Nat := 138
abbrev T_ : Nat := 0
abbrev T_func : Nat := 1
abbrev T_int64 : Nat := 2
abbrev T_int : Nat := 3
abbrev T_bool : Nat := 4
abbrev T_uint8 : Nat := 5
abbrev T_abi_BoundsErrorCode : Nat := 6
abbrev T_struct_x_int64_y_int_signed_bool_code_abi_BoundsErrorCode : Nat := 7
abbrev T_runtime_boundsError : Nat := 8
abbrev T_string : Nat := 9
abbrev T_runtime_errorString : Nat := 10
abbrev T_runtime_plainError : Nat := 11
abbrev T_uintptr : Nat := 12
abbrev T_struct_msg_string_addr_uintptr : Nat := 13
abbrev T_runtime_errorAddressString : Nat := 14
abbrev T_p_runtime_TypeAssertionError : Nat := 15
abbrev T_p_runtime_PanicNilError : Nat := 16
abbrev T_p_abi_Type : Nat := 17
abbrev T_struct_typ_p_abi_Type : Nat := 18
abbrev T_maps_unhashableTypeError : Nat := 19
abbrev T_interface : Nat := 20
abbrev T_int32 : Nat := 21
abbrev T_sl_milestoneref29_Act : Nat := 22
abbrev T_2_sl_milestoneref29_Act : Nat := 23
abbrev T_sl_uint8 : Nat := 24
abbrev T_func_bool : Nat := 25
abbrev T_p_disk_Disk : Nat := 26
abbrev T_func_p_disk_Disk : Nat := 27
abbrev T_string_int : Nat := 28
abbrev T_funcdisk_Disk_milestoneref29_Act_string_int : Nat := 29
abbrev T_struct_What_uint8_A_uint8_B_uint8_At_uint8_Text_string_Fates_sl_uint8 : Nat := 30
abbrev T_milestoneref29_Act : Nat := 31
abbrev T_func_int : Nat := 32
abbrev T_api_Errno : Nat := 33
abbrev T_func_string_api_Errno : Nat := 34
abbrev T_func_string_int_string_api_Errno : Nat := 35
abbrev T_func_api_Errno : Nat := 36
abbrev T_func_sl_uint8 : Nat := 37
abbrev T_funcdisk_Disk_string_string : Nat := 38
abbrev T_func_2_sl_milestoneref29_Act_string_sl_uint8_bool : Nat := 39
abbrev T_funcdisk_Disk_string : Nat := 40
abbrev T_func_sl_milestoneref29_Act_sl_milestoneref29_Act_sl_uint8_bool : Nat := 41
abbrev T_p_milestoneref29_Disk : Nat := 42
abbrev T_sl_milestoneref29_Thing : Nat := 43
abbrev T_sl_milestoneref29_Change : Nat := 44
abbrev T_struct_Things_sl_milestoneref29_Thing_Changes_sl_milestoneref29_Change_Off_bool_Armed_int : Nat := 45
abbrev T_milestoneref29_Disk : Nat := 46
abbrev T_func_milestoneref29_Act_string_int : Nat := 47
abbrev T_funcdisk_Disk_p_milestoneref29_Disk_bool : Nat := 48
abbrev T_func_sl_milestoneref29_Act_bool : Nat := 49
abbrev T_sl_string : Nat := 50
abbrev T_func_sl_string_string_string : Nat := 51
abbrev T_func_sl_string : Nat := 52
abbrev T_int_int : Nat := 53
abbrev T_func_int_int : Nat := 54
abbrev T_func_sl_milestoneref29_Act_sl_uint8_bool : Nat := 55
abbrev T_func_string_int_string : Nat := 56
abbrev T_string_api_Errno : Nat := 57
abbrev T_func_string_string_api_Errno : Nat := 58
abbrev T_func_string_string_api_Errno_v2 : Nat := 59
abbrev T_map_string_int : Nat := 60
abbrev T_disk_directory : Nat := 61
abbrev T_map_int_p_disk_thing : Nat := 62
abbrev T_sl_disk_change : Nat := 63
abbrev T_struct_durable_disk_directory_now_disk_directory_things_map_int_p_disk_thing_pending_sl_disk_change_made_int_armed_int_off_bool : Nat := 64
abbrev T_disk_Disk : Nat := 65
abbrev T_func_uint8_string : Nat := 66
abbrev T_func_api_Errno_func_disk_change_api_Errno : Nat := 67
abbrev T_func_api_Errno_string_api_Errno : Nat := 68
abbrev T_func_string_api_Errno_v2 : Nat := 69
abbrev T_func_disk_directory : Nat := 70
abbrev T_struct_do_func_disk_directory : Nat := 71
abbrev T_disk_change : Nat := 72
abbrev T_p_disk_thing : Nat := 73
abbrev T_sl_disk_write : Nat := 74
abbrev T_struct_durable_sl_uint8_pending_sl_disk_write : Nat := 75
abbrev T_disk_thing : Nat := 76
abbrev T_func_disk_change : Nat := 77
abbrev T_func_api_Errno_func_api_Errno : Nat := 78
abbrev T_struct_at_int_s_string : Nat := 79
abbrev T_disk_write : Nat := 80
abbrev T_func_sl_uint8_v2 : Nat := 81
abbrev T_func_disk_directory_disk_directory : Nat := 82
abbrev T_func_int_v2 : Nat := 83
abbrev T_func_func_int_p_disk_thing_bool : Nat := 84
abbrev T_iter_Seq2_int_p_disk_thing : Nat := 85
abbrev T_func_iter_Seq2_int_p_disk_thing : Nat := 86
abbrev T_func_sl_uint8_disk_write_sl_uint8 : Nat := 87
abbrev T_func_sl_disk_change_sl_disk_change : Nat := 88
abbrev T_func_sl_uint8_sl_uint8 : Nat := 89
abbrev T_func_sl_disk_write_sl_disk_write : Nat := 90
abbrev T_p_strings_Builder : Nat := 91
abbrev T_struct_addr_p_strings_Builder_buf_sl_uint8 : Nat := 92
abbrev T_strings_Builder : Nat := 93
abbrev T_interface_Error_string : Nat := 94
abbrev T_error : Nat := 95
abbrev T_int_error : Nat := 96
abbrev T_func_string_int_error : Nat := 97
abbrev T_func_string : Nat := 98
abbrev T_func_iter_Seq_string_sl_string : Nat := 99
abbrev T_func_func_string_bool : Nat := 100
abbrev T_iter_Seq_string : Nat := 101
abbrev T_func_iter_Seq_string : Nat := 102
abbrev T_uint : Nat := 103
abbrev T_uint_uint : Nat := 104
abbrev T_func_uint_uint_uint_uint : Nat := 105
abbrev T_func_string_string_bool : Nat := 106
abbrev T_int_bool : Nat := 107
abbrev T_func_sl_string_func_string_bool_bool : Nat := 108
abbrev T_func_string_bool : Nat := 109
abbrev T_func_interface_interface : Nat := 110
abbrev T_func_int_p_disk_thing_bool : Nat := 111
abbrev T_sl_int : Nat := 112
abbrev T_func_sl_int_sl_int : Nat := 113
abbrev T_func_iter_Seq_int_sl_int : Nat := 114
abbrev T_func_func_int_bool : Nat := 115
abbrev T_iter_Seq_int : Nat := 116
abbrev T_func_disk_directory_iter_Seq_int : Nat := 117
abbrev T_func_bool_milestoneref29_Change_string_api_Errno : Nat := 118
abbrev T_struct_What_int_N_int_A_string_B_string_Synced_bool : Nat := 119
abbrev T_milestoneref29_Change : Nat := 120
abbrev T_sl_milestoneref29_Write : Nat := 121
abbrev T_struct_Writes_sl_milestoneref29_Write : Nat := 122
abbrev T_milestoneref29_Thing : Nat := 123
abbrev T_func_bool_string_api_Errno : Nat := 124
abbrev T_func_sl_milestoneref29_Change_string_int : Nat := 125
abbrev T_struct_At_int_S_string_Synced_bool : Nat := 126
abbrev T_milestoneref29_Write : Nat := 127
abbrev T_func_int_bool : Nat := 128
abbrev T_2_string : Nat := 129
abbrev T_p_uint8 : Nat := 130
abbrev T_func_sl_string_iter_Seq_string_sl_string : Nat := 131
abbrev T_func_disk_directory_iter_Seq_string : Nat := 132
abbrev T_uint32 : Nat := 133
abbrev T_uint32_uint32 : Nat := 134
abbrev T_func_uint32_uint32_uint32_uint32 : Nat := 135
abbrev T_uint64 : Nat := 136
abbrev T_uint64_uint64 : Nat := 137
abbrev T_func_uint64_uint64_uint64_uint64 : Nat := 138
abbrev T_func_sl_string_func_string_bool_int : Nat := 139
abbrev T_func_sl_int : Nat := 140
abbrev T_unsafe_Pointer : Nat := 141
abbrev T_func_unsafe_Pointer_unsafe_Pointer : Nat := 142
abbrev T_func_int_sl_uint8 : Nat := 143
abbrev T_func_sl_string_v2 : Nat := 144
abbrev T_func_sl_int_iter_Seq_int_sl_int : Nat := 145
abbrev T_func_sl_int_int_int_int : Nat := 146
abbrev T_func_uint_int : Nat := 147
abbrev T_func_sl_string_int_int_int : Nat := 148
abbrev T_func_sl_int_int_int : Nat := 149
abbrev T_slices_sortedHint : Nat := 150
abbrev T_int_slices_sortedHint : Nat := 151
abbrev T_func_sl_int_int_int_int_slices_sortedHint : Nat := 152
abbrev T_func_sl_int_int_int_bool : Nat := 153
abbrev T_func_int_int_bool : Nat := 154
abbrev T_func_sl_int_int_int_int_int : Nat := 155
abbrev T_func_sl_int_int_int_int_int_bool : Nat := 156
abbrev T_func_uint32_int : Nat := 157
abbrev T_func_uint64_int : Nat := 158
abbrev T_func_sl_string_int_int : Nat := 159
abbrev T_func_sl_string_int_int_int_slices_sortedHint : Nat := 160
abbrev T_func_sl_string_int_int_bool : Nat := 161
abbrev T_func_sl_string_int_int_int_int : Nat := 162
abbrev T_func_sl_string_int_int_int_int_bool : Nat := 163
abbrev T_slices_xorshift : Nat := 164
abbrev T_func_int_uint : Nat := 165
abbrev T_func_uint64 : Nat := 166
abbrev T_func_sl_int_int_p_int_int : Nat := 167
abbrev T_p_int : Nat := 168
abbrev T_func_sl_int_int_int_int_p_int_int : Nat := 169
abbrev T_func_sl_string_int_p_int_int : Nat := 170
abbrev T_func_sl_string_int_int_int_p_int_int : Nat := 171
abbrev T_p_slices_xorshift : Nat := 172
abbrev T_func_sl_int_int_int_p_int_int_int : Nat := 173
abbrev T_func_sl_string_int_int_p_int_int_int : Nat := 174
abbrev T_struct_interface_p_abi_Type_concrete_p_abi_Type_asserted_p_abi_Type_missingMethod_string : Nat := 175
abbrev T_runtime_TypeAssertionError : Nat := 176
abbrev T_0_p_runtime_PanicNilError : Nat := 177
abbrev T_struct_0_p_runtime_PanicNilError : Nat := 178
abbrev T_runtime_PanicNilError : Nat := 179
abbrev T_abi_TFlag : Nat := 180
abbrev T_abi_Kind : Nat := 181
abbrev T_func_unsafe_Pointer_unsafe_Pointer_bool : Nat := 182
abbrev T_abi_NameOff : Nat := 183
abbrev T_abi_TypeOff : Nat := 184
abbrev T_struct_Size_uintptr_PtrBytes_uintptr_Hash_uint32_TFlag_abi_TFlag_Align_uint8_FieldAlign_uint8_Kind_abi_Kind_Equal_func_unsafe_Pointer_unsafe_Pointer_bool_GCData_p_uint8_Str_abi_NameOff_PtrToThis_abi_TypeOff : Nat := 185
abbrev T_abi_Type : Nat := 186
abbrev G_internal_bytealg_MaxLen : Nat := 0
end Go.Proofs.YtdbkeklhjjlhbaaGreat

namespace Go.Proofs.YtdbkeklhjjlhbaaGreat
open Go Go.Mh
set_option maxHeartbeats 0
set_option linter.unusedVariables false

/-! milestone/milestonelaw29.DiskKeeps -/

def sh_milestonelaw29_DiskKeeps_k3 (P : Program) (t18 : Value) (K : Value → Heap → Prop) (h_9 : Heap) : Prop :=
  callS P F_disk_Disk_On [t18] h_9 fun t61 h_10 =>
  pUn .not t61 fun t62 =>
  K t62 h_10

def sh_milestonelaw29_DiskKeeps_k5 (P : Program) (fates2 t18 t17 : Value) (K : Value → Heap → Prop) (h_16 : Heap) : Prop :=
  pLen fates2 fun t82 =>
  pMin t82 (.int .i64 20) fun t83 =>
  pSlice 1 fates2 none (some t83) none fun t84 =>
  callS P F_disk_Disk_Crash [t18, t84] h_16 fun t85 h_17 =>
  callS P F_milestonelaw29_read [t18, (.string ⟨#[107, 101, 112, 116]⟩)] h_17 fun t87 h_18 =>
  pBin .eql t87 t17 fun t89 =>
  K t89 h_18

def sh_milestonelaw29_DiskKeeps_L4 (P : Program) (t20 t18 fates2 t17 : Value) (K : Value → Heap → Prop) (i10 : Value) (h_14 : Heap) (Z_1 : Value → Heap → Prop) : Prop :=
  pLen t20 fun t65 =>
  pBin .lss i10 t65 fun t66 =>
  ifV t66
  (pBin .lss i10 (.int .i64 20) fun t69 =>
  ifV t69
  (pIdx 6 t20 i10 fun t76 =>
  pLoadN 6 h_14 t76 fun t77 =>
  callS P F_milestonelaw29_do [t18, t77] h_14 fun t78 h_15 =>
  pBin .add i10 (.int .i64 1) fun t72 =>
  Z_1 t72 h_15)
  (sh_milestonelaw29_DiskKeeps_k5 P fates2 t18 t17 K h_14))
  (sh_milestonelaw29_DiskKeeps_k5 P fates2 t18 t17 K h_14)

def sh_milestonelaw29_DiskKeeps_k2 (P : Program) (t18 : Value) (K : Value → Heap → Prop) (t17 t20 fates2 : Value) (h_6 : Heap) : Prop :=
  callS P F_disk_Disk_Arm [t18, (.int .i64 0)] h_6 fun t40 h_7 =>
  callS P F_disk_Disk_Make [t18, (.string ⟨#[107, 101, 112, 116]⟩)] h_7 fun t42 h_8 =>
  pBin .neq t42 (.int .i64 0) fun t43 =>
  ifV t43
  (sh_milestonelaw29_DiskKeeps_k3 P t18 K h_8)
  (callS P F_disk_Disk_Write [t18, (.string ⟨#[107, 101, 112, 116]⟩), (.int .i64 0), t17] h_8 fun t47 h_11 =>
  pBin .neq t47 (.int .i64 0) fun t48 =>
  ifV t48
  (sh_milestonelaw29_DiskKeeps_k3 P t18 K h_11)
  (callS P F_disk_Disk_Sync [t18, (.string ⟨#[107, 101, 112, 116]⟩)] h_11 fun t52 h_12 =>
  pBin .neq t52 (.int .i64 0) fun t53 =>
  ifV t53
  (sh_milestonelaw29_DiskKeeps_k3 P t18 K h_12)
  (callS P F_disk_Disk_SyncDir [t18] h_12 fun t57 h_13 =>
  pBin .neq t57 (.int .i64 0) fun t58 =>
  ifV t58
  (sh_milestonelaw29_DiskKeeps_k3 P t18 K h_13)
  (LoopH (σ := Vals [10]) (fun x hh ZZ => sh_milestonelaw29_DiskKeeps_L4 P t20 t18 fates2 t17 K x.1 hh (fun a0 hz => ZZ (a0, ()) hz)) ((.int .i64 0), ()) h_13))))

def sh_milestonelaw29_DiskKeeps_L1 (P : Program) (l3 t18 : Value) (K : Value → Heap → Prop) (t17 t20 fates2 i9 : Value) (h_4 : Heap) (Z : Value → Heap → Prop) : Prop :=
  pIdxA 1 2 l3 (.int .i64 0) fun t22 =>
  pLoad h_4 t22 fun t23 =>
  pLen t23 fun t24 =>
  pBin .lss i9 t24 fun t25 =>
  ifV t25
  (pBin .lss i9 (.int .i64 20) fun t28 =>
  ifV t28
  (pIdxA 1 2 l3 (.int .i64 0) fun t33 =>
  pLoad h_4 t33 fun t34 =>
  pIdx 6 t34 i9 fun t36 =>
  pLoadN 6 h_4 t36 fun t37 =>
  callS P F_milestonelaw29_do [t18, t37] h_4 fun t38 h_5 =>
  pBin .add i9 (.int .i64 1) fun t31 =>
  Z t31 h_5)
  (sh_milestonelaw29_DiskKeeps_k2 P t18 K t17 t20 fates2 h_4))
  (sh_milestonelaw29_DiskKeeps_k2 P t18 K t17 t20 fates2 h_4)

def sh_milestonelaw29_DiskKeeps (P : Program) (l0 text1 fates2 : Value) (h : Heap) (K : Value → Heap → Prop) : Prop :=
  pBox T_2_sl_milestoneref29_Act l0 h fun l3 h_1 =>
  callS P F_milestonelaw29_works [] h_1 fun t11 h_2 =>
  pUn .not t11 fun t12 =>
  ifV t12
  (K (.bool false) h_2)
  (pLenS text1 fun t15 =>
  pMin t15 (.int .i64 40) fun t16 =>
  pSliceS text1 none (some t16) fun t17 =>
  callS P F_disk_New [] h_2 fun t18 h_3 =>
  pIdxA 1 2 l3 (.int .i64 1) fun t19 =>
  pLoad h_3 t19 fun t20 =>
  LoopH (σ := Vals [9]) (fun x hh ZZ => sh_milestonelaw29_DiskKeeps_L1 P l3 t18 K t17 t20 fates2 x.1 hh (fun a0 hz => ZZ (a0, ()) hz)) ((.int .i64 0), ()) h_3)

set_option maxRecDepth 100000 in
theorem lk_milestonelaw29_DiskKeeps (l0 text1 fates2 : Value) {h : Heap} {K : Value → Heap → Prop} (H : sh_milestonelaw29_DiskKeeps Tryz.prog l0 text1 fates2 h K) : CallsH Tryz.prog F_milestonelaw29_DiskKeeps [l0, text1, fates2].toArray h K :=
  callsH_of (ann := (annG (Tryz.f3.body.getD .skip) 0 [(9, [9]), (19, [10])]).1) (c := Tryz.f3.body.getD .skip) Tryz.func3 (by kernel_rfl) (by kernel_rfl) (by kernel_rfl) (of_decide_eq_true (by kernel_rfl))
    (Eq.mpr (by kernel_rfl) H)

/-! milestone/milestonelaw29.DiskCopies -/

def sh_milestonelaw29_DiskCopies_k5 (P : Program) (K : Value → Heap → Prop) (h_13 : Heap) : Prop :=
  K (.bool false) h_13

def sh_milestonelaw29_DiskCopies_k7 (P : Program) (K : Value → Heap → Prop) (h_20 : Heap) : Prop :=
  K (.bool false) h_20

def sh_milestonelaw29_DiskCopies_k8 (P : Program) (t20 t41 t45 t43 : Value) (K : Value → Heap → Prop) (h_21 : Heap) : Prop :=
  callS P F_disk_Disk_Crash [t20, t41] h_21 fun t119 h_22 =>
  callS P F_disk_Disk_Crash [t45, t41] h_22 fun t122 h_23 =>
  callS P F_disk_Disk_Crash [t43, t41] h_23 fun t125 h_24 =>
  callS P F_milestonelaw29_state [t20] h_24 fun t127 h_25 =>
  callS P F_milestonelaw29_state [t45] h_25 fun t129 h_26 =>
  pBin .eql t127 t129 fun t130 =>
  ifV t130
  (callS P F_milestonelaw29_state [t43] h_26 fun t133 h_27 =>
  callS P F_milestonelaw29_state [t20] h_27 fun t135 h_28 =>
  pBin .eql t133 t135 fun t136 =>
  K t136 h_28)
  (K (.bool false) h_26)

def sh_milestonelaw29_DiskCopies_L6 (P : Program) (m1 t20 t45 : Value) (K : Value → Heap → Prop) (t41 t43 i13 : Value) (h_17 : Heap) (Z_2 : Value → Heap → Prop) : Prop :=
  pLen m1 fun t83 =>
  pBin .lss i13 t83 fun t84 =>
  ifV t84
  (pBin .lss i13 (.int .i64 20) fun t87 =>
  ifV t87
  (pIdx 6 m1 i13 fun t95 =>
  pLoadN 6 h_17 t95 fun t96 =>
  callS P F_milestonelaw29_do [t20, t96] h_17 fun t97 h_18 =>
  pExt t97 0 fun t98 =>
  pExt t97 1 fun t99 =>
  pIdx 6 m1 i13 fun t104 =>
  pLoadN 6 h_18 t104 fun t105 =>
  callS P F_milestonelaw29_do [t45, t105] h_18 fun t106 h_19 =>
  pExt t106 0 fun t107 =>
  pExt t106 1 fun t108 =>
  pBin .neq t98 t107 fun t111 =>
  ifV t111
  (sh_milestonelaw29_DiskCopies_k7 P K h_19)
  (pBin .neq t99 t108 fun t115 =>
  ifV t115
  (sh_milestonelaw29_DiskCopies_k7 P K h_19)
  (pBin .add i13 (.int .i64 1) fun t90 =>
  Z_2 t90 h_19)))
  (sh_milestonelaw29_DiskCopies_k8 P t20 t41 t45 t43 K h_17))
  (sh_milestonelaw29_DiskCopies_k8 P t20 t41 t45 t43 K h_17)

def sh_milestonelaw29_DiskCopies_k4 (P : Program) (t20 t47 : Value) (K : Value → Heap → Prop) (t45 m1 t41 t43 : Value) (h_11 : Heap) : Prop :=
  callS P F_milestonelaw29_state [t20] h_11 fun t65 h_12 =>
  pBin .neq t65 t47 fun t67 =>
  ifV t67
  (sh_milestonelaw29_DiskCopies_k5 P K h_12)
  (callS P F_milestonelaw29_state [t45] h_12 fun t70 h_14 =>
  pBin .neq t70 t47 fun t72 =>
  ifV t72
  (sh_milestonelaw29_DiskCopies_k5 P K h_14)
  (callS P F_disk_Disk_On [t20] h_14 fun t76 h_15 =>
  callS P F_disk_Disk_On [t45] h_15 fun t78 h_16 =>
  pEq true .bool t76 t78 fun t79 =>
  ifV t79
  (sh_milestonelaw29_DiskCopies_k5 P K h_16)
  (LoopH (σ := Vals [13]) (fun x hh ZZ => sh_milestonelaw29_DiskCopies_L6 P m1 t20 t45 K t41 t43 x.1 hh (fun a0 hz => ZZ (a0, ()) hz)) ((.int .i64 0), ()) h_16)))

def sh_milestonelaw29_DiskCopies_L3 (P : Program) (m1 t43 t20 t47 : Value) (K : Value → Heap → Prop) (t45 t41 i12 : Value) (h_9 : Heap) (Z_1 : Value → Heap → Prop) : Prop :=
  pLen m1 fun t50 =>
  pBin .lss i12 t50 fun t51 =>
  ifV t51
  (pBin .lss i12 (.int .i64 20) fun t54 =>
  ifV t54
  (pIdx 6 m1 i12 fun t61 =>
  pLoadN 6 h_9 t61 fun t62 =>
  callS P F_milestonelaw29_do [t43, t62] h_9 fun t63 h_10 =>
  pBin .add i12 (.int .i64 1) fun t57 =>
  Z_1 t57 h_10)
  (sh_milestonelaw29_DiskCopies_k4 P t20 t47 K t45 m1 t41 t43 h_9))
  (sh_milestonelaw29_DiskCopies_k4 P t20 t47 K t45 m1 t41 t43 h_9)

def sh_milestonelaw29_DiskCopies_k2 (P : Program) (fates2 t20 m1 : Value) (K : Value → Heap → Prop) (h_5 : Heap) : Prop :=
  pLen fates2 fun t39 =>
  pMin t39 (.int .i64 20) fun t40 =>
  pSlice 1 fates2 none (some t40) none fun t41 =>
  callS P F_disk_Disk_Copy [t20] h_5 fun t43 h_6 =>
  callS P F_disk_Disk_Copy [t20] h_6 fun t45 h_7 =>
  callS P F_milestonelaw29_state [t20] h_7 fun t47 h_8 =>
  LoopH (σ := Vals [12]) (fun x hh ZZ => sh_milestonelaw29_DiskCopies_L3 P m1 t43 t20 t47 K t45 t41 x.1 hh (fun a0 hz => ZZ (a0, ()) hz)) ((.int .i64 0), ()) h_8

def sh_milestonelaw29_DiskCopies_L1 (P : Program) (l0 t20 fates2 m1 : Value) (K : Value → Heap → Prop) (i8 : Value) (h_3 : Heap) (Z : Value → Heap → Prop) : Prop :=
  pLen l0 fun t23 =>
  pBin .lss i8 t23 fun t24 =>
  ifV t24
  (pBin .lss i8 (.int .i64 20) fun t27 =>
  ifV t27
  (pIdx 6 l0 i8 fun t34 =>
  pLoadN 6 h_3 t34 fun t35 =>
  callS P F_milestonelaw29_do [t20, t35] h_3 fun t36 h_4 =>
  pBin .add i8 (.int .i64 1) fun t30 =>
  Z t30 h_4)
  (sh_milestonelaw29_DiskCopies_k2 P fates2 t20 m1 K h_3))
  (sh_milestonelaw29_DiskCopies_k2 P fates2 t20 m1 K h_3)

def sh_milestonelaw29_DiskCopies (P : Program) (l0 m1 fates2 : Value) (h : Heap) (K : Value → Heap → Prop) : Prop :=
  callS P F_milestonelaw29_works [] h fun t18 h_1 =>
  pUn .not t18 fun t19 =>
  ifV t19
  (K (.bool false) h_1)
  (callS P F_disk_New [] h_1 fun t20 h_2 =>
  LoopH (σ := Vals [8]) (fun x hh ZZ => sh_milestonelaw29_DiskCopies_L1 P l0 t20 fates2 m1 K x.1 hh (fun a0 hz => ZZ (a0, ()) hz)) ((.int .i64 0), ()) h_2)

set_option maxRecDepth 100000 in
theorem lk_milestonelaw29_DiskCopies (l0 m1 fates2 : Value) {h : Heap} {K : Value → Heap → Prop} (H : sh_milestonelaw29_DiskCopies Tryz.prog l0 m1 fates2 h K) : CallsH Tryz.prog F_milestonelaw29_DiskCopies [l0, m1, fates2].toArray h K :=
  callsH_of (ann := (annG (Tryz.f4.body.getD .skip) 0 [(7, [8]), (16, [12]), (25, [13])]).1) (c := Tryz.f4.body.getD .skip) Tryz.func4 (by kernel_rfl) (by kernel_rfl) (by kernel_rfl) (of_decide_eq_true (by kernel_rfl))
    (Eq.mpr (by kernel_rfl) H)

/-! milestone/milestonelaw29.DiskTells -/

def sh_milestonelaw29_DiskTells_k1 (P : Program) (K : Value → Heap → Prop) (h_3 : Heap) : Prop :=
  K (.bool false) h_3

def sh_milestonelaw29_DiskTells_k3 (P : Program) (K : Value → Heap → Prop) (h_8 : Heap) : Prop :=
  K (.bool false) h_8

def sh_milestonelaw29_DiskTells_k4 (P : Program) (K : Value → Heap → Prop) (h_10 : Heap) : Prop :=
  K (.bool true) h_10

def sh_milestonelaw29_DiskTells_L2 (P : Program) (l0 t10 t12 : Value) (K : Value → Heap → Prop) (i5 : Value) (h_5 : Heap) (Z : Value → Heap → Prop) : Prop :=
  pLen l0 fun t21 =>
  pBin .lss i5 t21 fun t22 =>
  ifV t22
  (pBin .lss i5 (.int .i64 40) fun t25 =>
  ifV t25
  (pIdx 6 l0 i5 fun t33 =>
  pLoadN 6 h_5 t33 fun t34 =>
  callS P F_milestonelaw29_do [t10, t34] h_5 fun t35 h_6 =>
  pExt t35 0 fun t36 =>
  pExt t35 1 fun t37 =>
  pIdx 6 l0 i5 fun t42 =>
  pLoadN 6 h_6 t42 fun t43 =>
  callS P F_milestoneref29_Disk_Do [t12, t43] h_6 fun t44 h_7 =>
  pExt t44 0 fun t45 =>
  pExt t44 1 fun t46 =>
  pBin .neq t36 t45 fun t49 =>
  ifV t49
  (sh_milestonelaw29_DiskTells_k3 P K h_7)
  (pBin .neq t37 t46 fun t53 =>
  ifV t53
  (sh_milestonelaw29_DiskTells_k3 P K h_7)
  (callS P F_milestonelaw29_alike [t10, t12] h_7 fun t58 h_9 =>
  pUn .not t58 fun t59 =>
  ifV t59
  (sh_milestonelaw29_DiskTells_k3 P K h_9)
  (pBin .add i5 (.int .i64 1) fun t28 =>
  Z t28 h_9))))
  (sh_milestonelaw29_DiskTells_k4 P K h_5))
  (sh_milestonelaw29_DiskTells_k4 P K h_5)

def sh_milestonelaw29_DiskTells (P : Program) (l0 : Value) (h : Heap) (K : Value → Heap → Prop) : Prop :=
  callS P F_disk_New [] h fun t10 h_1 =>
  pBuild [(.slice none 0 0), (.slice none 0 0), (.bool false), (.int .i64 0)] [] fun t11 =>
  pBox T_milestoneref29_Disk t11 h_1 fun t12 h_2 =>
  pEq false .ptr t10 (.pointer none) fun t14 =>
  ifV t14
  (sh_milestonelaw29_DiskTells_k1 P K h_2)
  (callS P F_milestonelaw29_works [] h_2 fun t16 h_4 =>
  pUn .not t16 fun t17 =>
  ifV t17
  (sh_milestonelaw29_DiskTells_k1 P K h_4)
  (LoopH (σ := Vals [5]) (fun x hh ZZ => sh_milestonelaw29_DiskTells_L2 P l0 t10 t12 K x.1 hh (fun a0 hz => ZZ (a0, ()) hz)) ((.int .i64 0), ()) h_4))

set_option maxRecDepth 100000 in
theorem lk_milestonelaw29_DiskTells (l0 : Value) {h : Heap} {K : Value → Heap → Prop} (H : sh_milestonelaw29_DiskTells Tryz.prog l0 h K) : CallsH Tryz.prog F_milestonelaw29_DiskTells [l0].toArray h K :=
  callsH_of (ann := (annG (Tryz.f5.body.getD .skip) 0 [(7, [5])]).1) (c := Tryz.f5.body.getD .skip) Tryz.func5 (by kernel_rfl) (by kernel_rfl) (by kernel_rfl) (of_decide_eq_true (by kernel_rfl))
    (Eq.mpr (by kernel_rfl) H)

/-! milestone/milestonelaw29.DiskBeginning -/

def sh_milestonelaw29_DiskBeginning_k4 (P : Program) (i7 : Value) (Z : Value → Value → Heap → Prop) (seen6_2 : Value) (h_15 : Heap) : Prop :=
  pBin .add i7 (.int .i64 1) fun t30 =>
  Z seen6_2 t30 h_15

def sh_milestonelaw29_DiskBeginning_k3 (P : Program) (t19 i7 : Value) (Z : Value → Value → Heap → Prop) (seen6_1 : Value) (h_9 : Heap) : Prop :=
  callS P F_disk_Disk_On [t19] h_9 fun t56 h_10 =>
  ifV t56
  (callS P F_disk_Disk_Names [t19] h_10 fun t59 h_11 =>
  callS P F_strings_Join [t59, (.string ⟨#[32]⟩)] h_11 fun t60 h_12 =>
  pBuildSlice T_string (zerosL [(.string ⟨#[]⟩)] 1) [(0, 1, t60)] 1 h_12 fun t61 h_13 =>
  pAppend T_string 1 16 [(.string ⟨#[]⟩)] seen6_1 t61 h_13 fun t62 h_14 =>
  sh_milestonelaw29_DiskBeginning_k4 P i7 Z t62 h_14)
  (sh_milestonelaw29_DiskBeginning_k4 P i7 Z seen6_1 h_10)

def sh_milestonelaw29_DiskBeginning_k2 (P : Program) (t19 i7 : Value) (Z : Value → Value → Heap → Prop) (h_8 : Heap) : Prop :=
  sh_milestonelaw29_DiskBeginning_k3 P t19 i7 Z (.slice none 0 0) h_8

def sh_milestonelaw29_DiskBeginning_k7 (P : Program) (i13 : Value) (Z_1 : Value → Value → Heap → Prop) (there12_1 : Value) (h_21 : Heap) : Prop :=
  pBin .add i13 (.int .i64 1) fun t78 =>
  Z_1 there12_1 t78 h_21

def sh_milestonelaw29_DiskBeginning_L6 (P : Program) (seen6 t72 t19 : Value) (K : Value → Heap → Prop) (there12 i13 : Value) (h_20 : Heap) (Z_1 : Value → Value → Heap → Prop) : Prop :=
  pLen seen6 fun t75 =>
  pBin .lss i13 t75 fun t76 =>
  ifV t76
  (ifV there12
  (sh_milestonelaw29_DiskBeginning_k7 P i13 Z_1 (.bool true) h_20)
  (pIdx 1 seen6 i13 fun t83 =>
  pLoad h_20 t83 fun t84 =>
  pBin .eql t84 t72 fun t86 =>
  sh_milestonelaw29_DiskBeginning_k7 P i13 Z_1 t86 h_20))
  (callS P F_milestonelaw29_state [t19] h_20 fun t89 h_22 =>
  callS P F_disk_Disk_Pending [t19] h_22 fun t92 h_23 =>
  pExt t92 0 fun t93 =>
  pExt t92 1 fun t94 =>
  pBuildSlice T_uint8 (zerosL [(.int .u8 0)] 4) [(0, 1, (.int .u8 1)), (1, 1, (.int .u8 0)), (2, 1, (.int .u8 1)), (3, 1, (.int .u8 0))] 4 h_23 fun t96 h_24 =>
  callS P F_disk_Disk_Crash [t19, t96] h_24 fun t97 h_25 =>
  ifV there12
  (pBin .eql t93 (.int .i64 0) fun t101 =>
  ifV t101
  (pBin .eql t94 (.int .i64 0) fun t105 =>
  ifV t105
  (callS P F_disk_Disk_On [t19] h_25 fun t109 h_26 =>
  ifV t109
  (callS P F_milestonelaw29_state [t19] h_26 fun t113 h_27 =>
  pBin .eql t113 t89 fun t115 =>
  K t115 h_27)
  (K (.bool false) h_26))
  (K (.bool false) h_25))
  (K (.bool false) h_25))
  (K (.bool false) h_25))

def sh_milestonelaw29_DiskBeginning_k5 (P : Program) (fates1 t19 seen6 : Value) (K : Value → Heap → Prop) (h_16 : Heap) : Prop :=
  pLen fates1 fun t66 =>
  pMin t66 (.int .i64 20) fun t67 =>
  pSlice 1 fates1 none (some t67) none fun t68 =>
  callS P F_disk_Disk_Crash [t19, t68] h_16 fun t69 h_17 =>
  callS P F_disk_Disk_Names [t19] h_17 fun t71 h_18 =>
  callS P F_strings_Join [t71, (.string ⟨#[32]⟩)] h_18 fun t72 h_19 =>
  LoopH (σ := Vals [12, 13]) (fun x hh ZZ => sh_milestonelaw29_DiskBeginning_L6 P seen6 t72 t19 K x.1 x.2.1 hh (fun a0 a1 hz => ZZ (a0, (a1, ())) hz)) ((.bool false), ((.int .i64 0), ())) h_19

def sh_milestonelaw29_DiskBeginning_L1 (P : Program) (l0 t19 fates1 : Value) (K : Value → Heap → Prop) (seen6 i7 : Value) (h_4 : Heap) (Z : Value → Value → Heap → Prop) : Prop :=
  pLen l0 fun t23 =>
  pBin .lss i7 t23 fun t24 =>
  ifV t24
  (pBin .lss i7 (.int .i64 40) fun t27 =>
  ifV t27
  (pIdx 6 l0 i7 fun t33 =>
  pLoadN 6 h_4 t33 fun t34 =>
  pBox T_milestoneref29_Act (.agg #[(.int .u8 0), (.int .u8 0), (.int .u8 0), (.int .u8 0), (.string ⟨#[]⟩), (.slice none 0 0)]) h_4 fun x8 h_5 =>
  pStore 6 x8 t34 h_5 fun u h_6 =>
  pLoadN 6 h_6 x8 fun t37 =>
  callS P F_milestonelaw29_do [t19, t37] h_6 fun t38 h_7 =>
  pExt t38 0 fun t39 =>
  pExt t38 1 fun t40 =>
  pField 0 x8 fun t41 =>
  pLoad h_7 t41 fun t42 =>
  pBin .rem t42 (.int .u8 9) fun t43 =>
  pBin .eql t43 (.int .u8 8) fun t44 =>
  ifV t44
  (sh_milestonelaw29_DiskBeginning_k2 P t19 i7 Z h_7)
  (pField 0 x8 fun t46 =>
  pLoad h_7 t46 fun t47 =>
  pBin .rem t47 (.int .u8 9) fun t48 =>
  pBin .eql t48 (.int .u8 5) fun t49 =>
  ifV t49
  (pBin .eql t40 (.int .i64 0) fun t52 =>
  ifV t52
  (sh_milestonelaw29_DiskBeginning_k2 P t19 i7 Z h_7)
  (sh_milestonelaw29_DiskBeginning_k3 P t19 i7 Z seen6 h_7))
  (sh_milestonelaw29_DiskBeginning_k3 P t19 i7 Z seen6 h_7)))
  (sh_milestonelaw29_DiskBeginning_k5 P fates1 t19 seen6 K h_4))
  (sh_milestonelaw29_DiskBeginning_k5 P fates1 t19 seen6 K h_4)

def sh_milestonelaw29_DiskBeginning (P : Program) (l0 fates1 : Value) (h : Heap) (K : Value → Heap → Prop) : Prop :=
  callS P F_milestonelaw29_works [] h fun t17 h_1 =>
  pUn .not t17 fun t18 =>
  ifV t18
  (K (.bool false) h_1)
  (callS P F_disk_New [] h_1 fun t19 h_2 =>
  pBuildSlice T_string (zerosL [(.string ⟨#[]⟩)] 1) [(0, 1, (.string ⟨#[]⟩))] 1 h_2 fun t20 h_3 =>
  LoopH (σ := Vals [6, 7]) (fun x hh ZZ => sh_milestonelaw29_DiskBeginning_L1 P l0 t19 fates1 K x.1 x.2.1 hh (fun a0 a1 hz => ZZ (a0, (a1, ())) hz)) (t20, ((.int .i64 0), ())) h_3)

set_option maxRecDepth 100000 in
theorem lk_milestonelaw29_DiskBeginning (l0 fates1 : Value) {h : Heap} {K : Value → Heap → Prop} (H : sh_milestonelaw29_DiskBeginning Tryz.prog l0 fates1 h K) : CallsH Tryz.prog F_milestonelaw29_DiskBeginning [l0, fates1].toArray h K :=
  callsH_of (ann := (annG (Tryz.f6.body.getD .skip) 0 [(8, [6, 7]), (22, [12, 13])]).1) (c := Tryz.f6.body.getD .skip) Tryz.func6 (by kernel_rfl) (by kernel_rfl) (by kernel_rfl) (of_decide_eq_true (by kernel_rfl))
    (Eq.mpr (by kernel_rfl) H)

/-! milestone/milestonelaw29.DiskKnown -/

def sh_milestonelaw29_DiskKnown_k4 (P : Program) (t148 one4 two7 three10 : Value) (K : Value → Heap → Prop) (four12 : Value) (h_44 : Heap) : Prop :=
  callS P F_disk_Disk_Arm [t148, (.int .i64 (-3))] h_44 fun t170 h_45 =>
  callS P F_disk_Disk_Crash [t148, (.slice none 0 0)] h_45 fun t172 h_46 =>
  callS P F_disk_Disk_Read [(.pointer none), (.string ⟨#[97]⟩)] h_46 fun t175 h_47 =>
  pExt t175 0 fun t176 =>
  pExt t175 1 fun t177 =>
  callS P F_disk_Disk_Pending [(.pointer none)] h_47 fun t180 h_48 =>
  pExt t180 0 fun t181 =>
  pExt t180 1 fun t182 =>
  callS P F_disk_Disk_Arm [(.pointer none), (.int .i64 1)] h_48 fun t184 h_49 =>
  callS P F_disk_Disk_Crash [(.pointer none), (.slice none 0 0)] h_49 fun t186 h_50 =>
  callS P F_milestonelaw29_works [] h_50 fun t188 h_51 =>
  ifV t188
  (ifV one4
  (ifV two7
  (ifV three10
  (ifV four12
  (callS P F_disk_Disk_On [t148] h_51 fun t204 h_52 =>
  ifV t204
  (callS P F_disk_Disk_Make [t148, (.string ⟨#[97]⟩)] h_52 fun t208 h_53 =>
  pBin .eql t208 (.int .i64 0) fun t209 =>
  ifV t209
  (pBin .eql t177 (.int .i64 1) fun t213 =>
  ifV t213
  (pBin .eql t181 (.int .i64 0) fun t217 =>
  ifV t217
  (pBin .eql t182 (.int .i64 0) fun t221 =>
  ifV t221
  (callS P F_disk_Disk_On [(.pointer none)] h_53 fun t225 h_54 =>
  pUn .not t225 fun t226 =>
  ifV t226
  (callS P F_disk_Disk_Names [(.pointer none)] h_54 fun t230 h_55 =>
  pLen t230 fun t231 =>
  pBin .eql t231 (.int .i64 0) fun t232 =>
  ifV t232
  (callS P F_disk_Disk_Make [(.pointer none), (.string ⟨#[97]⟩)] h_55 fun t236 h_56 =>
  pBin .eql t236 (.int .i64 1) fun t237 =>
  ifV t237
  (callS P F_disk_Disk_SyncDir [(.pointer none)] h_56 fun t241 h_57 =>
  pBin .eql t241 (.int .i64 1) fun t242 =>
  ifV t242
  (callS P F_disk_Disk_Copy [(.pointer none)] h_57 fun t246 h_58 =>
  pEq false .ptr t246 (.pointer none) fun t247 =>
  K t247 h_58)
  (K (.bool false) h_57))
  (K (.bool false) h_56))
  (K (.bool false) h_55))
  (K (.bool false) h_54))
  (K (.bool false) h_53))
  (K (.bool false) h_53))
  (K (.bool false) h_53))
  (K (.bool false) h_53))
  (K (.bool false) h_52))
  (K (.bool false) h_51))
  (K (.bool false) h_51))
  (K (.bool false) h_51))
  (K (.bool false) h_51))
  (K (.bool false) h_51)

def sh_milestonelaw29_DiskKnown_k3 (P : Program) (one4 two7 : Value) (K : Value → Heap → Prop) (three10 : Value) (h_37 : Heap) : Prop :=
  callS P F_disk_New [] h_37 fun t148 h_38 =>
  callS P F_disk_Disk_Arm [t148, (.int .i64 1)] h_38 fun t150 h_39 =>
  callS P F_disk_Disk_SyncDir [t148] h_39 fun t152 h_40 =>
  pBin .eql t152 (.int .i64 22) fun t153 =>
  ifV t153
  (callS P F_disk_Disk_On [t148] h_40 fun t156 h_41 =>
  pUn .not t156 fun t157 =>
  ifV t157
  (callS P F_disk_Disk_Make [t148, (.string ⟨#[97]⟩)] h_41 fun t161 h_42 =>
  pBin .eql t161 (.int .i64 22) fun t162 =>
  ifV t162
  (callS P F_disk_Disk_Make [t148, (.string ⟨#[]⟩)] h_42 fun t166 h_43 =>
  pBin .eql t166 (.int .i64 22) fun t167 =>
  sh_milestonelaw29_DiskKnown_k4 P t148 one4 two7 three10 K t167 h_43)
  (sh_milestonelaw29_DiskKnown_k4 P t148 one4 two7 three10 K (.bool false) h_42))
  (sh_milestonelaw29_DiskKnown_k4 P t148 one4 two7 three10 K (.bool false) h_41))
  (sh_milestonelaw29_DiskKnown_k4 P t148 one4 two7 three10 K (.bool false) h_40)

def sh_milestonelaw29_DiskKnown_k2 (P : Program) (one4 : Value) (K : Value → Heap → Prop) (two7 : Value) (h_20 : Heap) : Prop :=
  callS P F_disk_New [] h_20 fun t115 h_21 =>
  callS P F_disk_Disk_Make [t115, (.string ⟨#[97]⟩)] h_21 fun t117 h_22 =>
  callS P F_disk_Disk_Write [t115, (.string ⟨#[97]⟩), (.int .i64 0), (.string ⟨#[111, 108, 100]⟩)] h_22 fun t119 h_23 =>
  callS P F_disk_Disk_Sync [t115, (.string ⟨#[97]⟩)] h_23 fun t121 h_24 =>
  callS P F_disk_Disk_SyncDir [t115] h_24 fun t123 h_25 =>
  callS P F_disk_Disk_Make [t115, (.string ⟨#[98]⟩)] h_25 fun t125 h_26 =>
  callS P F_disk_Disk_Write [t115, (.string ⟨#[98]⟩), (.int .i64 0), (.string ⟨#[110, 101, 119]⟩)] h_26 fun t127 h_27 =>
  callS P F_disk_Disk_Sync [t115, (.string ⟨#[98]⟩)] h_27 fun t129 h_28 =>
  callS P F_disk_Disk_Rename [t115, (.string ⟨#[98]⟩), (.string ⟨#[97]⟩)] h_28 fun t131 h_29 =>
  callS P F_disk_Disk_Copy [t115] h_29 fun t133 h_30 =>
  pBuildSlice T_uint8 (zerosL [(.int .u8 0)] 1) [(0, 1, (.int .u8 1))] 1 h_30 fun t135 h_31 =>
  callS P F_disk_Disk_Crash [t115, t135] h_31 fun t136 h_32 =>
  pBuildSlice T_uint8 (zerosL [(.int .u8 0)] 1) [(0, 1, (.int .u8 2))] 1 h_32 fun t138 h_33 =>
  callS P F_disk_Disk_Crash [t133, t138] h_33 fun t139 h_34 =>
  callS P F_milestonelaw29_state [t115] h_34 fun t141 h_35 =>
  pBin .eql t141 (.string ⟨#[97, 61, 111, 108, 100, 59, 98, 61, 110, 101, 119, 59]⟩) fun t142 =>
  ifV t142
  (callS P F_milestonelaw29_state [t133] h_35 fun t145 h_36 =>
  pBin .eql t145 (.string ⟨#[97, 61, 110, 101, 119, 59]⟩) fun t146 =>
  sh_milestonelaw29_DiskKnown_k3 P one4 two7 K t146 h_36)
  (sh_milestonelaw29_DiskKnown_k3 P one4 two7 K (.bool false) h_35)

def sh_milestonelaw29_DiskKnown_k1 (P : Program) (t17 t18 : Value) (K : Value → Heap → Prop) (one4 : Value) (h_11 : Heap) : Prop :=
  callS P F_disk_Disk_Read [t17, t18] h_11 fun t66 h_12 =>
  pExt t66 0 fun t67 =>
  pExt t66 1 fun t68 =>
  pBin .eql t68 (.int .i64 0) fun t70 =>
  ifV t70
  (pLenS t67 fun t73 =>
  pBin .eql t73 (.int .i64 1048576) fun t74 =>
  ifV t74
  (callS P F_disk_Disk_Rename [t17, t18, t18] h_12 fun t80 h_13 =>
  pBin .eql t80 (.int .i64 0) fun t81 =>
  ifV t81
  (callS P F_disk_Disk_Rename [t17, (.string ⟨#[120]⟩), (.string ⟨#[121]⟩)] h_13 fun t85 h_14 =>
  pBin .eql t85 (.int .i64 21) fun t86 =>
  ifV t86
  (callS P F_disk_Disk_Rename [t17, (.string ⟨#[120]⟩), (.string ⟨#[]⟩)] h_14 fun t90 h_15 =>
  pBin .eql t90 (.int .i64 2) fun t91 =>
  ifV t91
  (callS P F_disk_Disk_Remove [t17, (.string ⟨#[120]⟩)] h_15 fun t95 h_16 =>
  pBin .eql t95 (.int .i64 21) fun t96 =>
  ifV t96
  (callS P F_disk_Disk_Sync [t17, (.string ⟨#[120]⟩)] h_16 fun t100 h_17 =>
  pBin .eql t100 (.int .i64 21) fun t101 =>
  ifV t101
  (callS P F_disk_Disk_Remove [t17, t18] h_17 fun t106 h_18 =>
  pBin .eql t106 (.int .i64 0) fun t107 =>
  ifV t107
  (callS P F_disk_Disk_Names [t17] h_18 fun t111 h_19 =>
  pLen t111 fun t112 =>
  pBin .eql t112 (.int .i64 0) fun t113 =>
  sh_milestonelaw29_DiskKnown_k2 P one4 K t113 h_19)
  (sh_milestonelaw29_DiskKnown_k2 P one4 K (.bool false) h_18))
  (sh_milestonelaw29_DiskKnown_k2 P one4 K (.bool false) h_17))
  (sh_milestonelaw29_DiskKnown_k2 P one4 K (.bool false) h_16))
  (sh_milestonelaw29_DiskKnown_k2 P one4 K (.bool false) h_15))
  (sh_milestonelaw29_DiskKnown_k2 P one4 K (.bool false) h_14))
  (sh_milestonelaw29_DiskKnown_k2 P one4 K (.bool false) h_13))
  (sh_milestonelaw29_DiskKnown_k2 P one4 K (.bool false) h_12))
  (sh_milestonelaw29_DiskKnown_k2 P one4 K (.bool false) h_12)

def sh_milestonelaw29_DiskKnown (P : Program) (h : Heap) (K : Value → Heap → Prop) : Prop :=
  callS P F_disk_New [] h fun t17 h_1 =>
  callS P F_strings_Repeat [(.string ⟨#[110]⟩), (.int .i64 16)] h_1 fun t18 h_2 =>
  callS P F_disk_Disk_Make [t17, t18] h_2 fun t21 h_3 =>
  pBin .eql t21 (.int .i64 0) fun t22 =>
  ifV t22
  (pBin .add t18 (.string ⟨#[110]⟩) fun t26 =>
  callS P F_disk_Disk_Make [t17, t26] h_3 fun t27 h_4 =>
  pBin .eql t27 (.int .i64 2) fun t28 =>
  ifV t28
  (callS P F_disk_Disk_Make [t17, (.string ⟨#[]⟩)] h_4 fun t32 h_5 =>
  pBin .eql t32 (.int .i64 2) fun t33 =>
  ifV t33
  (callS P F_disk_Disk_Write [t17, t18, (.int .i64 1048576), (.string ⟨#[]⟩)] h_5 fun t38 h_6 =>
  pBin .eql t38 (.int .i64 0) fun t39 =>
  ifV t39
  (callS P F_disk_Disk_Write [t17, t18, (.int .i64 1048576), (.string ⟨#[120]⟩)] h_6 fun t44 h_7 =>
  pBin .eql t44 (.int .i64 2) fun t45 =>
  ifV t45
  (callS P F_disk_Disk_Write [t17, t18, (.int .i64 (-1)), (.string ⟨#[120]⟩)] h_7 fun t50 h_8 =>
  pBin .eql t50 (.int .i64 2) fun t51 =>
  ifV t51
  (callS P F_disk_Disk_Write [t17, (.string ⟨#[120]⟩), (.int .i64 4611686018427387904), (.string ⟨#[120]⟩)] h_8 fun t55 h_9 =>
  pBin .eql t55 (.int .i64 2) fun t56 =>
  ifV t56
  (callS P F_disk_Disk_Write [t17, (.string ⟨#[120]⟩), (.int .i64 0), (.string ⟨#[120]⟩)] h_9 fun t60 h_10 =>
  pBin .eql t60 (.int .i64 21) fun t61 =>
  sh_milestonelaw29_DiskKnown_k1 P t17 t18 K t61 h_10)
  (sh_milestonelaw29_DiskKnown_k1 P t17 t18 K (.bool false) h_9))
  (sh_milestonelaw29_DiskKnown_k1 P t17 t18 K (.bool false) h_8))
  (sh_milestonelaw29_DiskKnown_k1 P t17 t18 K (.bool false) h_7))
  (sh_milestonelaw29_DiskKnown_k1 P t17 t18 K (.bool false) h_6))
  (sh_milestonelaw29_DiskKnown_k1 P t17 t18 K (.bool false) h_5))
  (sh_milestonelaw29_DiskKnown_k1 P t17 t18 K (.bool false) h_4))
  (sh_milestonelaw29_DiskKnown_k1 P t17 t18 K (.bool false) h_3)

set_option maxRecDepth 100000 in
theorem lk_milestonelaw29_DiskKnown {h : Heap} {K : Value → Heap → Prop} (H : sh_milestonelaw29_DiskKnown Tryz.prog h K) : CallsH Tryz.prog F_milestonelaw29_DiskKnown [].toArray h K :=
  callsH_of (ann := (annG (Tryz.f7.body.getD .skip) 0 []).1) (c := Tryz.f7.body.getD .skip) Tryz.func7 (by kernel_rfl) (by kernel_rfl) (by kernel_rfl) (of_decide_eq_true (by kernel_rfl))
    (Eq.mpr (by kernel_rfl) H)

/-! milestone/milestonelaw29.works -/

def sh_milestonelaw29_works_k3 (P : Program) (t80 one2 two6 t68 : Value) (K : Value → Heap → Prop) (three9 : Value) (h_40 : Heap) : Prop :=
  pBuildSlice T_uint8 (zerosL [(.int .u8 0)] 1) [(0, 1, (.int .u8 1))] 1 h_40 fun t98 h_41 =>
  callS P F_disk_Disk_Crash [t80, t98] h_41 fun t99 h_42 =>
  ifV one2
  (ifV two6
  (callS P F_disk_Disk_Names [t68] h_42 fun t106 h_43 =>
  callS P F_strings_Join [t106, (.string ⟨#[32]⟩)] h_43 fun t107 h_44 =>
  pBin .eql t107 (.string ⟨#[97, 32, 98]⟩) fun t108 =>
  ifV t108
  (ifV three9
  (callS P F_disk_Disk_Names [t80] h_44 fun t115 h_45 =>
  callS P F_strings_Join [t115, (.string ⟨#[32]⟩)] h_45 fun t116 h_46 =>
  pBin .eql t116 (.string ⟨#[97]⟩) fun t117 =>
  K t117 h_46)
  (K (.bool false) h_44))
  (K (.bool false) h_44))
  (K (.bool false) h_42))
  (K (.bool false) h_42)

def sh_milestonelaw29_works_k2 (P : Program) (one2 : Value) (K : Value → Heap → Prop) (two6 : Value) (h_27 : Heap) : Prop :=
  callS P F_disk_New [] h_27 fun t68 h_28 =>
  callS P F_disk_Disk_Make [t68, (.string ⟨#[97]⟩)] h_28 fun t70 h_29 =>
  callS P F_disk_Disk_SyncDir [t68] h_29 fun t72 h_30 =>
  callS P F_disk_Disk_Make [t68, (.string ⟨#[98]⟩)] h_30 fun t74 h_31 =>
  callS P F_disk_Disk_Rename [t68, (.string ⟨#[98]⟩), (.string ⟨#[97]⟩)] h_31 fun t76 h_32 =>
  pBuildSlice T_uint8 (zerosL [(.int .u8 0)] 1) [(0, 1, (.int .u8 1))] 1 h_32 fun t78 h_33 =>
  callS P F_disk_Disk_Crash [t68, t78] h_33 fun t79 h_34 =>
  callS P F_disk_New [] h_34 fun t80 h_35 =>
  callS P F_disk_Disk_Arm [t80, (.int .i64 2)] h_35 fun t82 h_36 =>
  callS P F_disk_Disk_Make [t80, (.string ⟨#[97]⟩)] h_36 fun t84 h_37 =>
  pBin .eql t84 (.int .i64 0) fun t85 =>
  ifV t85
  (callS P F_disk_Disk_Make [t80, (.string ⟨#[98]⟩)] h_37 fun t88 h_38 =>
  pBin .eql t88 (.int .i64 22) fun t89 =>
  ifV t89
  (callS P F_disk_Disk_Names [t80] h_38 fun t93 h_39 =>
  pLen t93 fun t94 =>
  pBin .eql t94 (.int .i64 0) fun t95 =>
  sh_milestonelaw29_works_k3 P t80 one2 two6 t68 K t95 h_39)
  (sh_milestonelaw29_works_k3 P t80 one2 two6 t68 K (.bool false) h_38))
  (sh_milestonelaw29_works_k3 P t80 one2 two6 t68 K (.bool false) h_37)

def sh_milestonelaw29_works_k1 (P : Program) (K : Value → Heap → Prop) (one2 : Value) (h_8 : Heap) : Prop :=
  callS P F_disk_New [] h_8 fun t29 h_9 =>
  callS P F_disk_Disk_Make [t29, (.string ⟨#[97]⟩)] h_9 fun t31 h_10 =>
  pBuildSlice T_uint8 (zerosL [(.int .u8 0)] 1) [(0, 1, (.int .u8 0))] 1 h_10 fun t33 h_11 =>
  callS P F_disk_Disk_Crash [t29, t33] h_11 fun t34 h_12 =>
  callS P F_disk_New [] h_12 fun t35 h_13 =>
  callS P F_disk_Disk_Make [t35, (.string ⟨#[97]⟩)] h_13 fun t37 h_14 =>
  callS P F_disk_Disk_Write [t35, (.string ⟨#[97]⟩), (.int .i64 0), (.string ⟨#[120, 121]⟩)] h_14 fun t39 h_15 =>
  callS P F_disk_Disk_Sync [t35, (.string ⟨#[97]⟩)] h_15 fun t41 h_16 =>
  callS P F_disk_Disk_SyncDir [t35] h_16 fun t43 h_17 =>
  callS P F_disk_Disk_Write [t35, (.string ⟨#[97]⟩), (.int .i64 1), (.string ⟨#[122]⟩)] h_17 fun t45 h_18 =>
  callS P F_disk_Disk_Copy [t35] h_18 fun t47 h_19 =>
  pBuildSlice T_uint8 (zerosL [(.int .u8 0)] 2) [(0, 1, (.int .u8 0)), (1, 1, (.int .u8 0))] 2 h_19 fun t49 h_20 =>
  callS P F_disk_Disk_Crash [t35, t49] h_20 fun t50 h_21 =>
  pBuildSlice T_uint8 (zerosL [(.int .u8 0)] 2) [(0, 1, (.int .u8 0)), (1, 1, (.int .u8 1))] 2 h_21 fun t52 h_22 =>
  callS P F_disk_Disk_Crash [t47, t52] h_22 fun t53 h_23 =>
  callS P F_disk_Disk_Names [t29] h_23 fun t55 h_24 =>
  pLen t55 fun t56 =>
  pBin .eql t56 (.int .i64 0) fun t57 =>
  ifV t57
  (callS P F_milestonelaw29_read [t35, (.string ⟨#[97]⟩)] h_24 fun t60 h_25 =>
  pBin .eql t60 (.string ⟨#[120, 121]⟩) fun t61 =>
  ifV t61
  (callS P F_milestonelaw29_read [t47, (.string ⟨#[97]⟩)] h_25 fun t65 h_26 =>
  pBin .eql t65 (.string ⟨#[120, 122]⟩) fun t66 =>
  sh_milestonelaw29_works_k2 P one2 K t66 h_26)
  (sh_milestonelaw29_works_k2 P one2 K (.bool false) h_25))
  (sh_milestonelaw29_works_k2 P one2 K (.bool false) h_24)

def sh_milestonelaw29_works (P : Program) (h : Heap) (K : Value → Heap → Prop) : Prop :=
  callS P F_disk_New [] h fun t10 h_1 =>
  pEq false .ptr t10 (.pointer none) fun t12 =>
  ifV t12
  (K (.bool false) h_1)
  (callS P F_disk_Disk_Make [t10, (.string ⟨#[97]⟩)] h_1 fun t14 h_2 =>
  callS P F_disk_Disk_Write [t10, (.string ⟨#[97]⟩), (.int .i64 2), (.string ⟨#[120, 121]⟩)] h_2 fun t16 h_3 =>
  callS P F_milestonelaw29_read [t10, (.string ⟨#[97]⟩)] h_3 fun t18 h_4 =>
  pBin .eql t18 (.string ⟨#[0, 0, 120, 121]⟩) fun t19 =>
  pBuildSlice T_uint8 (zerosL [(.int .u8 0)] 1) [(0, 1, (.int .u8 1))] 1 h_4 fun t21 h_5 =>
  callS P F_disk_Disk_Crash [t10, t21] h_5 fun t22 h_6 =>
  ifV t19
  (callS P F_milestonelaw29_read [t10, (.string ⟨#[97]⟩)] h_6 fun t26 h_7 =>
  pBin .eql t26 (.string ⟨#[]⟩) fun t27 =>
  sh_milestonelaw29_works_k1 P K t27 h_7)
  (sh_milestonelaw29_works_k1 P K (.bool false) h_6))

set_option maxRecDepth 100000 in
theorem lk_milestonelaw29_works {h : Heap} {K : Value → Heap → Prop} (H : sh_milestonelaw29_works Tryz.prog h K) : CallsH Tryz.prog F_milestonelaw29_works [].toArray h K :=
  callsH_of (ann := (annG (Tryz.f8.body.getD .skip) 0 []).1) (c := Tryz.f8.body.getD .skip) Tryz.func8 (by kernel_rfl) (by kernel_rfl) (by kernel_rfl) (of_decide_eq_true (by kernel_rfl))
    (Eq.mpr (by kernel_rfl) H)

end Go.Proofs.YtdbkeklhjjlhbaaGreat

namespace Go.Proofs.YtdbkeklhjjlhbaaGreat
open Go Go.Mh
set_option maxHeartbeats 0
set_option linter.unusedVariables false

/-! milestone/disk.New -/

def sh_disk_New (P : Program) (h : Heap) (K : Value → Heap → Prop) : Prop :=
  pMakeMap h fun t1 h_1 =>
  pMakeMap h_1 fun t2 h_2 =>
  pMakeMap h_2 fun t3 h_3 =>
  pBuild [(.map none), (.map none), (.map none), (.slice none 0 0), (.int .i64 0), (.int .i64 0), (.bool false)] [(0, 1, t1), (1, 1, t2), (2, 1, t3)] fun t4 =>
  pBox T_disk_Disk t4 h_3 fun t5 h_4 =>
  K t5 h_4

set_option maxRecDepth 100000 in
theorem lk_disk_New {h : Heap} {K : Value → Heap → Prop} (H : sh_disk_New Tryz.prog h K) : CallsH Tryz.prog F_disk_New [].toArray h K :=
  callsH_of (ann := (annG (Tryz.f9.body.getD .skip) 0 []).1) (c := Tryz.f9.body.getD .skip) Tryz.func9 (by kernel_rfl) (by kernel_rfl) (by kernel_rfl) (of_decide_eq_true (by kernel_rfl))
    (Eq.mpr (by kernel_rfl) H)

/-! milestone/milestonelaw29.do -/

def sh_milestonelaw29_do (P : Program) (d0 x1 : Value) (h : Heap) (K : Value → Heap → Prop) : Prop :=
  pBox T_milestoneref29_Act x1 h fun x3 h_1 =>
  pField 4 x3 fun t11 =>
  pLoad h_1 t11 fun t12 =>
  pField 4 x3 fun t13 =>
  pLoad h_1 t13 fun t14 =>
  pLenS t14 fun t15 =>
  pMin t15 (.int .i64 12) fun t16 =>
  pSliceS t12 none (some t16) fun t17 =>
  pField 1 x3 fun t18 =>
  pLoad h_1 t18 fun t19 =>
  pField 2 x3 fun t21 =>
  pLoad h_1 t21 fun t22 =>
  callS P F_milestoneref29_Name [t19] h_1 fun t20 h_2 =>
  (pLoad h_2 t21 fun t22_1 =>
  t22_1 = t22) ∧
  (callS P F_milestoneref29_Name [t22] h_2 fun t23 h_3 =>
  pField 0 x3 fun t24 =>
  pLoad h_3 t24 fun t25 =>
  pBin .rem t25 (.int .u8 9) fun t26 =>
  pBin .eql t26 (.int .u8 0) fun t28 =>
  ifV t28
  (callS P F_disk_Disk_Make [d0, t20] h_3 fun t31 h_4 =>
  K (.tuple #[(.string ⟨#[]⟩), t31]) h_4)
  (pBin .eql t26 (.int .u8 1) fun t33 =>
  ifV t33
  (pField 3 x3 fun t36 =>
  pLoad h_3 t36 fun t37 =>
  pBin .rem t37 (.int .u8 40) fun t38 =>
  pConv .i64 t38 fun t39 =>
  pBin .sub t39 (.int .i64 2) fun t40 =>
  callS P F_disk_Disk_Write [d0, t20, t40, t17] h_3 fun t42 h_5 =>
  K (.tuple #[(.string ⟨#[]⟩), t42]) h_5)
  (pBin .eql t26 (.int .u8 2) fun t44 =>
  ifV t44
  (callS P F_disk_Disk_Sync [d0, t20] h_3 fun t47 h_6 =>
  K (.tuple #[(.string ⟨#[]⟩), t47]) h_6)
  (pBin .eql t26 (.int .u8 3) fun t49 =>
  ifV t49
  (callS P F_disk_Disk_Rename [d0, t20, t23] h_3 fun t53 h_7 =>
  K (.tuple #[(.string ⟨#[]⟩), t53]) h_7)
  (pBin .eql t26 (.int .u8 4) fun t55 =>
  ifV t55
  (callS P F_disk_Disk_Remove [d0, t20] h_3 fun t58 h_8 =>
  K (.tuple #[(.string ⟨#[]⟩), t58]) h_8)
  (pBin .eql t26 (.int .u8 5) fun t60 =>
  ifV t60
  (callS P F_disk_Disk_SyncDir [d0] h_3 fun t62 h_9 =>
  K (.tuple #[(.string ⟨#[]⟩), t62]) h_9)
  (pBin .eql t26 (.int .u8 6) fun t64 =>
  ifV t64
  (callS P F_disk_Disk_Read [d0, t20] h_3 fun t68 h_10 =>
  pExt t68 0 fun t69 =>
  pExt t68 1 fun t70 =>
  K (.tuple #[t69, t70]) h_10)
  (pBin .eql t26 (.int .u8 7) fun t74 =>
  ifV t74
  (pField 3 x3 fun t76 =>
  pLoad h_3 t76 fun t77 =>
  pBin .rem t77 (.int .u8 6) fun t78 =>
  pConv .i64 t78 fun t79 =>
  pBin .sub t79 (.int .i64 1) fun t80 =>
  callS P F_disk_Disk_Arm [d0, t80] h_3 fun t81 h_11 =>
  K (.tuple #[(.string ⟨#[]⟩), (.int .i64 0)]) h_11)
  (pField 5 x3 fun t83 =>
  pLoad h_3 t83 fun t84 =>
  pField 5 x3 fun t85 =>
  pLoad h_3 t85 fun t86 =>
  pLen t86 fun t87 =>
  pMin t87 (.int .i64 20) fun t88 =>
  pSlice 1 t84 none (some t88) none fun t89 =>
  callS P F_disk_Disk_Crash [d0, t89] h_3 fun t90 h_12 =>
  K (.tuple #[(.string ⟨#[]⟩), (.int .i64 0)]) h_12)))))))))

set_option maxRecDepth 100000 in
theorem lk_milestonelaw29_do (d0 x1 : Value) {h : Heap} {K : Value → Heap → Prop} (H : sh_milestonelaw29_do Tryz.prog d0 x1 h K) : CallsH Tryz.prog F_milestonelaw29_do [d0, x1].toArray h K :=
  callsH_of (ann := (annG (Tryz.f10.body.getD .skip) 0 []).1) (c := Tryz.f10.body.getD .skip) Tryz.func10 (by kernel_rfl) (by kernel_rfl) (by kernel_rfl) (of_decide_eq_true (by kernel_rfl))
    (Eq.mpr (by kernel_rfl) H)

/-! (*milestone/disk.Disk).Arm -/

def sh_disk_Disk_Arm (P : Program) (d0 n1 : Value) (h : Heap) (K : Value → Heap → Prop) : Prop :=
  pEq true .ptr d0 (.pointer none) fun t5 =>
  ifV t5
  (pMax (.int .i64 0) n1 fun t8 =>
  pNil d0 fun t9 =>
  pField 5 t9 fun t10 =>
  pStore 1 t10 t8 h fun u h_1 =>
  K (.tuple #[]) h_1)
  (K (.tuple #[]) h)

set_option maxRecDepth 100000 in
theorem lk_disk_Disk_Arm (d0 n1 : Value) {h : Heap} {K : Value → Heap → Prop} (H : sh_disk_Disk_Arm Tryz.prog d0 n1 h K) : CallsH Tryz.prog F_disk_Disk_Arm [d0, n1].toArray h K :=
  callsH_of (ann := (annG (Tryz.f11.body.getD .skip) 0 []).1) (c := Tryz.f11.body.getD .skip) Tryz.func11 (by kernel_rfl) (by kernel_rfl) (by kernel_rfl) (of_decide_eq_true (by kernel_rfl))
    (Eq.mpr (by kernel_rfl) H)

/-! (*milestone/disk.Disk).Make -/

def sh_disk_Disk_Make (P : Program) (d0 name1 : Value) (h : Heap) (K : Value → Heap → Prop) : Prop :=
  pBox T_p_disk_Disk d0 h fun d2 h_1 =>
  pBox T_string name1 h_1 fun name3 h_2 =>
  pLoad h_2 d2 fun t5 =>
  pLoad h_2 d2 fun t6 =>
  pLoad h_2 name3 fun t7 =>
  pBuildSlice T_string (zerosL [(.string ⟨#[]⟩)] 1) [(0, 1, t7)] 1 h_2 fun t8 h_3 =>
  callS P F_disk_names [t8] h_3 fun t9 h_4 =>
  (pLoad h_4 d2 fun t5_1 =>
  t5_1 = t5) ∧
  (pLoad h_4 d2 fun t6_1 =>
  t6_1 = t6) ∧
  (callS P F_disk_Disk_refused [t6, t9, (.slice none 0 0)] h_4 fun t10 h_5 =>
  (pLoad h_5 d2 fun t5_2 =>
  t5_2 = t5) ∧
  (callS P F_disk_Disk_change [t5, t10, (.func (.func F_disk_Disk_Make_1) #[] #[d2, name3])] h_5 fun t12 h_6 =>
  K t12 h_6))

set_option maxRecDepth 100000 in
theorem lk_disk_Disk_Make (d0 name1 : Value) {h : Heap} {K : Value → Heap → Prop} (H : sh_disk_Disk_Make Tryz.prog d0 name1 h K) : CallsH Tryz.prog F_disk_Disk_Make [d0, name1].toArray h K :=
  callsH_of (ann := (annG (Tryz.f12.body.getD .skip) 0 []).1) (c := Tryz.f12.body.getD .skip) Tryz.func12 (by kernel_rfl) (by kernel_rfl) (by kernel_rfl) (of_decide_eq_true (by kernel_rfl))
    (Eq.mpr (by kernel_rfl) H)

/-! (*milestone/disk.Disk).Write -/

def sh_disk_Disk_Write_k2 (P : Program) (d4 name5 at6 s7 : Value) (K : Value → Heap → Prop) (e9 : Value) (h_8 : Heap) : Prop :=
  pLoad h_8 d4 fun t26 =>
  pLoad h_8 d4 fun t27 =>
  pLoad h_8 name5 fun t29 =>
  pBuildSlice T_string (zerosL [(.string ⟨#[]⟩)] 1) [(0, 1, t29)] 1 h_8 fun t30 h_9 =>
  callS P F_disk_Disk_refused [t27, e9, t30] h_9 fun t31 h_10 =>
  (pLoad h_10 d4 fun t26_1 =>
  t26_1 = t26) ∧
  (callS P F_disk_Disk_step [t26, t31, (.func (.func F_disk_Disk_Write_1) #[] #[d4, name5, at6, s7])] h_10 fun t33 h_11 =>
  K t33 h_11)

def sh_disk_Disk_Write_k1 (P : Program) (d4 name5 at6 s7 : Value) (K : Value → Heap → Prop) (h_7 : Heap) : Prop :=
  sh_disk_Disk_Write_k2 P d4 name5 at6 s7 K (.int .i64 2) h_7

def sh_disk_Disk_Write (P : Program) (d0 name1 at2 s3 : Value) (h : Heap) (K : Value → Heap → Prop) : Prop :=
  pBox T_p_disk_Disk d0 h fun d4 h_1 =>
  pBox T_string name1 h_1 fun name5 h_2 =>
  pBox T_int at2 h_2 fun at6 h_3 =>
  pBox T_string s3 h_3 fun s7 h_4 =>
  pLoad h_4 name5 fun t10 =>
  pBuildSlice T_string (zerosL [(.string ⟨#[]⟩)] 1) [(0, 1, t10)] 1 h_4 fun t11 h_5 =>
  callS P F_disk_names [t11] h_5 fun t12 h_6 =>
  pBin .eql t12 (.int .i64 0) fun t14 =>
  ifV t14
  (pLoad h_6 at6 fun t16 =>
  pBin .lss t16 (.int .i64 0) fun t17 =>
  ifV t17
  (sh_disk_Disk_Write_k1 P d4 name5 at6 s7 K h_6)
  (pLoad h_6 at6 fun t19 =>
  pLoad h_6 s7 fun t20 =>
  pLenS t20 fun t21 =>
  pBin .sub (.int .i64 1048576) t21 fun t22 =>
  pBin .gtr t19 t22 fun t23 =>
  ifV t23
  (sh_disk_Disk_Write_k1 P d4 name5 at6 s7 K h_6)
  (sh_disk_Disk_Write_k2 P d4 name5 at6 s7 K t12 h_6)))
  (sh_disk_Disk_Write_k2 P d4 name5 at6 s7 K t12 h_6)

set_option maxRecDepth 100000 in
theorem lk_disk_Disk_Write (d0 name1 at2 s3 : Value) {h : Heap} {K : Value → Heap → Prop} (H : sh_disk_Disk_Write Tryz.prog d0 name1 at2 s3 h K) : CallsH Tryz.prog F_disk_Disk_Write [d0, name1, at2, s3].toArray h K :=
  callsH_of (ann := (annG (Tryz.f13.body.getD .skip) 0 []).1) (c := Tryz.f13.body.getD .skip) Tryz.func13 (by kernel_rfl) (by kernel_rfl) (by kernel_rfl) (of_decide_eq_true (by kernel_rfl))
    (Eq.mpr (by kernel_rfl) H)

/-! (*milestone/disk.Disk).Sync -/

def sh_disk_Disk_Sync_C1 (P : Program) (K : Value → Heap → Prop) (t4 : Value) (h_17 : Heap) : Prop :=
  K t4 h_17

def sh_disk_Disk_Sync (P : Program) (d0 name1 : Value) (h : Heap) (K : Value → Heap → Prop) : Prop :=
  pBox T_p_disk_Disk d0 h fun d2 h_1 =>
  pBox T_string name1 h_1 fun name3 h_2 =>
  cutP (σ := Vals [4]) (fun J =>
  pLoad h_2 d2 fun t5 =>
  pLoad h_2 d2 fun t6 =>
  pLoad h_2 name3 fun t7 =>
  pLoad h_2 name3 fun t10 =>
  (pBuildSlice T_string (zerosL [(.string ⟨#[]⟩)] 1) [(0, 1, t7)] 1 h_2 fun t8 h_3 =>
  (callS P F_disk_names [t8] h_3 fun t9 h_4 =>
  (pLoad h_4 d2 fun t5_1 =>
  t5_1 = t5) ∧
  (pLoad h_4 d2 fun t6_1 =>
  t6_1 = t6) ∧
  (pLoad h_4 name3 fun t10_1 =>
  t10_1 = t10) ∧
  (pBuildSlice T_string (zerosL [(.string ⟨#[]⟩)] 1) [(0, 1, t10)] 1 h_4 fun t11 h_5 =>
  callS P F_disk_Disk_refused [t6, t9, t11] h_5 fun t12 h_6 =>
  (pLoad h_6 d2 fun t5_2 =>
  t5_2 = t5) ∧
  (callS P F_disk_Disk_step [t5, t12, (.func (.func F_disk_Disk_Sync_1) #[] #[d2, name3])] h_6 fun t14 h_7 =>
  J (t14, ()) h_7))) ∧
  (pBuildSlice T_string (zerosL [(.string ⟨#[]⟩)] 1) [(0, 1, t10)] 1 h_3 fun t11_1 h_8 =>
  callS P F_disk_names [t8] h_8 fun t9_1 h_9 =>
  (pLoad h_9 d2 fun t5_3 =>
  t5_3 = t5) ∧
  (pLoad h_9 d2 fun t6_2 =>
  t6_2 = t6) ∧
  (callS P F_disk_Disk_refused [t6, t9_1, t11_1] h_9 fun t12_1 h_10 =>
  (pLoad h_10 d2 fun t5_4 =>
  t5_4 = t5) ∧
  (callS P F_disk_Disk_step [t5, t12_1, (.func (.func F_disk_Disk_Sync_1) #[] #[d2, name3])] h_10 fun t14_1 h_11 =>
  J (t14_1, ()) h_11)))) ∧
  (pBuildSlice T_string (zerosL [(.string ⟨#[]⟩)] 1) [(0, 1, t10)] 1 h_2 fun t11_2 h_12 =>
  pBuildSlice T_string (zerosL [(.string ⟨#[]⟩)] 1) [(0, 1, t7)] 1 h_12 fun t8_1 h_13 =>
  callS P F_disk_names [t8_1] h_13 fun t9_2 h_14 =>
  (pLoad h_14 d2 fun t5_5 =>
  t5_5 = t5) ∧
  (pLoad h_14 d2 fun t6_3 =>
  t6_3 = t6) ∧
  (callS P F_disk_Disk_refused [t6, t9_2, t11_2] h_14 fun t12_2 h_15 =>
  (pLoad h_15 d2 fun t5_6 =>
  t5_6 = t5) ∧
  (callS P F_disk_Disk_step [t5, t12_2, (.func (.func F_disk_Disk_Sync_1) #[] #[d2, name3])] h_15 fun t14_2 h_16 =>
  J (t14_2, ()) h_16))))
  (fun x hh => sh_disk_Disk_Sync_C1 P K x.1 hh)

set_option maxRecDepth 100000 in
theorem lk_disk_Disk_Sync (d0 name1 : Value) {h : Heap} {K : Value → Heap → Prop} (H : sh_disk_Disk_Sync Tryz.prog d0 name1 h K) : CallsH Tryz.prog F_disk_Disk_Sync [d0, name1].toArray h K :=
  callsH_of (ann := (annG (Tryz.f14.body.getD .skip) 0 [(1, [4])]).1) (c := Tryz.f14.body.getD .skip) Tryz.func14 (by kernel_rfl) (by kernel_rfl) (by kernel_rfl) (of_decide_eq_true (by kernel_rfl))
    (Eq.mpr (by kernel_rfl) H)

/-! (*milestone/disk.Disk).SyncDir -/

def sh_disk_Disk_SyncDir (P : Program) (d0 : Value) (h : Heap) (K : Value → Heap → Prop) : Prop :=
  pBox T_p_disk_Disk d0 h fun d1 h_1 =>
  pLoad h_1 d1 fun t3 =>
  pLoad h_1 d1 fun t4 =>
  callS P F_disk_Disk_refused [t4, (.int .i64 0), (.slice none 0 0)] h_1 fun t5 h_2 =>
  (pLoad h_2 d1 fun t3_1 =>
  t3_1 = t3) ∧
  (callS P F_disk_Disk_step [t3, t5, (.func (.func F_disk_Disk_SyncDir_1) #[] #[d1])] h_2 fun t7 h_3 =>
  K t7 h_3)

set_option maxRecDepth 100000 in
theorem lk_disk_Disk_SyncDir (d0 : Value) {h : Heap} {K : Value → Heap → Prop} (H : sh_disk_Disk_SyncDir Tryz.prog d0 h K) : CallsH Tryz.prog F_disk_Disk_SyncDir [d0].toArray h K :=
  callsH_of (ann := (annG (Tryz.f15.body.getD .skip) 0 []).1) (c := Tryz.f15.body.getD .skip) Tryz.func15 (by kernel_rfl) (by kernel_rfl) (by kernel_rfl) (of_decide_eq_true (by kernel_rfl))
    (Eq.mpr (by kernel_rfl) H)

/-! (*milestone/disk.Disk).On -/

def sh_disk_Disk_On (P : Program) (d0 : Value) (h : Heap) (K : Value → Heap → Prop) : Prop :=
  pEq true .ptr d0 (.pointer none) fun t4 =>
  ifV t4
  (pNil d0 fun t7 =>
  pField 6 t7 fun t8 =>
  pLoad h t8 fun t9 =>
  pUn .not t9 fun t10 =>
  K t10 h)
  (K (.bool false) h)

set_option maxRecDepth 100000 in
theorem lk_disk_Disk_On (d0 : Value) {h : Heap} {K : Value → Heap → Prop} (H : sh_disk_Disk_On Tryz.prog d0 h K) : CallsH Tryz.prog F_disk_Disk_On [d0].toArray h K :=
  callsH_of (ann := (annG (Tryz.f16.body.getD .skip) 0 []).1) (c := Tryz.f16.body.getD .skip) Tryz.func16 (by kernel_rfl) (by kernel_rfl) (by kernel_rfl) (of_decide_eq_true (by kernel_rfl))
    (Eq.mpr (by kernel_rfl) H)

/-! (*milestone/disk.Disk).Crash -/

def sh_disk_Disk_Crash_k4 (P : Program) (t65 : Value) (Z_1 : Value → Heap → Prop) (h_24 : Heap) : Prop :=
  pBin .add t65 (.int .i64 1) fun t82 =>
  Z_1 t82 h_24

def sh_disk_Disk_Crash_L3 (P : Program) (t64 t63 next4 t59 kept8 t58 : Value) (R : Exit → Heap → Prop) (t65 : Value) (h_18 : Heap) (Z_1 : Value → Heap → Prop) : Prop :=
  pBin .lss t65 t64 fun t66 =>
  ifV t66
  (pIdx 2 t63 t65 fun t67 =>
  pLoadN 2 h_18 t67 fun t68 =>
  pBox T_disk_write (.agg #[(.int .i64 0), (.string ⟨#[]⟩)]) h_18 fun w12 h_19 =>
  pStore 2 w12 t68 h_19 fun u_5 h_20 =>
  pLoad h_20 next4 fun t69 =>
  callV P t69 [].toArray h_20 fun t70 h_21 =>
  pBin .rem t70 (.int .i64 2) fun t71 =>
  pBin .eql t71 (.int .i64 1) fun t72 =>
  ifV t72
  (pNil t59 fun t75 =>
  pField 0 t75 fun t76 =>
  pLoad h_21 t76 fun t77 =>
  pLoadN 2 h_21 w12 fun t78 =>
  callS P F_disk_put [t77, t78] h_21 fun t79 h_22 =>
  pNil t59 fun t80 =>
  pField 0 t80 fun t81 =>
  pStore 1 t81 t79 h_22 fun u_6 h_23 =>
  sh_disk_Disk_Crash_k4 P t65 Z_1 h_23)
  (sh_disk_Disk_Crash_k4 P t65 Z_1 h_21))
  (pNil t59 fun t84 =>
  pField 1 t84 fun t85 =>
  pStore 1 t85 (.slice none 0 0) h_18 fun u_7 h_25 =>
  pLoad h_25 kept8 fun t86 =>
  pMapSet (.int .i64) t86 t58 t59 h_25 fun u_8 h_26 =>
  R .normal h_26)

def sh_disk_Disk_Crash_B2 (P : Program) (h_15 : Heap) (next4 kept8 : Value) (L : Loop) (t58 t59 : Value) (h_16 : Heap) (R : Exit → Heap → Prop) : Prop :=
  beginR (h_15.size + 1) L h_16 fun h_17 =>
  pNil t59 fun t61 =>
  pField 1 t61 fun t62 =>
  pLoad h_17 t62 fun t63 =>
  pLen t63 fun t64 =>
  LoopH (σ := Vals [65]) (fun x hh ZZ => sh_disk_Disk_Crash_L3 P t64 t63 next4 t59 kept8 t58 R x.1 hh (fun a0 hz => ZZ (a0, ()) hz)) ((.int .i64 0), ()) h_17

def sh_disk_Disk_Crash_L1 (P : Program) (t31 t30 d0 next4 : Value) (K : Value → Heap → Prop) (t32 : Value) (h_5 : Heap) (Z : Value → Heap → Prop) : Prop :=
  pBin .lss t32 t31 fun t33 =>
  ifV t33
  (pIdx 1 t30 t32 fun t34 =>
  pLoadN 1 h_5 t34 fun t35 =>
  pBox T_disk_change (.agg #[.nilFunc]) h_5 fun c7 h_6 =>
  pStore 1 c7 t35 h_6 fun u_1 h_7 =>
  pField 0 c7 fun t36 =>
  pLoad h_7 t36 fun t37 =>
  pNil d0 fun t39 =>
  pField 0 t39 fun t40 =>
  pLoad h_7 t40 fun t41 =>
  callV P t37 [t41].toArray h_7 fun t42 h_8 =>
  pBin .add t32 (.int .i64 1) fun t43 =>
  Z t43 h_8)
  (pNil d0 fun t47 =>
  pField 0 t47 fun t48 =>
  pLoad h_5 t48 fun t49 =>
  callS P F_maps_Clone_disk_directory_string_int [t49] h_5 fun t50 h_9 =>
  pNil d0 fun t51 =>
  pField 1 t51 fun t52 =>
  pStore 1 t52 t50 h_9 fun u_2 h_10 =>
  pNil d0 fun t53 =>
  pField 3 t53 fun t54 =>
  pStore 1 t54 (.slice none 0 0) h_10 fun u_3 h_11 =>
  pMakeMap h_11 fun t55 h_12 =>
  pBox T_map_int_p_disk_thing (.map none) h_12 fun kept8 h_13 =>
  pStore 1 kept8 t55 h_13 fun u_4 h_14 =>
  callS P F_disk_Disk_named [d0] h_14 fun t57 h_15 =>
  rangeH P t57 [58, 59] (h_15.size + 1) (h_15.push (.deferred (some []))) (fun L x hh R => sh_disk_Disk_Crash_B2 P h_15 next4 kept8 L x.1 x.2.1 hh R)
  (fun h_27 => pLoad h_27 kept8 fun t92 =>
  pNil d0 fun t93 =>
  pField 2 t93 fun t94 =>
  pStore 1 t94 t92 h_27 fun u_9 h_28 =>
  pNil d0 fun t95 =>
  pField 6 t95 fun t96 =>
  pStore 1 t96 (.bool false) h_28 fun u_10 h_29 =>
  pNil d0 fun t97 =>
  pField 5 t97 fun t98 =>
  pStore 1 t98 (.int .i64 0) h_29 fun u_11 h_30 =>
  takeM (h_15.size :: []) h_30 fun h_31 =>
  K (.tuple #[]) h_31)
  (fun h_32 => takeM (h_15.size :: []) h_32 fun h_33 =>
  K (.tuple #[]) h_33)
  [])

def sh_disk_Disk_Crash (P : Program) (d0 fates1 : Value) (h : Heap) (K : Value → Heap → Prop) : Prop :=
  pBox T_sl_uint8 fates1 h fun fates3 h_1 =>
  pEq false .ptr d0 (.pointer none) fun t14 =>
  ifV t14
  (K (.tuple #[]) h_1)
  (pBox T_func_int_v2 .nilFunc h_1 fun next4 h_2 =>
  pStore 1 next4 (.func (.func F_disk_Disk_Crash_1) #[] #[fates3]) h_2 fun u h_3 =>
  pLoad h_3 next4 fun t16 =>
  pNil d0 fun t19 =>
  pField 3 t19 fun t20 =>
  pLoad h_3 t20 fun t21 =>
  pLen t21 fun t22 =>
  pBin .add t22 (.int .i64 1) fun t23 =>
  callV P t16 [].toArray h_3 fun t17 h_4 =>
  (pLoad h_4 t20 fun t21_1 =>
  t21_1 = t21) ∧
  (pBin .rem t17 t23 fun t24 =>
  pNil d0 fun t26 =>
  pField 3 t26 fun t27 =>
  pLoad h_4 t27 fun t28 =>
  pSlice 1 t28 none (some t24) none fun t30 =>
  pLen t30 fun t31 =>
  LoopH (σ := Vals [32]) (fun x hh ZZ => sh_disk_Disk_Crash_L1 P t31 t30 d0 next4 K x.1 hh (fun a0 hz => ZZ (a0, ()) hz)) ((.int .i64 0), ()) h_4))

set_option maxRecDepth 100000 in
theorem lk_disk_Disk_Crash (d0 fates1 : Value) {h : Heap} {K : Value → Heap → Prop} (H : sh_disk_Disk_Crash Tryz.prog d0 fates1 h K) : CallsH Tryz.prog F_disk_Disk_Crash [d0, fates1].toArray h K :=
  callsH_of (ann := (annG (Tryz.f17.body.getD .skip) 0 [(7, [32]), (19, [65])]).1) (c := Tryz.f17.body.getD .skip) Tryz.func17 (by kernel_rfl) (by kernel_rfl) (by kernel_rfl) (of_decide_eq_true (by kernel_rfl))
    (Eq.mpr (by kernel_rfl) H)

/-! milestone/milestonelaw29.read -/

def sh_milestonelaw29_read (P : Program) (d0 name1 : Value) (h : Heap) (K : Value → Heap → Prop) : Prop :=
  callS P F_disk_Disk_Read [d0, name1] h fun t10 h_1 =>
  pExt t10 0 fun t11 =>
  pExt t10 1 fun t12 =>
  pBin .neq t12 (.int .i64 0) fun t14 =>
  ifV t14
  (pBin .quo t12 (.int .i64 10) fun t16 =>
  pBin .add (.int .i64 48) t16 fun t17 =>
  pConv .u8 t17 fun t18 =>
  pBin .rem t12 (.int .i64 10) fun t20 =>
  pBin .add (.int .i64 48) t20 fun t21 =>
  pConv .u8 t21 fun t22 =>
  pBuildSlice T_uint8 (zerosL [(.int .u8 0)] 2) [(0, 1, t18), (1, 1, t22)] 2 h_1 fun t23 h_2 =>
  pConvBS h_2 t23 fun t24 =>
  pBin .add (.string ⟨#[63]⟩) t24 fun t25 =>
  K t25 h_2)
  (K t11 h_1)

set_option maxRecDepth 100000 in
theorem lk_milestonelaw29_read (d0 name1 : Value) {h : Heap} {K : Value → Heap → Prop} (H : sh_milestonelaw29_read Tryz.prog d0 name1 h K) : CallsH Tryz.prog F_milestonelaw29_read [d0, name1].toArray h K :=
  callsH_of (ann := (annG (Tryz.f18.body.getD .skip) 0 []).1) (c := Tryz.f18.body.getD .skip) Tryz.func18 (by kernel_rfl) (by kernel_rfl) (by kernel_rfl) (of_decide_eq_true (by kernel_rfl))
    (Eq.mpr (by kernel_rfl) H)

/-! (*milestone/disk.Disk).Copy -/

def sh_disk_Disk_Copy_L2 (P : Program) (t42 x3 : Value) (K : Value → Heap → Prop) (h_20 : Heap) (Z : Heap → Prop) : Prop :=
  pNextM t42 h_20 fun t43 h_21 =>
  pExt t43 0 fun t44 =>
  ifV t44
  (pEntryM t42 h_21 fun t45 =>
  pExt t45 0 fun t46 =>
  pExt t45 1 fun t47 =>
  pNil x3 fun t49 =>
  pField 2 t49 fun t50 =>
  pLoad h_21 t50 fun t51 =>
  pNil t47 fun t54 =>
  pField 0 t54 fun t55 =>
  pLoad h_21 t55 fun t56 =>
  pNil t47 fun t59 =>
  pField 1 t59 fun t60 =>
  pLoad h_21 t60 fun t61 =>
  callS P F_slices_Clone_sl_byte_byte [t56] h_21 fun t57 h_22 =>
  (pLoad h_22 t50 fun t51_1 =>
  t51_1 = t51) ∧
  (pLoad h_22 t60 fun t61_1 =>
  t61_1 = t61) ∧
  (callS P F_slices_Clone_sl_disk_write_disk_write [t61] h_22 fun t62 h_23 =>
  (pLoad h_23 t50 fun t51_2 =>
  t51_2 = t51) ∧
  (pBuild [(.slice none 0 0), (.slice none 0 0)] [(0, 1, t57), (1, 1, t62)] fun t63 =>
  pBox T_disk_thing t63 h_23 fun t64 h_24 =>
  pMapSet (.int .i64) t51 t46 t64 h_24 fun u h_25 =>
  Z h_25)))
  (K x3 h_21)

def sh_disk_Disk_Copy_C1 (P : Program) (d0 : Value) (K : Value → Heap → Prop) (x3 : Value) (h_18 : Heap) : Prop :=
  pNil d0 fun t39 =>
  pField 2 t39 fun t40 =>
  pLoad h_18 t40 fun t41 =>
  pRangeM t41 h_18 fun t42 h_19 =>
  LoopH (σ := Vals []) (fun x hh ZZ => sh_disk_Disk_Copy_L2 P t42 x3 K hh (fun hz => ZZ () hz)) () h_19

def sh_disk_Disk_Copy (P : Program) (d0 : Value) (h : Heap) (K : Value → Heap → Prop) : Prop :=
  pEq false .ptr d0 (.pointer none) fun t7 =>
  ifV t7
  (K (.pointer none) h)
  (cutP (σ := Vals [3]) (fun J =>
  pNil d0 fun t9 =>
  pField 0 t9 fun t10 =>
  pLoad h t10 fun t11 =>
  pNil d0 fun t14 =>
  pField 1 t14 fun t15 =>
  pLoad h t15 fun t16 =>
  pNil d0 fun t20 =>
  pField 3 t20 fun t21 =>
  pLoad h t21 fun t22 =>
  pNil d0 fun t25 =>
  pField 4 t25 fun t26 =>
  pLoad h t26 fun t27 =>
  pNil d0 fun t29 =>
  pField 5 t29 fun t30 =>
  pLoad h t30 fun t31 =>
  pNil d0 fun t33 =>
  pField 6 t33 fun t34 =>
  pLoad h t34 fun t35 =>
  (callS P F_maps_Clone_disk_directory_string_int [t11] h fun t12 h_1 =>
  (pLoad h_1 t15 fun t16_1 =>
  t16_1 = t16) ∧
  (pLoad h_1 t21 fun t22_1 =>
  t22_1 = t22) ∧
  (pLoad h_1 t26 fun t27_1 =>
  t27_1 = t27) ∧
  (pLoad h_1 t30 fun t31_1 =>
  t31_1 = t31) ∧
  (pLoad h_1 t34 fun t35_1 =>
  t35_1 = t35) ∧
  ((callS P F_maps_Clone_disk_directory_string_int [t16] h_1 fun t17 h_2 =>
  (pLoad h_2 t21 fun t22_2 =>
  t22_2 = t22) ∧
  (pLoad h_2 t26 fun t27_2 =>
  t27_2 = t27) ∧
  (pLoad h_2 t30 fun t31_2 =>
  t31_2 = t31) ∧
  (pLoad h_2 t34 fun t35_2 =>
  t35_2 = t35) ∧
  ((pMakeMap h_2 fun t18 h_3 =>
  callS P F_slices_Clone_sl_disk_change_disk_change [t22] h_3 fun t23 h_4 =>
  (pLoad h_4 t26 fun t27_3 =>
  t27_3 = t27) ∧
  (pLoad h_4 t30 fun t31_3 =>
  t31_3 = t31) ∧
  (pLoad h_4 t34 fun t35_3 =>
  t35_3 = t35) ∧
  (pBuild [(.map none), (.map none), (.map none), (.slice none 0 0), (.int .i64 0), (.int .i64 0), (.bool false)] [(0, 1, t12), (1, 1, t17), (2, 1, t18), (3, 1, t23), (4, 1, t27), (5, 1, t31), (6, 1, t35)] fun t36 =>
  pBox T_disk_Disk t36 h_4 fun t37 h_5 =>
  J (t37, ()) h_5)) ∧
  (callS P F_slices_Clone_sl_disk_change_disk_change [t22] h_2 fun t23_1 h_6 =>
  (pLoad h_6 t26 fun t27_4 =>
  t27_4 = t27) ∧
  (pLoad h_6 t30 fun t31_4 =>
  t31_4 = t31) ∧
  (pLoad h_6 t34 fun t35_4 =>
  t35_4 = t35) ∧
  (pMakeMap h_6 fun t18_1 h_7 =>
  pBuild [(.map none), (.map none), (.map none), (.slice none 0 0), (.int .i64 0), (.int .i64 0), (.bool false)] [(0, 1, t12), (1, 1, t17), (2, 1, t18_1), (3, 1, t23_1), (4, 1, t27), (5, 1, t31), (6, 1, t35)] fun t36_1 =>
  pBox T_disk_Disk t36_1 h_7 fun t37_1 h_8 =>
  J (t37_1, ()) h_8)))) ∧
  (pMakeMap h_1 fun t18_2 h_9 =>
  callS P F_maps_Clone_disk_directory_string_int [t16] h_9 fun t17_1 h_10 =>
  (pLoad h_10 t21 fun t22_3 =>
  t22_3 = t22) ∧
  (pLoad h_10 t26 fun t27_5 =>
  t27_5 = t27) ∧
  (pLoad h_10 t30 fun t31_5 =>
  t31_5 = t31) ∧
  (pLoad h_10 t34 fun t35_5 =>
  t35_5 = t35) ∧
  (callS P F_slices_Clone_sl_disk_change_disk_change [t22] h_10 fun t23_2 h_11 =>
  (pLoad h_11 t26 fun t27_6 =>
  t27_6 = t27) ∧
  (pLoad h_11 t30 fun t31_6 =>
  t31_6 = t31) ∧
  (pLoad h_11 t34 fun t35_6 =>
  t35_6 = t35) ∧
  (pBuild [(.map none), (.map none), (.map none), (.slice none 0 0), (.int .i64 0), (.int .i64 0), (.bool false)] [(0, 1, t12), (1, 1, t17_1), (2, 1, t18_2), (3, 1, t23_2), (4, 1, t27), (5, 1, t31), (6, 1, t35)] fun t36_2 =>
  pBox T_disk_Disk t36_2 h_11 fun t37_2 h_12 =>
  J (t37_2, ()) h_12))))) ∧
  (pMakeMap h fun t18_3 h_13 =>
  callS P F_maps_Clone_disk_directory_string_int [t11] h_13 fun t12_1 h_14 =>
  (pLoad h_14 t15 fun t16_2 =>
  t16_2 = t16) ∧
  (pLoad h_14 t21 fun t22_4 =>
  t22_4 = t22) ∧
  (pLoad h_14 t26 fun t27_7 =>
  t27_7 = t27) ∧
  (pLoad h_14 t30 fun t31_7 =>
  t31_7 = t31) ∧
  (pLoad h_14 t34 fun t35_7 =>
  t35_7 = t35) ∧
  (callS P F_maps_Clone_disk_directory_string_int [t16] h_14 fun t17_2 h_15 =>
  (pLoad h_15 t21 fun t22_5 =>
  t22_5 = t22) ∧
  (pLoad h_15 t26 fun t27_8 =>
  t27_8 = t27) ∧
  (pLoad h_15 t30 fun t31_8 =>
  t31_8 = t31) ∧
  (pLoad h_15 t34 fun t35_8 =>
  t35_8 = t35) ∧
  (callS P F_slices_Clone_sl_disk_change_disk_change [t22] h_15 fun t23_3 h_16 =>
  (pLoad h_16 t26 fun t27_9 =>
  t27_9 = t27) ∧
  (pLoad h_16 t30 fun t31_9 =>
  t31_9 = t31) ∧
  (pLoad h_16 t34 fun t35_9 =>
  t35_9 = t35) ∧
  (pBuild [(.map none), (.map none), (.map none), (.slice none 0 0), (.int .i64 0), (.int .i64 0), (.bool false)] [(0, 1, t12_1), (1, 1, t17_2), (2, 1, t18_3), (3, 1, t23_3), (4, 1, t27), (5, 1, t31), (6, 1, t35)] fun t36_3 =>
  pBox T_disk_Disk t36_3 h_16 fun t37_3 h_17 =>
  J (t37_3, ()) h_17)))))
  (fun x hh => sh_disk_Disk_Copy_C1 P d0 K x.1 hh))

set_option maxRecDepth 100000 in
theorem lk_disk_Disk_Copy (d0 : Value) {h : Heap} {K : Value → Heap → Prop} (H : sh_disk_Disk_Copy Tryz.prog d0 h K) : CallsH Tryz.prog F_disk_Disk_Copy [d0].toArray h K :=
  callsH_of (ann := (annG (Tryz.f19.body.getD .skip) 0 [(4, [3]), (7, [])]).1) (c := Tryz.f19.body.getD .skip) Tryz.func19 (by kernel_rfl) (by kernel_rfl) (by kernel_rfl) (of_decide_eq_true (by kernel_rfl))
    (Eq.mpr (by kernel_rfl) H)

/-! milestone/milestonelaw29.state -/

def sh_milestonelaw29_state_L1 (P : Program) (t7 d0 : Value) (K : Value → Heap → Prop) (out4 i5 : Value) (h_2 : Heap) (Z : Value → Value → Heap → Prop) : Prop :=
  pLen t7 fun t10 =>
  pBin .lss i5 t10 fun t11 =>
  ifV t11
  (pIdx 1 t7 i5 fun t17 =>
  pLoad h_2 t17 fun t18 =>
  pBin .add out4 t18 fun t19 =>
  pBin .add t19 (.string ⟨#[61]⟩) fun t20 =>
  pIdx 1 t7 i5 fun t24 =>
  pLoad h_2 t24 fun t25 =>
  callS P F_milestonelaw29_read [d0, t25] h_2 fun t26 h_3 =>
  (pLoad h_3 t17 fun t18_1 =>
  t18_1 = t18) ∧
  (pBin .add t20 t26 fun t27 =>
  pBin .add t27 (.string ⟨#[59]⟩) fun t28 =>
  pBin .add i5 (.int .i64 1) fun t13 =>
  Z t28 t13 h_3))
  (K out4 h_2)

def sh_milestonelaw29_state (P : Program) (d0 : Value) (h : Heap) (K : Value → Heap → Prop) : Prop :=
  callS P F_disk_Disk_Names [d0] h fun t7 h_1 =>
  LoopH (σ := Vals [4, 5]) (fun x hh ZZ => sh_milestonelaw29_state_L1 P t7 d0 K x.1 x.2.1 hh (fun a0 a1 hz => ZZ (a0, (a1, ())) hz)) ((.string ⟨#[]⟩), ((.int .i64 0), ())) h_1

set_option maxRecDepth 100000 in
theorem lk_milestonelaw29_state (d0 : Value) {h : Heap} {K : Value → Heap → Prop} (H : sh_milestonelaw29_state Tryz.prog d0 h K) : CallsH Tryz.prog F_milestonelaw29_state [d0].toArray h K :=
  callsH_of (ann := (annG (Tryz.f20.body.getD .skip) 0 [(5, [4, 5])]).1) (c := Tryz.f20.body.getD .skip) Tryz.func20 (by kernel_rfl) (by kernel_rfl) (by kernel_rfl) (of_decide_eq_true (by kernel_rfl))
    (Eq.mpr (by kernel_rfl) H)

/-! (*milestone/milestoneref29.Disk).Do -/

def sh_milestoneref29_Disk_Do (P : Program) (d0 x1 : Value) (h : Heap) (K : Value → Heap → Prop) : Prop :=
  pBox T_milestoneref29_Act x1 h fun x3 h_1 =>
  pField 4 x3 fun t11 =>
  pLoad h_1 t11 fun t12 =>
  pField 4 x3 fun t13 =>
  pLoad h_1 t13 fun t14 =>
  pLenS t14 fun t15 =>
  pMin t15 (.int .i64 12) fun t16 =>
  pSliceS t12 none (some t16) fun t17 =>
  pField 1 x3 fun t18 =>
  pLoad h_1 t18 fun t19 =>
  pField 2 x3 fun t21 =>
  pLoad h_1 t21 fun t22 =>
  callS P F_milestoneref29_Name [t19] h_1 fun t20 h_2 =>
  (pLoad h_2 t21 fun t22_1 =>
  t22_1 = t22) ∧
  (callS P F_milestoneref29_Name [t22] h_2 fun t23 h_3 =>
  pField 0 x3 fun t24 =>
  pLoad h_3 t24 fun t25 =>
  pBin .rem t25 (.int .u8 9) fun t26 =>
  pBin .eql t26 (.int .u8 0) fun t28 =>
  ifV t28
  (callS P F_milestoneref29_Disk_Make [d0, t20] h_3 fun t31 h_4 =>
  K (.tuple #[(.string ⟨#[]⟩), t31]) h_4)
  (pBin .eql t26 (.int .u8 1) fun t33 =>
  ifV t33
  (pField 3 x3 fun t36 =>
  pLoad h_3 t36 fun t37 =>
  pBin .rem t37 (.int .u8 40) fun t38 =>
  pConv .i64 t38 fun t39 =>
  pBin .sub t39 (.int .i64 2) fun t40 =>
  callS P F_milestoneref29_Disk_Write [d0, t20, t40, t17] h_3 fun t42 h_5 =>
  K (.tuple #[(.string ⟨#[]⟩), t42]) h_5)
  (pBin .eql t26 (.int .u8 2) fun t44 =>
  ifV t44
  (callS P F_milestoneref29_Disk_Sync [d0, t20] h_3 fun t47 h_6 =>
  K (.tuple #[(.string ⟨#[]⟩), t47]) h_6)
  (pBin .eql t26 (.int .u8 3) fun t49 =>
  ifV t49
  (callS P F_milestoneref29_Disk_Rename [d0, t20, t23] h_3 fun t53 h_7 =>
  K (.tuple #[(.string ⟨#[]⟩), t53]) h_7)
  (pBin .eql t26 (.int .u8 4) fun t55 =>
  ifV t55
  (callS P F_milestoneref29_Disk_Remove [d0, t20] h_3 fun t58 h_8 =>
  K (.tuple #[(.string ⟨#[]⟩), t58]) h_8)
  (pBin .eql t26 (.int .u8 5) fun t60 =>
  ifV t60
  (callS P F_milestoneref29_Disk_SyncDir [d0] h_3 fun t62 h_9 =>
  K (.tuple #[(.string ⟨#[]⟩), t62]) h_9)
  (pBin .eql t26 (.int .u8 6) fun t64 =>
  ifV t64
  (callS P F_milestoneref29_Disk_Read [d0, t20] h_3 fun t68 h_10 =>
  pExt t68 0 fun t69 =>
  pExt t68 1 fun t70 =>
  K (.tuple #[t69, t70]) h_10)
  (pBin .eql t26 (.int .u8 7) fun t74 =>
  ifV t74
  (pField 3 x3 fun t76 =>
  pLoad h_3 t76 fun t77 =>
  pBin .rem t77 (.int .u8 6) fun t78 =>
  pConv .i64 t78 fun t79 =>
  pBin .sub t79 (.int .i64 1) fun t80 =>
  callS P F_milestoneref29_Disk_Arm [d0, t80] h_3 fun t81 h_11 =>
  K (.tuple #[(.string ⟨#[]⟩), (.int .i64 0)]) h_11)
  (pField 5 x3 fun t83 =>
  pLoad h_3 t83 fun t84 =>
  pField 5 x3 fun t85 =>
  pLoad h_3 t85 fun t86 =>
  pLen t86 fun t87 =>
  pMin t87 (.int .i64 20) fun t88 =>
  pSlice 1 t84 none (some t88) none fun t89 =>
  callS P F_milestoneref29_Disk_Crash [d0, t89] h_3 fun t90 h_12 =>
  K (.tuple #[(.string ⟨#[]⟩), (.int .i64 0)]) h_12)))))))))

set_option maxRecDepth 100000 in
theorem lk_milestoneref29_Disk_Do (d0 x1 : Value) {h : Heap} {K : Value → Heap → Prop} (H : sh_milestoneref29_Disk_Do Tryz.prog d0 x1 h K) : CallsH Tryz.prog F_milestoneref29_Disk_Do [d0, x1].toArray h K :=
  callsH_of (ann := (annG (Tryz.f21.body.getD .skip) 0 []).1) (c := Tryz.f21.body.getD .skip) Tryz.func21 (by kernel_rfl) (by kernel_rfl) (by kernel_rfl) (of_decide_eq_true (by kernel_rfl))
    (Eq.mpr (by kernel_rfl) H)

/-! milestone/milestonelaw29.alike -/

def sh_milestonelaw29_alike_C3 (P : Program) (K : Value → Heap → Prop) (i11 : Value) (Z : Value → Heap → Prop) (t100 : Value) (h_10 : Heap) : Prop :=
  ifV t100
  (K (.bool false) h_10)
  (pBin .add i11 (.int .i64 1) fun t59 =>
  Z t59 h_10)

def sh_milestonelaw29_alike_L2 (P : Program) (t17 d0 t19 r1 : Value) (K : Value → Heap → Prop) (i11 : Value) (h_7 : Heap) (Z : Value → Heap → Prop) : Prop :=
  pLen t17 fun t56 =>
  pBin .lss i11 t56 fun t57 =>
  ifV t57
  (pIdx 1 t17 i11 fun t64 =>
  pLoad h_7 t64 fun t65 =>
  callS P F_disk_Disk_Read [d0, t65] h_7 fun t66 h_8 =>
  pExt t66 0 fun t67 =>
  pExt t66 1 fun t68 =>
  pIdx 1 t19 i11 fun t73 =>
  pLoad h_8 t73 fun t74 =>
  callS P F_milestoneref29_Disk_Read [r1, t74] h_8 fun t75 h_9 =>
  pExt t75 0 fun t76 =>
  pExt t75 1 fun t77 =>
  cutP (σ := Vals [100]) (fun J_1 =>
  pIdx 1 t17 i11 fun t80 =>
  pLoad h_9 t80 fun t81 =>
  pIdx 1 t19 i11 fun t84 =>
  pLoad h_9 t84 fun t85 =>
  pBin .neq t81 t85 fun t86 =>
  ifV t86
  (J_1 ((.bool true), ()) h_9)
  (pBin .neq t67 t76 fun t90 =>
  ifV t90
  (J_1 ((.bool true), ()) h_9)
  (pBin .neq t68 t77 fun t95 =>
  ifV t95
  (J_1 ((.bool true), ()) h_9)
  (pBin .neq t68 (.int .i64 0) fun t99 =>
  J_1 (t99, ()) h_9))))
  (fun x hh => sh_milestonelaw29_alike_C3 P K i11 Z x.1 hh))
  (K (.bool true) h_7)

def sh_milestonelaw29_alike_C1 (P : Program) (K : Value → Heap → Prop) (t17 d0 t19 r1 t53 : Value) (h_6 : Heap) : Prop :=
  ifV t53
  (K (.bool false) h_6)
  (LoopH (σ := Vals [11]) (fun x hh ZZ => sh_milestonelaw29_alike_L2 P t17 d0 t19 r1 K x.1 hh (fun a0 hz => ZZ (a0, ()) hz)) ((.int .i64 0), ()) h_6)

def sh_milestonelaw29_alike (P : Program) (d0 r1 : Value) (h : Heap) (K : Value → Heap → Prop) : Prop :=
  callS P F_disk_Disk_Names [d0] h fun t17 h_1 =>
  callS P F_milestoneref29_Disk_Names [r1] h_1 fun t19 h_2 =>
  callS P F_disk_Disk_Pending [d0] h_2 fun t22 h_3 =>
  pExt t22 0 fun t23 =>
  pExt t22 1 fun t24 =>
  callS P F_milestoneref29_Disk_Pending [r1] h_3 fun t27 h_4 =>
  pExt t27 0 fun t28 =>
  pExt t27 1 fun t29 =>
  cutP (σ := Vals [53]) (fun J =>
  pLen t17 fun t31 =>
  pLen t19 fun t33 =>
  pBin .neq t31 t33 fun t34 =>
  ifV t34
  (J ((.bool true), ()) h_4)
  (pNil r1 fun t39 =>
  pField 2 t39 fun t40 =>
  pLoad h_4 t40 fun t41 =>
  callS P F_disk_Disk_On [d0] h_4 fun t37 h_5 =>
  (pLoad h_5 t40 fun t41_1 =>
  t41_1 = t41) ∧
  (pEq false .bool t37 t41 fun t42 =>
  ifV t42
  (J ((.bool true), ()) h_5)
  (pBin .neq t23 t28 fun t47 =>
  ifV t47
  (J ((.bool true), ()) h_5)
  (pBin .neq t24 t29 fun t52 =>
  J (t52, ()) h_5)))))
  (fun x hh => sh_milestonelaw29_alike_C1 P K t17 d0 t19 r1 x.1 hh)

set_option maxRecDepth 100000 in
theorem lk_milestonelaw29_alike (d0 r1 : Value) {h : Heap} {K : Value → Heap → Prop} (H : sh_milestonelaw29_alike Tryz.prog d0 r1 h K) : CallsH Tryz.prog F_milestonelaw29_alike [d0, r1].toArray h K :=
  callsH_of (ann := (annG (Tryz.f22.body.getD .skip) 0 [(5, [53]), (9, [11]), (15, [100])]).1) (c := Tryz.f22.body.getD .skip) Tryz.func22 (by kernel_rfl) (by kernel_rfl) (by kernel_rfl) (of_decide_eq_true (by kernel_rfl))
    (Eq.mpr (by kernel_rfl) H)

end Go.Proofs.YtdbkeklhjjlhbaaGreat

namespace Go.Proofs.YtdbkeklhjjlhbaaGreat
open Go Go.Mh
set_option maxHeartbeats 0
set_option linter.unusedVariables false

/-! (*milestone/disk.Disk).Names -/

def sh_disk_Disk_Names (P : Program) (d0 : Value) (h : Heap) (K : Value → Heap → Prop) : Prop :=
  callS P F_disk_Disk_On [d0] h fun t4 h_1 =>
  pUn .not t4 fun t5 =>
  ifV t5
  (K (.slice none 0 0) h_1)
  (pNil d0 fun t7 =>
  pField 1 t7 fun t8 =>
  pLoad h_1 t8 fun t9 =>
  callS P F_disk_directory_rising [t9] h_1 fun t10 h_2 =>
  callS P F_slices_Collect_string [t10] h_2 fun t11 h_3 =>
  K t11 h_3)

set_option maxRecDepth 100000 in
theorem lk_disk_Disk_Names (d0 : Value) {h : Heap} {K : Value → Heap → Prop} (H : sh_disk_Disk_Names Tryz.prog d0 h K) : CallsH Tryz.prog F_disk_Disk_Names [d0].toArray h K :=
  callsH_of (ann := (annG (Tryz.f24.body.getD .skip) 0 []).1) (c := Tryz.f24.body.getD .skip) Tryz.func24 (by kernel_rfl) (by kernel_rfl) (by kernel_rfl) (of_decide_eq_true (by kernel_rfl))
    (Eq.mpr (by kernel_rfl) H)

/-! (*milestone/disk.Disk).Pending -/

def sh_disk_Disk_Pending_B1 (P : Program) (h_3 : Heap) (writes3 : Value) (L : Loop) (t10 t11 : Value) (h_4 : Heap) (R : Exit → Heap → Prop) : Prop :=
  beginR (h_3.size + 1) L h_4 fun h_5 =>
  pLoad h_5 writes3 fun t12 =>
  pNil t11 fun t14 =>
  pField 1 t14 fun t15 =>
  pLoad h_5 t15 fun t16 =>
  pLen t16 fun t17 =>
  pBin .add t12 t17 fun t18 =>
  pStore 1 writes3 t18 h_5 fun u_1 h_6 =>
  R .normal h_6

def sh_disk_Disk_Pending (P : Program) (d0 : Value) (h : Heap) (K : Value → Heap → Prop) : Prop :=
  pBox T_int (.int .i64 0) h fun writes3 h_1 =>
  pEq false .ptr d0 (.pointer none) fun t7 =>
  ifV t7
  (pStore 1 writes3 (.int .i64 0) h_1 fun u h_2 =>
  pLoad h_2 writes3 fun res =>
  K (.tuple #[(.int .i64 0), res]) h_2)
  (callS P F_disk_Disk_named [d0] h_1 fun t9 h_3 =>
  rangeH P t9 [10, 11] (h_3.size + 1) (h_3.push (.deferred (some []))) (fun L x hh R => sh_disk_Disk_Pending_B1 P h_3 writes3 L x.1 x.2.1 hh R)
  (fun h_7 => pNil d0 fun t20 =>
  pField 3 t20 fun t21 =>
  pLoad h_7 t21 fun t22 =>
  pLen t22 fun t23 =>
  pLoad h_7 writes3 fun t24 =>
  pStore 1 writes3 t24 h_7 fun u_2 h_8 =>
  takeM (h_3.size :: []) h_8 fun h_9 =>
  pLoad h_9 writes3 fun res_1 =>
  K (.tuple #[t23, res_1]) h_9)
  (fun h_10 => takeM (h_3.size :: []) h_10 fun h_11 =>
  pLoad h_11 writes3 fun res_2 =>
  K (.tuple #[(.int .i64 0), res_2]) h_11)
  [])

set_option maxRecDepth 100000 in
theorem lk_disk_Disk_Pending (d0 : Value) {h : Heap} {K : Value → Heap → Prop} (H : sh_disk_Disk_Pending Tryz.prog d0 h K) : CallsH Tryz.prog F_disk_Disk_Pending [d0].toArray h K :=
  callsH_of (ann := (annG (Tryz.f25.body.getD .skip) 0 []).1) (c := Tryz.f25.body.getD .skip) Tryz.func25 (by kernel_rfl) (by kernel_rfl) (by kernel_rfl) (of_decide_eq_true (by kernel_rfl))
    (Eq.mpr (by kernel_rfl) H)

/-! (*milestone/disk.Disk).Read -/

def sh_disk_Disk_Read (P : Program) (d0 name1 : Value) (h : Heap) (K : Value → Heap → Prop) : Prop :=
  pBuildSlice T_string (zerosL [(.string ⟨#[]⟩)] 1) [(0, 1, name1)] 1 h fun t9 h_1 =>
  callS P F_disk_names [t9] h_1 fun t10 h_2 =>
  pBuildSlice T_string (zerosL [(.string ⟨#[]⟩)] 1) [(0, 1, name1)] 1 h_2 fun t12 h_3 =>
  callS P F_disk_Disk_refused [d0, t10, t12] h_3 fun t13 h_4 =>
  pBin .neq t13 (.int .i64 0) fun t15 =>
  ifV t15
  (K (.tuple #[(.string ⟨#[]⟩), t13]) h_4)
  (pNil d0 fun t18 =>
  pField 2 t18 fun t19 =>
  pLoad h_4 t19 fun t20 =>
  pNil d0 fun t22 =>
  pField 1 t22 fun t23 =>
  pLoad h_4 t23 fun t24 =>
  pLook .string (.int .i64 0) false h_4 t24 name1 fun t26 =>
  pLook (.int .i64) (.pointer none) false h_4 t20 t26 fun t27 =>
  callS P F_disk_thing_seen [t27] h_4 fun t28 h_5 =>
  pConvBS h_5 t28 fun t29 =>
  K (.tuple #[t29, (.int .i64 0)]) h_5)

set_option maxRecDepth 100000 in
theorem lk_disk_Disk_Read (d0 name1 : Value) {h : Heap} {K : Value → Heap → Prop} (H : sh_disk_Disk_Read Tryz.prog d0 name1 h K) : CallsH Tryz.prog F_disk_Disk_Read [d0, name1].toArray h K :=
  callsH_of (ann := (annG (Tryz.f27.body.getD .skip) 0 []).1) (c := Tryz.f27.body.getD .skip) Tryz.func27 (by kernel_rfl) (by kernel_rfl) (by kernel_rfl) (of_decide_eq_true (by kernel_rfl))
    (Eq.mpr (by kernel_rfl) H)

/-! (*milestone/disk.Disk).Rename -/

def sh_disk_Disk_Rename_C1 (P : Program) (K : Value → Heap → Prop) (t6 : Value) (h_17 : Heap) : Prop :=
  K t6 h_17

def sh_disk_Disk_Rename (P : Program) (d0 from1 to2 : Value) (h : Heap) (K : Value → Heap → Prop) : Prop :=
  pBox T_string from1 h fun from4 h_1 =>
  pBox T_string to2 h_1 fun to5 h_2 =>
  cutP (σ := Vals [6]) (fun J =>
  pLoad h_2 from4 fun t9 =>
  pLoad h_2 to5 fun t10 =>
  pLoad h_2 from4 fun t13 =>
  (pBuildSlice T_string (zerosL [(.string ⟨#[]⟩)] 2) [(0, 1, t9), (1, 1, t10)] 2 h_2 fun t11 h_3 =>
  (callS P F_disk_names [t11] h_3 fun t12 h_4 =>
  (pLoad h_4 from4 fun t13_1 =>
  t13_1 = t13) ∧
  (pBuildSlice T_string (zerosL [(.string ⟨#[]⟩)] 1) [(0, 1, t13)] 1 h_4 fun t14 h_5 =>
  callS P F_disk_Disk_refused [d0, t12, t14] h_5 fun t15 h_6 =>
  callS P F_disk_Disk_change [d0, t15, (.func (.func F_disk_Disk_Rename_1) #[] #[from4, to5])] h_6 fun t17 h_7 =>
  J (t17, ()) h_7)) ∧
  (pBuildSlice T_string (zerosL [(.string ⟨#[]⟩)] 1) [(0, 1, t13)] 1 h_3 fun t14_1 h_8 =>
  callS P F_disk_names [t11] h_8 fun t12_1 h_9 =>
  callS P F_disk_Disk_refused [d0, t12_1, t14_1] h_9 fun t15_1 h_10 =>
  callS P F_disk_Disk_change [d0, t15_1, (.func (.func F_disk_Disk_Rename_1) #[] #[from4, to5])] h_10 fun t17_1 h_11 =>
  J (t17_1, ()) h_11)) ∧
  (pBuildSlice T_string (zerosL [(.string ⟨#[]⟩)] 1) [(0, 1, t13)] 1 h_2 fun t14_2 h_12 =>
  pBuildSlice T_string (zerosL [(.string ⟨#[]⟩)] 2) [(0, 1, t9), (1, 1, t10)] 2 h_12 fun t11_1 h_13 =>
  callS P F_disk_names [t11_1] h_13 fun t12_2 h_14 =>
  callS P F_disk_Disk_refused [d0, t12_2, t14_2] h_14 fun t15_2 h_15 =>
  callS P F_disk_Disk_change [d0, t15_2, (.func (.func F_disk_Disk_Rename_1) #[] #[from4, to5])] h_15 fun t17_2 h_16 =>
  J (t17_2, ()) h_16))
  (fun x hh => sh_disk_Disk_Rename_C1 P K x.1 hh)

set_option maxRecDepth 100000 in
theorem lk_disk_Disk_Rename (d0 from1 to2 : Value) {h : Heap} {K : Value → Heap → Prop} (H : sh_disk_Disk_Rename Tryz.prog d0 from1 to2 h K) : CallsH Tryz.prog F_disk_Disk_Rename [d0, from1, to2].toArray h K :=
  callsH_of (ann := (annG (Tryz.f28.body.getD .skip) 0 [(1, [6])]).1) (c := Tryz.f28.body.getD .skip) Tryz.func28 (by kernel_rfl) (by kernel_rfl) (by kernel_rfl) (of_decide_eq_true (by kernel_rfl))
    (Eq.mpr (by kernel_rfl) H)

/-! (*milestone/disk.Disk).Remove -/

def sh_disk_Disk_Remove_C1 (P : Program) (K : Value → Heap → Prop) (t4 : Value) (h_16 : Heap) : Prop :=
  K t4 h_16

def sh_disk_Disk_Remove (P : Program) (d0 name1 : Value) (h : Heap) (K : Value → Heap → Prop) : Prop :=
  pBox T_string name1 h fun name3 h_1 =>
  cutP (σ := Vals [4]) (fun J =>
  pLoad h_1 name3 fun t7 =>
  pLoad h_1 name3 fun t10 =>
  (pBuildSlice T_string (zerosL [(.string ⟨#[]⟩)] 1) [(0, 1, t7)] 1 h_1 fun t8 h_2 =>
  (callS P F_disk_names [t8] h_2 fun t9 h_3 =>
  (pLoad h_3 name3 fun t10_1 =>
  t10_1 = t10) ∧
  (pBuildSlice T_string (zerosL [(.string ⟨#[]⟩)] 1) [(0, 1, t10)] 1 h_3 fun t11 h_4 =>
  callS P F_disk_Disk_refused [d0, t9, t11] h_4 fun t12 h_5 =>
  callS P F_disk_Disk_change [d0, t12, (.func (.func F_disk_Disk_Remove_1) #[] #[name3])] h_5 fun t14 h_6 =>
  J (t14, ()) h_6)) ∧
  (pBuildSlice T_string (zerosL [(.string ⟨#[]⟩)] 1) [(0, 1, t10)] 1 h_2 fun t11_1 h_7 =>
  callS P F_disk_names [t8] h_7 fun t9_1 h_8 =>
  callS P F_disk_Disk_refused [d0, t9_1, t11_1] h_8 fun t12_1 h_9 =>
  callS P F_disk_Disk_change [d0, t12_1, (.func (.func F_disk_Disk_Remove_1) #[] #[name3])] h_9 fun t14_1 h_10 =>
  J (t14_1, ()) h_10)) ∧
  (pBuildSlice T_string (zerosL [(.string ⟨#[]⟩)] 1) [(0, 1, t10)] 1 h_1 fun t11_2 h_11 =>
  pBuildSlice T_string (zerosL [(.string ⟨#[]⟩)] 1) [(0, 1, t7)] 1 h_11 fun t8_1 h_12 =>
  callS P F_disk_names [t8_1] h_12 fun t9_2 h_13 =>
  callS P F_disk_Disk_refused [d0, t9_2, t11_2] h_13 fun t12_2 h_14 =>
  callS P F_disk_Disk_change [d0, t12_2, (.func (.func F_disk_Disk_Remove_1) #[] #[name3])] h_14 fun t14_2 h_15 =>
  J (t14_2, ()) h_15))
  (fun x hh => sh_disk_Disk_Remove_C1 P K x.1 hh)

set_option maxRecDepth 100000 in
theorem lk_disk_Disk_Remove (d0 name1 : Value) {h : Heap} {K : Value → Heap → Prop} (H : sh_disk_Disk_Remove Tryz.prog d0 name1 h K) : CallsH Tryz.prog F_disk_Disk_Remove [d0, name1].toArray h K :=
  callsH_of (ann := (annG (Tryz.f29.body.getD .skip) 0 [(1, [4])]).1) (c := Tryz.f29.body.getD .skip) Tryz.func29 (by kernel_rfl) (by kernel_rfl) (by kernel_rfl) (of_decide_eq_true (by kernel_rfl))
    (Eq.mpr (by kernel_rfl) H)

/-! milestone/milestoneref29.Name -/

def sh_milestoneref29_Name (P : Program) (n0 : Value) (h : Heap) (K : Value → Heap → Prop) : Prop :=
  pBuildSlice T_string (zerosL [(.string ⟨#[]⟩)] 6) [(0, 1, (.string ⟨#[97]⟩)), (1, 1, (.string ⟨#[98]⟩)), (2, 1, (.string ⟨#[105, 109, 97, 103, 101]⟩)), (3, 1, (.string ⟨#[116, 101, 109, 112]⟩)), (4, 1, (.string ⟨#[]⟩)), (5, 1, (.string ⟨#[97, 32, 110, 97, 109, 101, 32, 116, 104, 97, 116, 32, 105, 115, 32, 116, 111, 111, 32, 108, 111, 110, 103, 32, 102, 111, 114, 32, 105, 116]⟩))] 6 h fun t3 h_1 =>
  pBin .rem n0 (.int .u8 6) fun t5 =>
  pIdx 1 t3 t5 fun t6 =>
  pLoad h_1 t6 fun t7 =>
  K t7 h_1

set_option maxRecDepth 100000 in
theorem lk_milestoneref29_Name (n0 : Value) {h : Heap} {K : Value → Heap → Prop} (H : sh_milestoneref29_Name Tryz.prog n0 h K) : CallsH Tryz.prog F_milestoneref29_Name [n0].toArray h K :=
  callsH_of (ann := (annG (Tryz.f30.body.getD .skip) 0 []).1) (c := Tryz.f30.body.getD .skip) Tryz.func30 (by kernel_rfl) (by kernel_rfl) (by kernel_rfl) (of_decide_eq_true (by kernel_rfl))
    (Eq.mpr (by kernel_rfl) H)

/-! (*milestone/disk.Disk).change -/

def sh_disk_Disk_change (P : Program) (d0 e1 c2 : Value) (h : Heap) (K : Value → Heap → Prop) : Prop :=
  pBox T_p_disk_Disk d0 h fun d3 h_1 =>
  pBox T_func_disk_change c2 h_1 fun c5 h_2 =>
  pLoad h_2 d3 fun t7 =>
  callS P F_disk_Disk_step [t7, e1, (.func (.func F_disk_Disk_change_1) #[] #[c5, d3])] h_2 fun t10 h_3 =>
  K t10 h_3

set_option maxRecDepth 100000 in
theorem lk_disk_Disk_change (d0 e1 c2 : Value) {h : Heap} {K : Value → Heap → Prop} (H : sh_disk_Disk_change Tryz.prog d0 e1 c2 h K) : CallsH Tryz.prog F_disk_Disk_change [d0, e1, c2].toArray h K :=
  callsH_of (ann := (annG (Tryz.f31.body.getD .skip) 0 []).1) (c := Tryz.f31.body.getD .skip) Tryz.func31 (by kernel_rfl) (by kernel_rfl) (by kernel_rfl) (of_decide_eq_true (by kernel_rfl))
    (Eq.mpr (by kernel_rfl) H)

/-! (*milestone/disk.Disk).refused -/

def sh_disk_Disk_refused_L1 (P : Program) (t24 there2 d0 : Value) (K : Value → Heap → Prop) (t25 : Value) (h_1 : Heap) (Z : Value → Heap → Prop) : Prop :=
  pBin .lss t25 t24 fun t26 =>
  ifV t26
  (pIdx 1 there2 t25 fun t27 =>
  pLoad h_1 t27 fun t28 =>
  pNil d0 fun t31 =>
  pField 1 t31 fun t32 =>
  pLoad h_1 t32 fun t33 =>
  pLook .string (.int .i64 0) true h_1 t33 t28 fun t35 =>
  pExt t35 0 fun t36 =>
  pExt t35 1 fun t37 =>
  pUn .not t37 fun t39 =>
  ifV t39
  (K (.int .i64 21) h_1)
  (pBin .add t25 (.int .i64 1) fun t40 =>
  Z t40 h_1))
  (K (.int .i64 0) h_1)

def sh_disk_Disk_refused (P : Program) (d0 e1 there2 : Value) (h : Heap) (K : Value → Heap → Prop) : Prop :=
  pEq false .ptr d0 (.pointer none) fun t13 =>
  ifV t13
  (K (.int .i64 1) h)
  (pNil d0 fun t16 =>
  pField 6 t16 fun t17 =>
  pLoad h t17 fun t18 =>
  ifV t18
  (K (.int .i64 22) h)
  (pBin .neq e1 (.int .i64 0) fun t21 =>
  ifV t21
  (K e1 h)
  (pLen there2 fun t24 =>
  LoopH (σ := Vals [25]) (fun x hh ZZ => sh_disk_Disk_refused_L1 P t24 there2 d0 K x.1 hh (fun a0 hz => ZZ (a0, ()) hz)) ((.int .i64 0), ()) h)))

set_option maxRecDepth 100000 in
theorem lk_disk_Disk_refused (d0 e1 there2 : Value) {h : Heap} {K : Value → Heap → Prop} (H : sh_disk_Disk_refused Tryz.prog d0 e1 there2 h K) : CallsH Tryz.prog F_disk_Disk_refused [d0, e1, there2].toArray h K :=
  callsH_of (ann := (annG (Tryz.f32.body.getD .skip) 0 [(10, [25])]).1) (c := Tryz.f32.body.getD .skip) Tryz.func32 (by kernel_rfl) (by kernel_rfl) (by kernel_rfl) (of_decide_eq_true (by kernel_rfl))
    (Eq.mpr (by kernel_rfl) H)

/-! milestone/disk.names -/

def sh_disk_names (P : Program) (l0 : Value) (h : Heap) (K : Value → Heap → Prop) : Prop :=
  callS P F_slices_ContainsFunc_sl_string_string [l0, (.func (.func F_disk_names_1) #[] #[])] h fun t4 h_1 =>
  ifV t4
  (K (.int .i64 2) h_1)
  (K (.int .i64 0) h_1)

set_option maxRecDepth 100000 in
theorem lk_disk_names (l0 : Value) {h : Heap} {K : Value → Heap → Prop} (H : sh_disk_names Tryz.prog l0 h K) : CallsH Tryz.prog F_disk_names [l0].toArray h K :=
  callsH_of (ann := (annG (Tryz.f33.body.getD .skip) 0 []).1) (c := Tryz.f33.body.getD .skip) Tryz.func33 (by kernel_rfl) (by kernel_rfl) (by kernel_rfl) (of_decide_eq_true (by kernel_rfl))
    (Eq.mpr (by kernel_rfl) H)

/-! (*milestone/disk.Disk).Make$1 -/

def sh_disk_Disk_Make_1 (P : Program) (t0 t1 : Value) (h : Heap) (K : Value → Heap → Prop) : Prop :=
  pBox T_disk_change (.agg #[.nilFunc]) h fun t2 h_1 =>
  pLoad h_1 t0 fun t4 =>
  pNil t4 fun t5 =>
  pField 4 t5 fun t6 =>
  pLoad h_1 t6 fun t7 =>
  pBox T_int (.int .i64 0) h_1 fun n3 h_2 =>
  pStore 1 n3 t7 h_2 fun u h_3 =>
  pLoad h_3 t0 fun t8 =>
  pNil t8 fun t9 =>
  pField 4 t9 fun t10 =>
  pLoad h_3 t10 fun t11 =>
  pBin .add t11 (.int .i64 1) fun t12 =>
  pNil t8 fun t13 =>
  pField 4 t13 fun t14 =>
  pStore 1 t14 t12 h_3 fun u_1 h_4 =>
  pLoad h_4 t0 fun t15 =>
  pNil t15 fun t16 =>
  pField 2 t16 fun t17 =>
  pLoad h_4 t17 fun t18 =>
  pLoad h_4 n3 fun t19 =>
  pBuild [(.slice none 0 0), (.slice none 0 0)] [] fun t20 =>
  pBox T_disk_thing t20 h_4 fun t21 h_5 =>
  pMapSet (.int .i64) t18 t19 t21 h_5 fun u_2 h_6 =>
  pBuild [.nilFunc] [(0, 1, (.func (.func F_disk_Disk_Make_1_1) #[] #[n3, t1]))] fun t23 =>
  pStore 1 t2 t23 h_6 fun u_3 h_7 =>
  pLoadN 1 h_7 t2 fun res =>
  K res h_7

set_option maxRecDepth 100000 in
theorem lk_disk_Disk_Make_1 (t0 t1 : Value) {h : Heap} {K : Value → Heap → Prop} (H : sh_disk_Disk_Make_1 Tryz.prog t0 t1 h K) : CallsH Tryz.prog F_disk_Disk_Make_1 [t0, t1].toArray h K :=
  callsH_of (ann := (annG (Tryz.f34.body.getD .skip) 0 []).1) (c := Tryz.f34.body.getD .skip) Tryz.func34 (by kernel_rfl) (by kernel_rfl) (by kernel_rfl) (of_decide_eq_true (by kernel_rfl))
    (Eq.mpr (by kernel_rfl) H)

/-! (*milestone/disk.Disk).Make$1$1 -/

def sh_disk_Disk_Make_1_1 (P : Program) (dir0 t1 t2 : Value) (h : Heap) (K : Value → Heap → Prop) : Prop :=
  pLoad h t2 fun t5 =>
  pLoad h t1 fun t6 =>
  pMapSet .string dir0 t5 t6 h fun u h_1 =>
  K (.tuple #[]) h_1

set_option maxRecDepth 100000 in
theorem lk_disk_Disk_Make_1_1 (dir0 t1 t2 : Value) {h : Heap} {K : Value → Heap → Prop} (H : sh_disk_Disk_Make_1_1 Tryz.prog dir0 t1 t2 h K) : CallsH Tryz.prog F_disk_Disk_Make_1_1 [dir0, t1, t2].toArray h K :=
  callsH_of (ann := (annG (Tryz.f35.body.getD .skip) 0 []).1) (c := Tryz.f35.body.getD .skip) Tryz.func35 (by kernel_rfl) (by kernel_rfl) (by kernel_rfl) (of_decide_eq_true (by kernel_rfl))
    (Eq.mpr (by kernel_rfl) H)

/-! (*milestone/disk.Disk).step -/

def sh_disk_Disk_step_k1 (P : Program) (do2 : Value) (K : Value → Heap → Prop) (h_3 : Heap) : Prop :=
  callV P do2 [].toArray h_3 fun t31 h_4 =>
  K (.int .i64 0) h_4

def sh_disk_Disk_step (P : Program) (d0 e1 do2 : Value) (h : Heap) (K : Value → Heap → Prop) : Prop :=
  pBin .neq e1 (.int .i64 0) fun t8 =>
  ifV t8
  (K e1 h)
  (pNil d0 fun t11 =>
  pField 5 t11 fun t12 =>
  pLoad h t12 fun t13 =>
  pBin .gtr t13 (.int .i64 0) fun t14 =>
  ifV t14
  (pNil d0 fun t16 =>
  pField 5 t16 fun t17 =>
  pLoad h t17 fun t18 =>
  pBin .sub t18 (.int .i64 1) fun t19 =>
  pNil d0 fun t20 =>
  pField 5 t20 fun t21 =>
  pStore 1 t21 t19 h fun u h_1 =>
  pNil d0 fun t23 =>
  pField 5 t23 fun t24 =>
  pLoad h_1 t24 fun t25 =>
  pBin .eql t25 (.int .i64 0) fun t26 =>
  ifV t26
  (pNil d0 fun t28 =>
  pField 6 t28 fun t29 =>
  pStore 1 t29 (.bool true) h_1 fun u_1 h_2 =>
  K (.int .i64 22) h_2)
  (sh_disk_Disk_step_k1 P do2 K h_1))
  (sh_disk_Disk_step_k1 P do2 K h))

set_option maxRecDepth 100000 in
theorem lk_disk_Disk_step (d0 e1 do2 : Value) {h : Heap} {K : Value → Heap → Prop} (H : sh_disk_Disk_step Tryz.prog d0 e1 do2 h K) : CallsH Tryz.prog F_disk_Disk_step [d0, e1, do2].toArray h K :=
  callsH_of (ann := (annG (Tryz.f36.body.getD .skip) 0 []).1) (c := Tryz.f36.body.getD .skip) Tryz.func36 (by kernel_rfl) (by kernel_rfl) (by kernel_rfl) (of_decide_eq_true (by kernel_rfl))
    (Eq.mpr (by kernel_rfl) H)

/-! (*milestone/disk.Disk).Write$1 -/

def sh_disk_Disk_Write_1 (P : Program) (t0 t1 t2 t3 : Value) (h : Heap) (K : Value → Heap → Prop) : Prop :=
  pLoad h t0 fun t5 =>
  pNil t5 fun t6 =>
  pField 2 t6 fun t7 =>
  pLoad h t7 fun t8 =>
  pLoad h t0 fun t9 =>
  pNil t9 fun t10 =>
  pField 1 t10 fun t11 =>
  pLoad h t11 fun t12 =>
  pLoad h t1 fun t13 =>
  pLook .string (.int .i64 0) false h t12 t13 fun t14 =>
  pLook (.int .i64) (.pointer none) false h t8 t14 fun t15 =>
  pNil t15 fun t18 =>
  pField 1 t18 fun t19 =>
  pLoad h t19 fun t20 =>
  pLoad h t2 fun t21 =>
  pLoad h t3 fun t22 =>
  pBuild [(.int .i64 0), (.string ⟨#[]⟩)] [(0, 1, t21), (1, 1, t22)] fun t23 =>
  pBuildSlice T_disk_write (zerosL [(.int .i64 0), (.string ⟨#[]⟩)] 1) [(0, 2, t23)] 1 h fun t24 h_1 =>
  pAppend T_disk_write 2 24 [(.int .i64 0), (.string ⟨#[]⟩)] t20 t24 h_1 fun t25 h_2 =>
  pNil t15 fun t26 =>
  pField 1 t26 fun t27 =>
  pStore 1 t27 t25 h_2 fun u h_3 =>
  K (.tuple #[]) h_3

set_option maxRecDepth 100000 in
theorem lk_disk_Disk_Write_1 (t0 t1 t2 t3 : Value) {h : Heap} {K : Value → Heap → Prop} (H : sh_disk_Disk_Write_1 Tryz.prog t0 t1 t2 t3 h K) : CallsH Tryz.prog F_disk_Disk_Write_1 [t0, t1, t2, t3].toArray h K :=
  callsH_of (ann := (annG (Tryz.f37.body.getD .skip) 0 []).1) (c := Tryz.f37.body.getD .skip) Tryz.func37 (by kernel_rfl) (by kernel_rfl) (by kernel_rfl) (of_decide_eq_true (by kernel_rfl))
    (Eq.mpr (by kernel_rfl) H)

/-! (*milestone/disk.Disk).Sync$1 -/

def sh_disk_Disk_Sync_1 (P : Program) (t0 t1 : Value) (h : Heap) (K : Value → Heap → Prop) : Prop :=
  pLoad h t0 fun t3 =>
  pNil t3 fun t4 =>
  pField 2 t4 fun t5 =>
  pLoad h t5 fun t6 =>
  pLoad h t0 fun t7 =>
  pNil t7 fun t8 =>
  pField 1 t8 fun t9 =>
  pLoad h t9 fun t10 =>
  pLoad h t1 fun t11 =>
  pLook .string (.int .i64 0) false h t10 t11 fun t12 =>
  pLook (.int .i64) (.pointer none) false h t6 t12 fun t13 =>
  callS P F_disk_thing_seen [t13] h fun t17 h_1 =>
  pNil t13 fun t18 =>
  pField 0 t18 fun t19 =>
  pStore 1 t19 t17 h_1 fun u h_2 =>
  pNil t13 fun t20 =>
  pField 1 t20 fun t21 =>
  pStore 1 t21 (.slice none 0 0) h_2 fun u_1 h_3 =>
  K (.tuple #[]) h_3

set_option maxRecDepth 100000 in
theorem lk_disk_Disk_Sync_1 (t0 t1 : Value) {h : Heap} {K : Value → Heap → Prop} (H : sh_disk_Disk_Sync_1 Tryz.prog t0 t1 h K) : CallsH Tryz.prog F_disk_Disk_Sync_1 [t0, t1].toArray h K :=
  callsH_of (ann := (annG (Tryz.f38.body.getD .skip) 0 []).1) (c := Tryz.f38.body.getD .skip) Tryz.func38 (by kernel_rfl) (by kernel_rfl) (by kernel_rfl) (of_decide_eq_true (by kernel_rfl))
    (Eq.mpr (by kernel_rfl) H)

/-! (*milestone/disk.thing).seen -/

def sh_disk_thing_seen_L1 (P : Program) (t15 t14 : Value) (K : Value → Heap → Prop) (b3 t16 : Value) (h_2 : Heap) (Z : Value → Value → Heap → Prop) : Prop :=
  pBin .lss t16 t15 fun t17 =>
  ifV t17
  (pIdx 2 t14 t16 fun t18 =>
  pLoadN 2 h_2 t18 fun t19 =>
  pBox T_disk_write (.agg #[(.int .i64 0), (.string ⟨#[]⟩)]) h_2 fun w5 h_3 =>
  pStore 2 w5 t19 h_3 fun u h_4 =>
  pLoadN 2 h_4 w5 fun t21 =>
  callS P F_disk_put [b3, t21] h_4 fun t22 h_5 =>
  pBin .add t16 (.int .i64 1) fun t23 =>
  Z t22 t23 h_5)
  (K b3 h_2)

def sh_disk_thing_seen (P : Program) (t0 : Value) (h : Heap) (K : Value → Heap → Prop) : Prop :=
  pNil t0 fun t7 =>
  pField 0 t7 fun t8 =>
  pLoad h t8 fun t9 =>
  callS P F_slices_Clone_sl_byte_byte [t9] h fun t10 h_1 =>
  pNil t0 fun t12 =>
  pField 1 t12 fun t13 =>
  pLoad h_1 t13 fun t14 =>
  pLen t14 fun t15 =>
  LoopH (σ := Vals [3, 16]) (fun x hh ZZ => sh_disk_thing_seen_L1 P t15 t14 K x.1 x.2.1 hh (fun a0 a1 hz => ZZ (a0, (a1, ())) hz)) (t10, ((.int .i64 0), ())) h_1

set_option maxRecDepth 100000 in
theorem lk_disk_thing_seen (t0 : Value) {h : Heap} {K : Value → Heap → Prop} (H : sh_disk_thing_seen Tryz.prog t0 h K) : CallsH Tryz.prog F_disk_thing_seen [t0].toArray h K :=
  callsH_of (ann := (annG (Tryz.f39.body.getD .skip) 0 [(4, [3, 16])]).1) (c := Tryz.f39.body.getD .skip) Tryz.func39 (by kernel_rfl) (by kernel_rfl) (by kernel_rfl) (of_decide_eq_true (by kernel_rfl))
    (Eq.mpr (by kernel_rfl) H)

/-! (*milestone/disk.Disk).SyncDir$1 -/

def sh_disk_Disk_SyncDir_1 (P : Program) (t0 : Value) (h : Heap) (K : Value → Heap → Prop) : Prop :=
  pLoad h t0 fun t1 =>
  pLoad h t0 fun t2 =>
  pLoad h t0 fun t3 =>
  pNil t3 fun t4 =>
  pField 1 t4 fun t5 =>
  pLoad h t5 fun t6 =>
  callS P F_maps_Clone_disk_directory_string_int [t6] h fun t7 h_1 =>
  (pLoad h_1 t0 fun t1_1 =>
  t1_1 = t1) ∧
  (pLoad h_1 t0 fun t2_1 =>
  t2_1 = t2) ∧
  (pNil t1 fun t8 =>
  pField 0 t8 fun t9 =>
  pStore 1 t9 t7 h_1 fun u h_2 =>
  (pLoad h_2 t0 fun t2_2 =>
  t2_2 = t2) ∧
  (pNil t2 fun t10 =>
  pField 3 t10 fun t11 =>
  pStore 1 t11 (.slice none 0 0) h_2 fun u_1 h_3 =>
  K (.tuple #[]) h_3))

set_option maxRecDepth 100000 in
theorem lk_disk_Disk_SyncDir_1 (t0 : Value) {h : Heap} {K : Value → Heap → Prop} (H : sh_disk_Disk_SyncDir_1 Tryz.prog t0 h K) : CallsH Tryz.prog F_disk_Disk_SyncDir_1 [t0].toArray h K :=
  callsH_of (ann := (annG (Tryz.f40.body.getD .skip) 0 []).1) (c := Tryz.f40.body.getD .skip) Tryz.func40 (by kernel_rfl) (by kernel_rfl) (by kernel_rfl) (of_decide_eq_true (by kernel_rfl))
    (Eq.mpr (by kernel_rfl) H)

/-! (*milestone/disk.Disk).Crash$1 -/

def sh_disk_Disk_Crash_1 (P : Program) (t0 : Value) (h : Heap) (K : Value → Heap → Prop) : Prop :=
  pLoad h t0 fun t3 =>
  pLen t3 fun t4 =>
  pBin .eql t4 (.int .i64 0) fun t5 =>
  ifV t5
  (K (.int .i64 0) h)
  (pLoad h t0 fun t6 =>
  pIdx 1 t6 (.int .i64 0) fun t7 =>
  pLoad h t7 fun t8 =>
  pConv .i64 t8 fun t9 =>
  pLoad h t0 fun t10 =>
  pSlice 1 t10 (some (.int .i64 1)) none none fun t11 =>
  pStore 1 t0 t11 h fun u h_1 =>
  K t9 h_1)

set_option maxRecDepth 100000 in
theorem lk_disk_Disk_Crash_1 (t0 : Value) {h : Heap} {K : Value → Heap → Prop} (H : sh_disk_Disk_Crash_1 Tryz.prog t0 h K) : CallsH Tryz.prog F_disk_Disk_Crash_1 [t0].toArray h K :=
  callsH_of (ann := (annG (Tryz.f42.body.getD .skip) 0 []).1) (c := Tryz.f42.body.getD .skip) Tryz.func42 (by kernel_rfl) (by kernel_rfl) (by kernel_rfl) (of_decide_eq_true (by kernel_rfl))
    (Eq.mpr (by kernel_rfl) H)

/-! (*milestone/disk.Disk).named -/

def sh_disk_Disk_named (P : Program) (d0 : Value) (h : Heap) (K : Value → Heap → Prop) : Prop :=
  pBox T_p_disk_Disk d0 h fun d1 h_1 =>
  K (.func (.func F_disk_Disk_named_1) #[] #[d1]) h_1

set_option maxRecDepth 100000 in
theorem lk_disk_Disk_named (d0 : Value) {h : Heap} {K : Value → Heap → Prop} (H : sh_disk_Disk_named Tryz.prog d0 h K) : CallsH Tryz.prog F_disk_Disk_named [d0].toArray h K :=
  callsH_of (ann := (annG (Tryz.f43.body.getD .skip) 0 []).1) (c := Tryz.f43.body.getD .skip) Tryz.func43 (by kernel_rfl) (by kernel_rfl) (by kernel_rfl) (of_decide_eq_true (by kernel_rfl))
    (Eq.mpr (by kernel_rfl) H)

/-! milestone/disk.put -/

def sh_disk_put_k1 (P : Program) (w3 : Value) (K : Value → Heap → Prop) (b0_1 : Value) (h_3 : Heap) : Prop :=
  pField 0 w3 fun t21 =>
  pLoad h_3 t21 fun t22 =>
  pSlice 1 b0_1 (some t22) none none fun t23 =>
  pField 1 w3 fun t24 =>
  pLoad h_3 t24 fun t25 =>
  pCopyS t23 t25 h_3 fun t26 h_4 =>
  K b0_1 h_4

def sh_disk_put (P : Program) (b0 w1 : Value) (h : Heap) (K : Value → Heap → Prop) : Prop :=
  pBox T_disk_write w1 h fun w3 h_1 =>
  pField 0 w3 fun t6 =>
  pLoad h_1 t6 fun t7 =>
  pField 1 w3 fun t8 =>
  pLoad h_1 t8 fun t9 =>
  pLenS t9 fun t10 =>
  pBin .add t7 t10 fun t11 =>
  pLen b0 fun t13 =>
  pBin .sub t11 t13 fun t14 =>
  pBin .gtr t14 (.int .i64 0) fun t16 =>
  ifV t16
  (pAppendZ T_uint8 1 1 [(.int .u8 0)] b0 t14 h_1 fun t19 h_2 =>
  sh_disk_put_k1 P w3 K t19 h_2)
  (sh_disk_put_k1 P w3 K b0 h_1)

set_option maxRecDepth 100000 in
theorem lk_disk_put (b0 w1 : Value) {h : Heap} {K : Value → Heap → Prop} (H : sh_disk_put Tryz.prog b0 w1 h K) : CallsH Tryz.prog F_disk_put [b0, w1].toArray h K :=
  callsH_of (ann := (annG (Tryz.f44.body.getD .skip) 0 []).1) (c := Tryz.f44.body.getD .skip) Tryz.func44 (by kernel_rfl) (by kernel_rfl) (by kernel_rfl) (of_decide_eq_true (by kernel_rfl))
    (Eq.mpr (by kernel_rfl) H)

/-! slices.Clone[[]milestone/disk.change,milestone/disk.change] -/

def sh_slices_Clone_sl_disk_change_disk_change (P : Program) (s0 : Value) (h : Heap) (K : Value → Heap → Prop) : Prop :=
  pEq false .slice s0 (.slice none 0 0) fun t4 =>
  ifV t4
  (K (.slice none 0 0) h)
  (pBuildSlice T_disk_change (zerosL [.nilFunc] 0) [] 0 h fun t5 h_1 =>
  pAppend T_disk_change 1 8 [.nilFunc] t5 s0 h_1 fun t7 h_2 =>
  K t7 h_2)

set_option maxRecDepth 100000 in
theorem lk_slices_Clone_sl_disk_change_disk_change (s0 : Value) {h : Heap} {K : Value → Heap → Prop} (H : sh_slices_Clone_sl_disk_change_disk_change Tryz.prog s0 h K) : CallsH Tryz.prog F_slices_Clone_sl_disk_change_disk_change [s0].toArray h K :=
  callsH_of (ann := (annG (Tryz.f45.body.getD .skip) 0 []).1) (c := Tryz.f45.body.getD .skip) Tryz.func45 (by kernel_rfl) (by kernel_rfl) (by kernel_rfl) (of_decide_eq_true (by kernel_rfl))
    (Eq.mpr (by kernel_rfl) H)

/-! slices.Clone[[]byte,byte] -/

def sh_slices_Clone_sl_byte_byte (P : Program) (s0 : Value) (h : Heap) (K : Value → Heap → Prop) : Prop :=
  pEq false .slice s0 (.slice none 0 0) fun t4 =>
  ifV t4
  (K (.slice none 0 0) h)
  (pBuildSlice T_uint8 (zerosL [(.int .u8 0)] 0) [] 0 h fun t5 h_1 =>
  pAppend T_uint8 1 1 [(.int .u8 0)] t5 s0 h_1 fun t7 h_2 =>
  K t7 h_2)

set_option maxRecDepth 100000 in
theorem lk_slices_Clone_sl_byte_byte (s0 : Value) {h : Heap} {K : Value → Heap → Prop} (H : sh_slices_Clone_sl_byte_byte Tryz.prog s0 h K) : CallsH Tryz.prog F_slices_Clone_sl_byte_byte [s0].toArray h K :=
  callsH_of (ann := (annG (Tryz.f46.body.getD .skip) 0 []).1) (c := Tryz.f46.body.getD .skip) Tryz.func46 (by kernel_rfl) (by kernel_rfl) (by kernel_rfl) (of_decide_eq_true (by kernel_rfl))
    (Eq.mpr (by kernel_rfl) H)

/-! slices.Clone[[]milestone/disk.write,milestone/disk.write] -/

def sh_slices_Clone_sl_disk_write_disk_write (P : Program) (s0 : Value) (h : Heap) (K : Value → Heap → Prop) : Prop :=
  pEq false .slice s0 (.slice none 0 0) fun t4 =>
  ifV t4
  (K (.slice none 0 0) h)
  (pBuildSlice T_disk_write (zerosL [(.int .i64 0), (.string ⟨#[]⟩)] 0) [] 0 h fun t5 h_1 =>
  pAppend T_disk_write 2 24 [(.int .i64 0), (.string ⟨#[]⟩)] t5 s0 h_1 fun t7 h_2 =>
  K t7 h_2)

set_option maxRecDepth 100000 in
theorem lk_slices_Clone_sl_disk_write_disk_write (s0 : Value) {h : Heap} {K : Value → Heap → Prop} (H : sh_slices_Clone_sl_disk_write_disk_write Tryz.prog s0 h K) : CallsH Tryz.prog F_slices_Clone_sl_disk_write_disk_write [s0].toArray h K :=
  callsH_of (ann := (annG (Tryz.f47.body.getD .skip) 0 []).1) (c := Tryz.f47.body.getD .skip) Tryz.func47 (by kernel_rfl) (by kernel_rfl) (by kernel_rfl) (of_decide_eq_true (by kernel_rfl))
    (Eq.mpr (by kernel_rfl) H)

/-! (*milestone/milestoneref29.Disk).Make -/

def sh_milestoneref29_Disk_Make_k1 (P : Program) (K : Value → Heap → Prop) (t16 : Value) (h_8 : Heap) : Prop :=
  K t16 h_8

def sh_milestoneref29_Disk_Make (P : Program) (d0 name1 : Value) (h : Heap) (K : Value → Heap → Prop) : Prop :=
  pNil d0 fun t8 =>
  pField 0 t8 fun t9 =>
  pLoad h t9 fun t10 =>
  pLen t10 fun t11 =>
  pBuild [(.int .i64 0), (.int .i64 0), (.string ⟨#[]⟩), (.string ⟨#[]⟩), (.bool false)] [(1, 1, t11), (2, 1, name1)] fun t13 =>
  pBuildSlice T_string (zerosL [(.string ⟨#[]⟩)] 1) [(0, 1, name1)] 1 h fun t15 h_1 =>
  callS P F_milestoneref29_Disk_change [d0, (.bool false), t13, t15] h_1 fun t16 h_2 =>
  pBin .eql t16 (.int .i64 0) fun t18 =>
  ifV t18
  (pBuildSlice T_milestoneref29_Thing (zerosL [(.slice none 0 0)] 0) [] 0 h_2 fun t20 h_3 =>
  pNil d0 fun t22 =>
  pField 0 t22 fun t23 =>
  pLoad h_3 t23 fun t24 =>
  pAppend T_milestoneref29_Thing 1 24 [(.slice none 0 0)] t20 t24 h_3 fun t25 h_4 =>
  pBuild [(.slice none 0 0)] [] fun t26 =>
  pBuildSlice T_milestoneref29_Thing (zerosL [(.slice none 0 0)] 1) [(0, 1, t26)] 1 h_4 fun t27 h_5 =>
  pAppend T_milestoneref29_Thing 1 24 [(.slice none 0 0)] t25 t27 h_5 fun t28 h_6 =>
  pNil d0 fun t29 =>
  pField 0 t29 fun t30 =>
  pStore 1 t30 t28 h_6 fun u h_7 =>
  sh_milestoneref29_Disk_Make_k1 P K t16 h_7)
  (sh_milestoneref29_Disk_Make_k1 P K t16 h_2)

set_option maxRecDepth 100000 in
theorem lk_milestoneref29_Disk_Make (d0 name1 : Value) {h : Heap} {K : Value → Heap → Prop} (H : sh_milestoneref29_Disk_Make Tryz.prog d0 name1 h K) : CallsH Tryz.prog F_milestoneref29_Disk_Make [d0, name1].toArray h K :=
  callsH_of (ann := (annG (Tryz.f48.body.getD .skip) 0 []).1) (c := Tryz.f48.body.getD .skip) Tryz.func48 (by kernel_rfl) (by kernel_rfl) (by kernel_rfl) (of_decide_eq_true (by kernel_rfl))
    (Eq.mpr (by kernel_rfl) H)

/-! (*milestone/milestoneref29.Disk).Write -/

def sh_milestoneref29_Disk_Write_k1 (P : Program) (K : Value → Heap → Prop) (h_2 : Heap) : Prop :=
  K (.int .i64 2) h_2

def sh_milestoneref29_Disk_Write_k4 (P : Program) (K : Value → Heap → Prop) (e9 : Value) (h_17 : Heap) : Prop :=
  K e9 h_17

def sh_milestoneref29_Disk_Write_k3 (P : Program) (d0 name1 at2 s3 : Value) (K : Value → Heap → Prop) (e9 : Value) (h_7 : Heap) : Prop :=
  pBin .eql e9 (.int .i64 0) fun t44 =>
  ifV t44
  (pNil d0 fun t46 =>
  pField 1 t46 fun t47 =>
  pLoad h_7 t47 fun t48 =>
  callS P F_milestoneref29_Points [t48, name1] h_7 fun t50 h_8 =>
  pBuildSlice T_milestoneref29_Thing (zerosL [(.slice none 0 0)] 0) [] 0 h_8 fun t52 h_9 =>
  pNil d0 fun t54 =>
  pField 0 t54 fun t55 =>
  pLoad h_9 t55 fun t56 =>
  pAppend T_milestoneref29_Thing 1 24 [(.slice none 0 0)] t52 t56 h_9 fun t57 h_10 =>
  pNil d0 fun t58 =>
  pField 0 t58 fun t59 =>
  pStore 1 t59 t57 h_10 fun u h_11 =>
  pNil d0 fun t61 =>
  pField 0 t61 fun t62 =>
  pLoad h_11 t62 fun t63 =>
  pNil d0 fun t67 =>
  pField 0 t67 fun t68 =>
  pLoad h_11 t68 fun t69 =>
  pIdx 1 t69 t50 fun t71 =>
  pField 0 t71 fun t72 =>
  pLoad h_11 t72 fun t73 =>
  pBuild [(.int .i64 0), (.string ⟨#[]⟩), (.bool false)] [(0, 1, at2), (1, 1, s3)] fun t77 =>
  (pBuildSlice T_milestoneref29_Write (zerosL [(.int .i64 0), (.string ⟨#[]⟩), (.bool false)] 0) [] 0 h_11 fun t65 h_12 =>
  (pAppend T_milestoneref29_Write 3 32 [(.int .i64 0), (.string ⟨#[]⟩), (.bool false)] t65 t73 h_12 fun t74 h_13 =>
  (pLoad h_13 t62 fun t63_1 =>
  t63_1 = t63) ∧
  (pBuildSlice T_milestoneref29_Write (zerosL [(.int .i64 0), (.string ⟨#[]⟩), (.bool false)] 1) [(0, 3, t77)] 1 h_13 fun t78 h_14 =>
  pAppend T_milestoneref29_Write 3 32 [(.int .i64 0), (.string ⟨#[]⟩), (.bool false)] t74 t78 h_14 fun t79 h_15 =>
  (pLoad h_15 t62 fun t63_2 =>
  t63_2 = t63) ∧
  (pBuild [(.slice none 0 0)] [(0, 1, t79)] fun t80 =>
  pIdx 1 t63 t50 fun t81 =>
  pStore 1 t81 t80 h_15 fun u_1 h_16 =>
  sh_milestoneref29_Disk_Write_k4 P K e9 h_16))) ∧
  (pBuildSlice T_milestoneref29_Write (zerosL [(.int .i64 0), (.string ⟨#[]⟩), (.bool false)] 1) [(0, 3, t77)] 1 h_12 fun t78_1 h_18 =>
  pAppend T_milestoneref29_Write 3 32 [(.int .i64 0), (.string ⟨#[]⟩), (.bool false)] t65 t73 h_18 fun t74_1 h_19 =>
  (pLoad h_19 t62 fun t63_3 =>
  t63_3 = t63) ∧
  (pAppend T_milestoneref29_Write 3 32 [(.int .i64 0), (.string ⟨#[]⟩), (.bool false)] t74_1 t78_1 h_19 fun t79_1 h_20 =>
  (pLoad h_20 t62 fun t63_4 =>
  t63_4 = t63) ∧
  (pBuild [(.slice none 0 0)] [(0, 1, t79_1)] fun t80_1 =>
  pIdx 1 t63 t50 fun t81_1 =>
  pStore 1 t81_1 t80_1 h_20 fun u_2 h_21 =>
  sh_milestoneref29_Disk_Write_k4 P K e9 h_21)))) ∧
  (pBuildSlice T_milestoneref29_Write (zerosL [(.int .i64 0), (.string ⟨#[]⟩), (.bool false)] 1) [(0, 3, t77)] 1 h_11 fun t78_2 h_22 =>
  pBuildSlice T_milestoneref29_Write (zerosL [(.int .i64 0), (.string ⟨#[]⟩), (.bool false)] 0) [] 0 h_22 fun t65_1 h_23 =>
  pAppend T_milestoneref29_Write 3 32 [(.int .i64 0), (.string ⟨#[]⟩), (.bool false)] t65_1 t73 h_23 fun t74_2 h_24 =>
  (pLoad h_24 t62 fun t63_5 =>
  t63_5 = t63) ∧
  (pAppend T_milestoneref29_Write 3 32 [(.int .i64 0), (.string ⟨#[]⟩), (.bool false)] t74_2 t78_2 h_24 fun t79_2 h_25 =>
  (pLoad h_25 t62 fun t63_6 =>
  t63_6 = t63) ∧
  (pBuild [(.slice none 0 0)] [(0, 1, t79_2)] fun t80_2 =>
  pIdx 1 t63 t50 fun t81_2 =>
  pStore 1 t81_2 t80_2 h_25 fun u_3 h_26 =>
  sh_milestoneref29_Disk_Write_k4 P K e9 h_26))))
  (sh_milestoneref29_Disk_Write_k4 P K e9 h_7)

def sh_milestoneref29_Disk_Write_k2 (P : Program) (name1 d0 at2 s3 : Value) (K : Value → Heap → Prop) (h_3 : Heap) : Prop :=
  pBuildSlice T_string (zerosL [(.string ⟨#[]⟩)] 1) [(0, 1, name1)] 1 h_3 fun t37 h_4 =>
  callS P F_milestoneref29_Disk_refused [d0, (.bool true), t37] h_4 fun t38 h_5 =>
  pBin .eql t38 (.int .i64 0) fun t40 =>
  ifV t40
  (callS P F_milestoneref29_Disk_step [d0] h_5 fun t42 h_6 =>
  sh_milestoneref29_Disk_Write_k3 P d0 name1 at2 s3 K t42 h_6)
  (sh_milestoneref29_Disk_Write_k3 P d0 name1 at2 s3 K t38 h_5)

def sh_milestoneref29_Disk_Write (P : Program) (d0 name1 at2 s3 : Value) (h : Heap) (K : Value → Heap → Prop) : Prop :=
  pNil d0 fun t12 =>
  pField 2 t12 fun t13 =>
  pLoad h t13 fun t14 =>
  pUn .not t14 fun t15 =>
  ifV t15
  (callS P F_milestoneref29_May [name1] h fun t18 h_1 =>
  ifV t18
  (pBin .lss at2 (.int .i64 0) fun t22 =>
  ifV t22
  (sh_milestoneref29_Disk_Write_k1 P K h_1)
  (pBin .gtr at2 (.int .i64 1048576) fun t25 =>
  ifV t25
  (sh_milestoneref29_Disk_Write_k1 P K h_1)
  (pLenS s3 fun t30 =>
  pBin .add at2 t30 fun t31 =>
  pBin .gtr t31 (.int .i64 1048576) fun t32 =>
  ifV t32
  (sh_milestoneref29_Disk_Write_k1 P K h_1)
  (sh_milestoneref29_Disk_Write_k2 P name1 d0 at2 s3 K h_1))))
  (sh_milestoneref29_Disk_Write_k2 P name1 d0 at2 s3 K h_1))
  (sh_milestoneref29_Disk_Write_k2 P name1 d0 at2 s3 K h)

set_option maxRecDepth 100000 in
theorem lk_milestoneref29_Disk_Write (d0 name1 at2 s3 : Value) {h : Heap} {K : Value → Heap → Prop} (H : sh_milestoneref29_Disk_Write Tryz.prog d0 name1 at2 s3 h K) : CallsH Tryz.prog F_milestoneref29_Disk_Write [d0, name1, at2, s3].toArray h K :=
  callsH_of (ann := (annG (Tryz.f49.body.getD .skip) 0 []).1) (c := Tryz.f49.body.getD .skip) Tryz.func49 (by kernel_rfl) (by kernel_rfl) (by kernel_rfl) (of_decide_eq_true (by kernel_rfl))
    (Eq.mpr (by kernel_rfl) H)

end Go.Proofs.YtdbkeklhjjlhbaaGreat

namespace Go.Proofs.YtdbkeklhjjlhbaaGreat
open Go Go.Mh
set_option maxHeartbeats 0
set_option linter.unusedVariables false

/-! (*milestone/milestoneref29.Disk).Sync -/

def sh_milestoneref29_Disk_Sync_k3 (P : Program) (K : Value → Heap → Prop) (e5 : Value) (h_14 : Heap) : Prop :=
  K e5 h_14

def sh_milestoneref29_Disk_Sync_L2 (P : Program) (t34 d0 t24 : Value) (K : Value → Heap → Prop) (e5 i8 : Value) (h_8 : Heap) (Z : Value → Heap → Prop) : Prop :=
  pLen t34 fun t37 =>
  pBin .lss i8 t37 fun t38 =>
  ifV t38
  (pIdx 3 t34 i8 fun t43 =>
  pField 2 t43 fun t44 =>
  pStore 1 t44 (.bool true) h_8 fun u h_9 =>
  pBin .add i8 (.int .i64 1) fun t40 =>
  Z t40 h_9)
  (pBuildSlice T_milestoneref29_Thing (zerosL [(.slice none 0 0)] 0) [] 0 h_8 fun t46 h_10 =>
  pNil d0 fun t48 =>
  pField 0 t48 fun t49 =>
  pLoad h_10 t49 fun t50 =>
  pAppend T_milestoneref29_Thing 1 24 [(.slice none 0 0)] t46 t50 h_10 fun t51 h_11 =>
  pNil d0 fun t52 =>
  pField 0 t52 fun t53 =>
  pStore 1 t53 t51 h_11 fun u_1 h_12 =>
  pNil d0 fun t55 =>
  pField 0 t55 fun t56 =>
  pLoad h_12 t56 fun t57 =>
  pBuild [(.slice none 0 0)] [(0, 1, t34)] fun t60 =>
  pIdx 1 t57 t24 fun t61 =>
  pStore 1 t61 t60 h_12 fun u_2 h_13 =>
  sh_milestoneref29_Disk_Sync_k3 P K e5 h_13)

def sh_milestoneref29_Disk_Sync_k1 (P : Program) (d0 name1 : Value) (K : Value → Heap → Prop) (e5 : Value) (h_4 : Heap) : Prop :=
  pBin .eql e5 (.int .i64 0) fun t18 =>
  ifV t18
  (pNil d0 fun t20 =>
  pField 1 t20 fun t21 =>
  pLoad h_4 t21 fun t22 =>
  callS P F_milestoneref29_Points [t22, name1] h_4 fun t24 h_5 =>
  pBuildSlice T_milestoneref29_Write (zerosL [(.int .i64 0), (.string ⟨#[]⟩), (.bool false)] 0) [] 0 h_5 fun t25 h_6 =>
  pNil d0 fun t27 =>
  pField 0 t27 fun t28 =>
  pLoad h_6 t28 fun t29 =>
  pIdx 1 t29 t24 fun t31 =>
  pField 0 t31 fun t32 =>
  pLoad h_6 t32 fun t33 =>
  pAppend T_milestoneref29_Write 3 32 [(.int .i64 0), (.string ⟨#[]⟩), (.bool false)] t25 t33 h_6 fun t34 h_7 =>
  LoopH (σ := Vals [8]) (fun x hh ZZ => sh_milestoneref29_Disk_Sync_L2 P t34 d0 t24 K e5 x.1 hh (fun a0 hz => ZZ (a0, ()) hz)) ((.int .i64 0), ()) h_7)
  (sh_milestoneref29_Disk_Sync_k3 P K e5 h_4)

def sh_milestoneref29_Disk_Sync (P : Program) (d0 name1 : Value) (h : Heap) (K : Value → Heap → Prop) : Prop :=
  pBuildSlice T_string (zerosL [(.string ⟨#[]⟩)] 1) [(0, 1, name1)] 1 h fun t11 h_1 =>
  callS P F_milestoneref29_Disk_refused [d0, (.bool true), t11] h_1 fun t12 h_2 =>
  pBin .eql t12 (.int .i64 0) fun t14 =>
  ifV t14
  (callS P F_milestoneref29_Disk_step [d0] h_2 fun t16 h_3 =>
  sh_milestoneref29_Disk_Sync_k1 P d0 name1 K t16 h_3)
  (sh_milestoneref29_Disk_Sync_k1 P d0 name1 K t12 h_2)

set_option maxRecDepth 100000 in
theorem lk_milestoneref29_Disk_Sync (d0 name1 : Value) {h : Heap} {K : Value → Heap → Prop} (H : sh_milestoneref29_Disk_Sync Tryz.prog d0 name1 h K) : CallsH Tryz.prog F_milestoneref29_Disk_Sync [d0, name1].toArray h K :=
  callsH_of (ann := (annG (Tryz.f50.body.getD .skip) 0 [(10, [8])]).1) (c := Tryz.f50.body.getD .skip) Tryz.func50 (by kernel_rfl) (by kernel_rfl) (by kernel_rfl) (of_decide_eq_true (by kernel_rfl))
    (Eq.mpr (by kernel_rfl) H)

/-! (*milestone/milestoneref29.Disk).Rename -/

def sh_milestoneref29_Disk_Rename (P : Program) (d0 from1 to2 : Value) (h : Heap) (K : Value → Heap → Prop) : Prop :=
  pBuild [(.int .i64 0), (.int .i64 0), (.string ⟨#[]⟩), (.string ⟨#[]⟩), (.bool false)] [(0, 1, (.int .i64 1)), (2, 1, from1), (3, 1, to2)] fun t10 =>
  pBuildSlice T_string (zerosL [(.string ⟨#[]⟩)] 2) [(0, 1, from1), (1, 1, to2)] 2 h fun t13 h_1 =>
  callS P F_milestoneref29_Disk_change [d0, (.bool true), t10, t13] h_1 fun t14 h_2 =>
  K t14 h_2

set_option maxRecDepth 100000 in
theorem lk_milestoneref29_Disk_Rename (d0 from1 to2 : Value) {h : Heap} {K : Value → Heap → Prop} (H : sh_milestoneref29_Disk_Rename Tryz.prog d0 from1 to2 h K) : CallsH Tryz.prog F_milestoneref29_Disk_Rename [d0, from1, to2].toArray h K :=
  callsH_of (ann := (annG (Tryz.f51.body.getD .skip) 0 []).1) (c := Tryz.f51.body.getD .skip) Tryz.func51 (by kernel_rfl) (by kernel_rfl) (by kernel_rfl) (of_decide_eq_true (by kernel_rfl))
    (Eq.mpr (by kernel_rfl) H)

/-! (*milestone/milestoneref29.Disk).Remove -/

def sh_milestoneref29_Disk_Remove (P : Program) (d0 name1 : Value) (h : Heap) (K : Value → Heap → Prop) : Prop :=
  pBuild [(.int .i64 0), (.int .i64 0), (.string ⟨#[]⟩), (.string ⟨#[]⟩), (.bool false)] [(0, 1, (.int .i64 2)), (2, 1, name1)] fun t7 =>
  pBuildSlice T_string (zerosL [(.string ⟨#[]⟩)] 1) [(0, 1, name1)] 1 h fun t9 h_1 =>
  callS P F_milestoneref29_Disk_change [d0, (.bool true), t7, t9] h_1 fun t10 h_2 =>
  K t10 h_2

set_option maxRecDepth 100000 in
theorem lk_milestoneref29_Disk_Remove (d0 name1 : Value) {h : Heap} {K : Value → Heap → Prop} (H : sh_milestoneref29_Disk_Remove Tryz.prog d0 name1 h K) : CallsH Tryz.prog F_milestoneref29_Disk_Remove [d0, name1].toArray h K :=
  callsH_of (ann := (annG (Tryz.f52.body.getD .skip) 0 []).1) (c := Tryz.f52.body.getD .skip) Tryz.func52 (by kernel_rfl) (by kernel_rfl) (by kernel_rfl) (of_decide_eq_true (by kernel_rfl))
    (Eq.mpr (by kernel_rfl) H)

/-! (*milestone/milestoneref29.Disk).SyncDir -/

def sh_milestoneref29_Disk_SyncDir_k3 (P : Program) (K : Value → Heap → Prop) (e3 : Value) (h_9 : Heap) : Prop :=
  K e3 h_9

def sh_milestoneref29_Disk_SyncDir_L2 (P : Program) (d0 : Value) (K : Value → Heap → Prop) (e3 i4 : Value) (h_7 : Heap) (Z : Value → Heap → Prop) : Prop :=
  pNil d0 fun t24 =>
  pField 1 t24 fun t25 =>
  pLoad h_7 t25 fun t26 =>
  pLen t26 fun t27 =>
  pBin .lss i4 t27 fun t28 =>
  ifV t28
  (pNil d0 fun t32 =>
  pField 1 t32 fun t33 =>
  pLoad h_7 t33 fun t34 =>
  pIdx 5 t34 i4 fun t36 =>
  pField 4 t36 fun t37 =>
  pStore 1 t37 (.bool true) h_7 fun u_1 h_8 =>
  pBin .add i4 (.int .i64 1) fun t30 =>
  Z t30 h_8)
  (sh_milestoneref29_Disk_SyncDir_k3 P K e3 h_7)

def sh_milestoneref29_Disk_SyncDir_k1 (P : Program) (d0 : Value) (K : Value → Heap → Prop) (e3 : Value) (h_3 : Heap) : Prop :=
  pBin .eql e3 (.int .i64 0) fun t12 =>
  ifV t12
  (pBuildSlice T_milestoneref29_Change (zerosL [(.int .i64 0), (.int .i64 0), (.string ⟨#[]⟩), (.string ⟨#[]⟩), (.bool false)] 0) [] 0 h_3 fun t14 h_4 =>
  pNil d0 fun t16 =>
  pField 1 t16 fun t17 =>
  pLoad h_4 t17 fun t18 =>
  pAppend T_milestoneref29_Change 5 56 [(.int .i64 0), (.int .i64 0), (.string ⟨#[]⟩), (.string ⟨#[]⟩), (.bool false)] t14 t18 h_4 fun t19 h_5 =>
  pNil d0 fun t20 =>
  pField 1 t20 fun t21 =>
  pStore 1 t21 t19 h_5 fun u h_6 =>
  LoopH (σ := Vals [4]) (fun x hh ZZ => sh_milestoneref29_Disk_SyncDir_L2 P d0 K e3 x.1 hh (fun a0 hz => ZZ (a0, ()) hz)) ((.int .i64 0), ()) h_6)
  (sh_milestoneref29_Disk_SyncDir_k3 P K e3 h_3)

def sh_milestoneref29_Disk_SyncDir (P : Program) (d0 : Value) (h : Heap) (K : Value → Heap → Prop) : Prop :=
  callS P F_milestoneref29_Disk_refused [d0, (.bool false), (.slice none 0 0)] h fun t6 h_1 =>
  pBin .eql t6 (.int .i64 0) fun t8 =>
  ifV t8
  (callS P F_milestoneref29_Disk_step [d0] h_1 fun t10 h_2 =>
  sh_milestoneref29_Disk_SyncDir_k1 P d0 K t10 h_2)
  (sh_milestoneref29_Disk_SyncDir_k1 P d0 K t6 h_1)

set_option maxRecDepth 100000 in
theorem lk_milestoneref29_Disk_SyncDir (d0 : Value) {h : Heap} {K : Value → Heap → Prop} (H : sh_milestoneref29_Disk_SyncDir Tryz.prog d0 h K) : CallsH Tryz.prog F_milestoneref29_Disk_SyncDir [d0].toArray h K :=
  callsH_of (ann := (annG (Tryz.f53.body.getD .skip) 0 [(8, [4])]).1) (c := Tryz.f53.body.getD .skip) Tryz.func53 (by kernel_rfl) (by kernel_rfl) (by kernel_rfl) (of_decide_eq_true (by kernel_rfl))
    (Eq.mpr (by kernel_rfl) H)

/-! (*milestone/milestoneref29.Disk).Read -/

def sh_milestoneref29_Disk_Read (P : Program) (d0 name1 : Value) (h : Heap) (K : Value → Heap → Prop) : Prop :=
  pBuildSlice T_string (zerosL [(.string ⟨#[]⟩)] 1) [(0, 1, name1)] 1 h fun t9 h_1 =>
  callS P F_milestoneref29_Disk_refused [d0, (.bool true), t9] h_1 fun t10 h_2 =>
  pBin .neq t10 (.int .i64 0) fun t12 =>
  ifV t12
  (K (.tuple #[(.string ⟨#[]⟩), t10]) h_2)
  (pNil d0 fun t15 =>
  pField 0 t15 fun t16 =>
  pLoad h_2 t16 fun t17 =>
  pNil d0 fun t19 =>
  pField 1 t19 fun t20 =>
  pLoad h_2 t20 fun t21 =>
  callS P F_milestoneref29_Points [t21, name1] h_2 fun t23 h_3 =>
  (pLoad h_3 t16 fun t17_1 =>
  t17_1 = t17) ∧
  (pIdx 1 t17 t23 fun t24 =>
  pLoadN 1 h_3 t24 fun t25 =>
  callS P F_milestoneref29_Thing_Bytes [t25] h_3 fun t26 h_4 =>
  K (.tuple #[t26, (.int .i64 0)]) h_4))

set_option maxRecDepth 100000 in
theorem lk_milestoneref29_Disk_Read (d0 name1 : Value) {h : Heap} {K : Value → Heap → Prop} (H : sh_milestoneref29_Disk_Read Tryz.prog d0 name1 h K) : CallsH Tryz.prog F_milestoneref29_Disk_Read [d0, name1].toArray h K :=
  callsH_of (ann := (annG (Tryz.f54.body.getD .skip) 0 []).1) (c := Tryz.f54.body.getD .skip) Tryz.func54 (by kernel_rfl) (by kernel_rfl) (by kernel_rfl) (of_decide_eq_true (by kernel_rfl))
    (Eq.mpr (by kernel_rfl) H)

/-! (*milestone/milestoneref29.Disk).Arm -/

def sh_milestoneref29_Disk_Arm (P : Program) (d0 n1 : Value) (h : Heap) (K : Value → Heap → Prop) : Prop :=
  pMax (.int .i64 0) n1 fun t6 =>
  pNil d0 fun t7 =>
  pField 3 t7 fun t8 =>
  pStore 1 t8 t6 h fun u h_1 =>
  K (.tuple #[]) h_1

set_option maxRecDepth 100000 in
theorem lk_milestoneref29_Disk_Arm (d0 n1 : Value) {h : Heap} {K : Value → Heap → Prop} (H : sh_milestoneref29_Disk_Arm Tryz.prog d0 n1 h K) : CallsH Tryz.prog F_milestoneref29_Disk_Arm [d0, n1].toArray h K :=
  callsH_of (ann := (annG (Tryz.f55.body.getD .skip) 0 []).1) (c := Tryz.f55.body.getD .skip) Tryz.func55 (by kernel_rfl) (by kernel_rfl) (by kernel_rfl) (of_decide_eq_true (by kernel_rfl))
    (Eq.mpr (by kernel_rfl) H)

/-! (*milestone/milestoneref29.Disk).Crash -/

def sh_milestoneref29_Disk_Crash_k4 (P : Program) (n9 : Value) (Z_1 : Value → Value → Heap → Prop) (at4_1 : Value) (h_13 : Heap) : Prop :=
  pBin .add n9 (.int .i64 1) fun t80 =>
  Z_1 at4_1 t80 h_13

def sh_milestoneref29_Disk_Crash_k7 (P : Program) (i11 : Value) (Z_2 : Value → Value → Value → Heap → Prop) (at4_3 l10_1 : Value) (h_18 : Heap) : Prop :=
  pBin .add i11 (.int .i64 1) fun t97 =>
  Z_2 at4_3 l10_1 t97 h_18

def sh_milestoneref29_Disk_Crash_k8 (P : Program) (w12 l10 i11 : Value) (Z_2 : Value → Value → Value → Heap → Prop) (at4_4 : Value) (h_19 : Heap) : Prop :=
  pField 2 w12 fun t128 =>
  pStore 1 t128 (.bool true) h_19 fun u_4 h_20 =>
  pLoadN 3 h_20 w12 fun t130 =>
  pBuildSlice T_milestoneref29_Write (zerosL [(.int .i64 0), (.string ⟨#[]⟩), (.bool false)] 1) [(0, 3, t130)] 1 h_20 fun t131 h_21 =>
  pAppend T_milestoneref29_Write 3 32 [(.int .i64 0), (.string ⟨#[]⟩), (.bool false)] l10 t131 h_21 fun t132 h_22 =>
  sh_milestoneref29_Disk_Crash_k7 P i11 Z_2 at4_4 t132 h_22

def sh_milestoneref29_Disk_Crash_k6 (P : Program) (at4_2 i11 : Value) (Z_2 : Value → Value → Value → Heap → Prop) (l10 w12 odd13 : Value) (h_17 : Heap) : Prop :=
  pBin .add at4_2 (.int .i64 1) fun t125 =>
  pUn .not odd13 fun t127 =>
  ifV t127
  (sh_milestoneref29_Disk_Crash_k7 P i11 Z_2 t125 l10 h_17)
  (sh_milestoneref29_Disk_Crash_k8 P w12 l10 i11 Z_2 t125 h_17)

def sh_milestoneref29_Disk_Crash_L5 (P : Program) (d0 n9 fates1 : Value) (Z_1 : Value → Value → Heap → Prop) (at4_2 l10 i11 : Value) (h_14 : Heap) (Z_2 : Value → Value → Value → Heap → Prop) : Prop :=
  pNil d0 fun t87 =>
  pField 0 t87 fun t88 =>
  pLoad h_14 t88 fun t89 =>
  pIdx 1 t89 n9 fun t91 =>
  pField 0 t91 fun t92 =>
  pLoad h_14 t92 fun t93 =>
  pLen t93 fun t94 =>
  pBin .lss i11 t94 fun t95 =>
  ifV t95
  (pNil d0 fun t99 =>
  pField 0 t99 fun t100 =>
  pLoad h_14 t100 fun t101 =>
  pIdx 1 t101 n9 fun t103 =>
  pField 0 t103 fun t104 =>
  pLoad h_14 t104 fun t105 =>
  pIdx 3 t105 i11 fun t107 =>
  pLoadN 3 h_14 t107 fun t108 =>
  pBox T_milestoneref29_Write (.agg #[(.int .i64 0), (.string ⟨#[]⟩), (.bool false)]) h_14 fun w12 h_15 =>
  pStore 3 w12 t108 h_15 fun u_3 h_16 =>
  pField 2 w12 fun t109 =>
  pLoad h_16 t109 fun t110 =>
  pUn .not t110 fun t111 =>
  ifV t111
  (pLen fates1 fun t114 =>
  pBin .lss at4_2 t114 fun t115 =>
  ifV t115
  (pIdx 1 fates1 at4_2 fun t119 =>
  pLoad h_16 t119 fun t120 =>
  pBin .rem t120 (.int .u8 2) fun t121 =>
  pBin .eql t121 (.int .u8 1) fun t122 =>
  sh_milestoneref29_Disk_Crash_k6 P at4_2 i11 Z_2 l10 w12 t122 h_16)
  (sh_milestoneref29_Disk_Crash_k6 P at4_2 i11 Z_2 l10 w12 (.bool false) h_16))
  (sh_milestoneref29_Disk_Crash_k8 P w12 l10 i11 Z_2 at4_2 h_16))
  (pNil d0 fun t134 =>
  pField 0 t134 fun t135 =>
  pLoad h_14 t135 fun t136 =>
  pBuild [(.slice none 0 0)] [(0, 1, l10)] fun t139 =>
  pIdx 1 t136 n9 fun t140 =>
  pStore 1 t140 t139 h_14 fun u_5 h_23 =>
  sh_milestoneref29_Disk_Crash_k4 P n9 Z_1 at4_2 h_23)

def sh_milestoneref29_Disk_Crash_L3 (P : Program) (d0 fates1 : Value) (K : Value → Heap → Prop) (at4 n9 : Value) (h_11 : Heap) (Z_1 : Value → Value → Heap → Prop) : Prop :=
  pNil d0 fun t74 =>
  pField 0 t74 fun t75 =>
  pLoad h_11 t75 fun t76 =>
  pLen t76 fun t77 =>
  pBin .lss n9 t77 fun t78 =>
  ifV t78
  (callS P F_milestoneref29_Disk_points [d0, n9] h_11 fun t83 h_12 =>
  pUn .not t83 fun t84 =>
  ifV t84
  (sh_milestoneref29_Disk_Crash_k4 P n9 Z_1 at4 h_12)
  (LoopH (σ := Vals [4, 10, 11]) (fun x hh ZZ => sh_milestoneref29_Disk_Crash_L5 P d0 n9 fates1 Z_1 x.1 x.2.1 x.2.2.1 hh (fun a0 a1 a2 hz => ZZ (a0, (a1, (a2, ()))) hz)) (at4, ((.slice none 0 0), ((.int .i64 0), ()))) h_12))
  (pNil d0 fun t143 =>
  pField 2 t143 fun t144 =>
  pStore 1 t144 (.bool false) h_11 fun u_6 h_24 =>
  pNil d0 fun t145 =>
  pField 3 t145 fun t146 =>
  pStore 1 t146 (.int .i64 0) h_24 fun u_7 h_25 =>
  K (.tuple #[]) h_25)

def sh_milestoneref29_Disk_Crash_L2 (P : Program) (stay7 d0 fates1 : Value) (K : Value → Heap → Prop) (t39 i8 : Value) (h_6 : Heap) (Z : Value → Heap → Prop) : Prop :=
  pBin .lss i8 stay7 fun t53 =>
  ifV t53
  (pNil d0 fun t57 =>
  pField 1 t57 fun t58 =>
  pLoad h_6 t58 fun t59 =>
  pIdx 5 t59 i8 fun t61 =>
  pField 4 t61 fun t62 =>
  pStore 1 t62 (.bool true) h_6 fun u_1 h_7 =>
  pBin .add i8 (.int .i64 1) fun t55 =>
  Z t55 h_7)
  (pBuildSlice T_milestoneref29_Thing (zerosL [(.slice none 0 0)] 0) [] 0 h_6 fun t64 h_8 =>
  pNil d0 fun t66 =>
  pField 0 t66 fun t67 =>
  pLoad h_8 t67 fun t68 =>
  pAppend T_milestoneref29_Thing 1 24 [(.slice none 0 0)] t64 t68 h_8 fun t69 h_9 =>
  pNil d0 fun t70 =>
  pField 0 t70 fun t71 =>
  pStore 1 t71 t69 h_9 fun u_2 h_10 =>
  LoopH (σ := Vals [4, 9]) (fun x hh ZZ => sh_milestoneref29_Disk_Crash_L3 P d0 fates1 K x.1 x.2.1 hh (fun a0 a1 hz => ZZ (a0, (a1, ())) hz)) (t39, ((.int .i64 0), ())) h_10)

def sh_milestoneref29_Disk_Crash_k1 (P : Program) (d0 fates1 : Value) (K : Value → Heap → Prop) (stay7 : Value) (h_2 : Heap) : Prop :=
  pBin .add (.int .i64 0) (.int .i64 1) fun t39 =>
  pBuildSlice T_milestoneref29_Change (zerosL [(.int .i64 0), (.int .i64 0), (.string ⟨#[]⟩), (.string ⟨#[]⟩), (.bool false)] 0) [] 0 h_2 fun t41 h_3 =>
  pNil d0 fun t43 =>
  pField 1 t43 fun t44 =>
  pLoad h_3 t44 fun t45 =>
  pSlice 5 t45 none (some stay7) none fun t47 =>
  pAppend T_milestoneref29_Change 5 56 [(.int .i64 0), (.int .i64 0), (.string ⟨#[]⟩), (.string ⟨#[]⟩), (.bool false)] t41 t47 h_3 fun t48 h_4 =>
  pNil d0 fun t49 =>
  pField 1 t49 fun t50 =>
  pStore 1 t50 t48 h_4 fun u h_5 =>
  LoopH (σ := Vals [8]) (fun x hh ZZ => sh_milestoneref29_Disk_Crash_L2 P stay7 d0 fates1 K t39 x.1 hh (fun a0 hz => ZZ (a0, ()) hz)) ((.int .i64 0), ()) h_5

def sh_milestoneref29_Disk_Crash (P : Program) (d0 fates1 : Value) (h : Heap) (K : Value → Heap → Prop) : Prop :=
  callS P F_milestoneref29_Disk_Pending [d0] h fun t16 h_1 =>
  pExt t16 0 fun t17 =>
  pExt t16 1 fun t18 =>
  pNil d0 fun t20 =>
  pField 1 t20 fun t21 =>
  pLoad h_1 t21 fun t22 =>
  pLen t22 fun t23 =>
  pBin .sub t23 t17 fun t25 =>
  pLen fates1 fun t27 =>
  pBin .gtr t27 (.int .i64 0) fun t28 =>
  ifV t28
  (pIdx 1 fates1 (.int .i64 0) fun t31 =>
  pLoad h_1 t31 fun t32 =>
  pConv .i64 t32 fun t33 =>
  pBin .add t17 (.int .i64 1) fun t35 =>
  pBin .rem t33 t35 fun t36 =>
  pBin .add t25 t36 fun t37 =>
  sh_milestoneref29_Disk_Crash_k1 P d0 fates1 K t37 h_1)
  (sh_milestoneref29_Disk_Crash_k1 P d0 fates1 K t25 h_1)

set_option maxRecDepth 100000 in
theorem lk_milestoneref29_Disk_Crash (d0 fates1 : Value) {h : Heap} {K : Value → Heap → Prop} (H : sh_milestoneref29_Disk_Crash Tryz.prog d0 fates1 h K) : CallsH Tryz.prog F_milestoneref29_Disk_Crash [d0, fates1].toArray h K :=
  callsH_of (ann := (annG (Tryz.f56.body.getD .skip) 0 [(9, [8]), (16, [4, 9]), (25, [4, 10, 11])]).1) (c := Tryz.f56.body.getD .skip) Tryz.func56 (by kernel_rfl) (by kernel_rfl) (by kernel_rfl) (of_decide_eq_true (by kernel_rfl))
    (Eq.mpr (by kernel_rfl) H)

/-! (*milestone/milestoneref29.Disk).Names -/

def sh_milestoneref29_Disk_Names_k3 (P : Program) (t41 : Value) (Z_1 : Value → Value → Heap → Prop) (out3_2 : Value) (h_4 : Heap) : Prop :=
  pBin .add t41 (.int .i64 1) fun t89 =>
  Z_1 out3_2 t89 h_4

def sh_milestoneref29_Disk_Names_k6 (P : Program) (out3_1 k7 t43 t41 : Value) (Z_1 : Value → Value → Heap → Prop) (h_7 : Heap) : Prop :=
  pSlice 1 out3_1 none (some k7) none fun t80 =>
  pSlice 1 out3_1 (some k7) none none fun t87 =>
  (pBuildSlice T_string (zerosL [(.string ⟨#[]⟩)] 0) [] 0 h_7 fun t77 h_8 =>
  (pAppend T_string 1 16 [(.string ⟨#[]⟩)] t77 t80 h_8 fun t81 h_9 =>
  pBuildSlice T_string (zerosL [(.string ⟨#[]⟩)] 1) [(0, 1, t43)] 1 h_9 fun t83 h_10 =>
  pAppend T_string 1 16 [(.string ⟨#[]⟩)] t81 t83 h_10 fun t84 h_11 =>
  pAppend T_string 1 16 [(.string ⟨#[]⟩)] t84 t87 h_11 fun t88 h_12 =>
  sh_milestoneref29_Disk_Names_k3 P t41 Z_1 t88 h_12) ∧
  (pBuildSlice T_string (zerosL [(.string ⟨#[]⟩)] 1) [(0, 1, t43)] 1 h_8 fun t83_1 h_13 =>
  pAppend T_string 1 16 [(.string ⟨#[]⟩)] t77 t80 h_13 fun t81_1 h_14 =>
  pAppend T_string 1 16 [(.string ⟨#[]⟩)] t81_1 t83_1 h_14 fun t84_1 h_15 =>
  pAppend T_string 1 16 [(.string ⟨#[]⟩)] t84_1 t87 h_15 fun t88_1 h_16 =>
  sh_milestoneref29_Disk_Names_k3 P t41 Z_1 t88_1 h_16)) ∧
  (pBuildSlice T_string (zerosL [(.string ⟨#[]⟩)] 1) [(0, 1, t43)] 1 h_7 fun t83_2 h_17 =>
  pBuildSlice T_string (zerosL [(.string ⟨#[]⟩)] 0) [] 0 h_17 fun t77_1 h_18 =>
  pAppend T_string 1 16 [(.string ⟨#[]⟩)] t77_1 t80 h_18 fun t81_2 h_19 =>
  pAppend T_string 1 16 [(.string ⟨#[]⟩)] t81_2 t83_2 h_19 fun t84_2 h_20 =>
  pAppend T_string 1 16 [(.string ⟨#[]⟩)] t84_2 t87 h_20 fun t88_2 h_21 =>
  sh_milestoneref29_Disk_Names_k3 P t41 Z_1 t88_2 h_21)

def sh_milestoneref29_Disk_Names_k5 (P : Program) (out3_1 k7 t43 t41 : Value) (Z_1 : Value → Value → Heap → Prop) (h_6 : Heap) : Prop :=
  pLen out3_1 fun t67 =>
  pBin .eql k7 t67 fun t68 =>
  ifV t68
  (sh_milestoneref29_Disk_Names_k6 P out3_1 k7 t43 t41 Z_1 h_6)
  (pIdx 1 out3_1 k7 fun t72 =>
  pLoad h_6 t72 fun t73 =>
  pBin .neq t73 t43 fun t75 =>
  ifV t75
  (sh_milestoneref29_Disk_Names_k6 P out3_1 k7 t43 t41 Z_1 h_6)
  (sh_milestoneref29_Disk_Names_k3 P t41 Z_1 out3_1 h_6))

def sh_milestoneref29_Disk_Names_L4 (P : Program) (out3_1 t43 t41 : Value) (Z_1 : Value → Value → Heap → Prop) (k7 : Value) (h_5 : Heap) (Z_2 : Value → Heap → Prop) : Prop :=
  pLen out3_1 fun t53 =>
  pBin .lss k7 t53 fun t54 =>
  ifV t54
  (pIdx 1 out3_1 k7 fun t58 =>
  pLoad h_5 t58 fun t59 =>
  pBin .lss t59 t43 fun t61 =>
  ifV t61
  (pBin .add k7 (.int .i64 1) fun t64 =>
  Z_2 t64 h_5)
  (sh_milestoneref29_Disk_Names_k5 P out3_1 k7 t43 t41 Z_1 h_5))
  (sh_milestoneref29_Disk_Names_k5 P out3_1 k7 t43 t41 Z_1 h_5)

def sh_milestoneref29_Disk_Names_L2 (P : Program) (t40 d0 i4 : Value) (Z : Value → Value → Heap → Prop) (out3_1 t41 : Value) (h_2 : Heap) (Z_1 : Value → Value → Heap → Prop) : Prop :=
  pBin .lss t41 (.int .i64 2) fun t42 =>
  ifV t42
  (pIdxV1 2 t40 t41 fun t43 =>
  pNil d0 fun t45 =>
  pField 1 t45 fun t46 =>
  pLoad h_2 t46 fun t47 =>
  callS P F_milestoneref29_Points [t47, t43] h_2 fun t49 h_3 =>
  pBin .lss t49 (.int .i64 0) fun t50 =>
  ifV t50
  (sh_milestoneref29_Disk_Names_k3 P t41 Z_1 out3_1 h_3)
  (LoopH (σ := Vals [7]) (fun x hh ZZ => sh_milestoneref29_Disk_Names_L4 P out3_1 t43 t41 Z_1 x.1 hh (fun a0 hz => ZZ (a0, ()) hz)) ((.int .i64 0), ()) h_3))
  (pBin .add i4 (.int .i64 1) fun t23 =>
  Z out3_1 t23 h_2)

def sh_milestoneref29_Disk_Names_k7 (P : Program) (K : Value → Heap → Prop) (out3 : Value) (h_22 : Heap) : Prop :=
  K out3 h_22

def sh_milestoneref29_Disk_Names_L1 (P : Program) (d0 : Value) (K : Value → Heap → Prop) (out3 i4 : Value) (h_1 : Heap) (Z : Value → Value → Heap → Prop) : Prop :=
  pNil d0 fun t10 =>
  pField 1 t10 fun t11 =>
  pLoad h_1 t11 fun t12 =>
  pLen t12 fun t13 =>
  pBin .lss i4 t13 fun t14 =>
  ifV t14
  (pNil d0 fun t17 =>
  pField 2 t17 fun t18 =>
  pLoad h_1 t18 fun t19 =>
  pUn .not t19 fun t20 =>
  ifV t20
  (pNil d0 fun t25 =>
  pField 1 t25 fun t26 =>
  pLoad h_1 t26 fun t27 =>
  pIdx 5 t27 i4 fun t29 =>
  pField 2 t29 fun t30 =>
  pLoad h_1 t30 fun t31 =>
  pNil d0 fun t33 =>
  pField 1 t33 fun t34 =>
  pLoad h_1 t34 fun t35 =>
  pIdx 5 t35 i4 fun t37 =>
  pField 3 t37 fun t38 =>
  pLoad h_1 t38 fun t39 =>
  pBuild [(.string ⟨#[]⟩), (.string ⟨#[]⟩)] [(0, 1, t31), (1, 1, t39)] fun t40 =>
  LoopH (σ := Vals [3, 41]) (fun x hh ZZ => sh_milestoneref29_Disk_Names_L2 P t40 d0 i4 Z x.1 x.2.1 hh (fun a0 a1 hz => ZZ (a0, (a1, ())) hz)) (out3, ((.int .i64 0), ())) h_1)
  (sh_milestoneref29_Disk_Names_k7 P K out3 h_1))
  (sh_milestoneref29_Disk_Names_k7 P K out3 h_1)

def sh_milestoneref29_Disk_Names (P : Program) (d0 : Value) (h : Heap) (K : Value → Heap → Prop) : Prop :=
  LoopH (σ := Vals [3, 4]) (fun x hh ZZ => sh_milestoneref29_Disk_Names_L1 P d0 K x.1 x.2.1 hh (fun a0 a1 hz => ZZ (a0, (a1, ())) hz)) ((.slice none 0 0), ((.int .i64 0), ())) h

set_option maxRecDepth 100000 in
theorem lk_milestoneref29_Disk_Names (d0 : Value) {h : Heap} {K : Value → Heap → Prop} (H : sh_milestoneref29_Disk_Names Tryz.prog d0 h K) : CallsH Tryz.prog F_milestoneref29_Disk_Names [d0].toArray h K :=
  callsH_of (ann := (annG (Tryz.f57.body.getD .skip) 0 [(4, [3, 4]), (9, [3, 41]), (18, [7])]).1) (c := Tryz.f57.body.getD .skip) Tryz.func57 (by kernel_rfl) (by kernel_rfl) (by kernel_rfl) (of_decide_eq_true (by kernel_rfl))
    (Eq.mpr (by kernel_rfl) H)

/-! (*milestone/milestoneref29.Disk).Pending -/

def sh_milestoneref29_Disk_Pending_k2 (P : Program) (i6 : Value) (Z : Value → Value → Heap → Prop) (changes4_1 : Value) (h_2 : Heap) : Prop :=
  pBin .add i6 (.int .i64 1) fun t17 =>
  Z changes4_1 t17 h_2

def sh_milestoneref29_Disk_Pending_k5 (P : Program) (i8 : Value) (Z_2 : Value → Value → Heap → Prop) (writes5_2 : Value) (h_6 : Heap) : Prop :=
  pBin .add i8 (.int .i64 1) fun t55 =>
  Z_2 writes5_2 t55 h_6

def sh_milestoneref29_Disk_Pending_k6 (P : Program) (n7 : Value) (Z_1 : Value → Value → Heap → Prop) (writes5_1 : Value) (h_7 : Heap) : Prop :=
  pBin .add n7 (.int .i64 1) fun t37 =>
  Z_1 writes5_1 t37 h_7

def sh_milestoneref29_Disk_Pending_L4 (P : Program) (d0 n7 : Value) (Z_1 : Value → Value → Heap → Prop) (writes5_1 i8 : Value) (h_4 : Heap) (Z_2 : Value → Value → Heap → Prop) : Prop :=
  pNil d0 fun t40 =>
  pField 0 t40 fun t41 =>
  pLoad h_4 t41 fun t42 =>
  pIdx 1 t42 n7 fun t44 =>
  pField 0 t44 fun t45 =>
  pLoad h_4 t45 fun t46 =>
  pLen t46 fun t47 =>
  pBin .lss i8 t47 fun t48 =>
  ifV t48
  (callS P F_milestoneref29_Disk_points [d0, n7] h_4 fun t52 h_5 =>
  ifV t52
  (pNil d0 fun t57 =>
  pField 0 t57 fun t58 =>
  pLoad h_5 t58 fun t59 =>
  pIdx 1 t59 n7 fun t61 =>
  pField 0 t61 fun t62 =>
  pLoad h_5 t62 fun t63 =>
  pIdx 3 t63 i8 fun t65 =>
  pField 2 t65 fun t66 =>
  pLoad h_5 t66 fun t67 =>
  pUn .not t67 fun t68 =>
  ifV t68
  (pBin .add writes5_1 (.int .i64 1) fun t70 =>
  sh_milestoneref29_Disk_Pending_k5 P i8 Z_2 t70 h_5)
  (sh_milestoneref29_Disk_Pending_k5 P i8 Z_2 writes5_1 h_5))
  (sh_milestoneref29_Disk_Pending_k6 P n7 Z_1 writes5_1 h_5))
  (sh_milestoneref29_Disk_Pending_k6 P n7 Z_1 writes5_1 h_4)

def sh_milestoneref29_Disk_Pending_L3 (P : Program) (d0 : Value) (K : Value → Heap → Prop) (changes4 writes5 n7 : Value) (h_3 : Heap) (Z_1 : Value → Value → Heap → Prop) : Prop :=
  pNil d0 fun t31 =>
  pField 0 t31 fun t32 =>
  pLoad h_3 t32 fun t33 =>
  pLen t33 fun t34 =>
  pBin .lss n7 t34 fun t35 =>
  ifV t35
  (LoopH (σ := Vals [5, 8]) (fun x hh ZZ => sh_milestoneref29_Disk_Pending_L4 P d0 n7 Z_1 x.1 x.2.1 hh (fun a0 a1 hz => ZZ (a0, (a1, ())) hz)) (writes5, ((.int .i64 0), ())) h_3)
  (K (.tuple #[changes4, writes5]) h_3)

def sh_milestoneref29_Disk_Pending_L1 (P : Program) (d0 : Value) (K : Value → Heap → Prop) (changes4 i6 : Value) (h_1 : Heap) (Z : Value → Value → Heap → Prop) : Prop :=
  pNil d0 fun t11 =>
  pField 1 t11 fun t12 =>
  pLoad h_1 t12 fun t13 =>
  pLen t13 fun t14 =>
  pBin .lss i6 t14 fun t15 =>
  ifV t15
  (pNil d0 fun t19 =>
  pField 1 t19 fun t20 =>
  pLoad h_1 t20 fun t21 =>
  pIdx 5 t21 i6 fun t23 =>
  pField 4 t23 fun t24 =>
  pLoad h_1 t24 fun t25 =>
  pUn .not t25 fun t26 =>
  ifV t26
  (pBin .add changes4 (.int .i64 1) fun t28 =>
  sh_milestoneref29_Disk_Pending_k2 P i6 Z t28 h_1)
  (sh_milestoneref29_Disk_Pending_k2 P i6 Z changes4 h_1))
  (LoopH (σ := Vals [5, 7]) (fun x hh ZZ => sh_milestoneref29_Disk_Pending_L3 P d0 K changes4 x.1 x.2.1 hh (fun a0 a1 hz => ZZ (a0, (a1, ())) hz)) ((.int .i64 0), ((.int .i64 0), ())) h_1)

def sh_milestoneref29_Disk_Pending (P : Program) (d0 : Value) (h : Heap) (K : Value → Heap → Prop) : Prop :=
  LoopH (σ := Vals [4, 6]) (fun x hh ZZ => sh_milestoneref29_Disk_Pending_L1 P d0 K x.1 x.2.1 hh (fun a0 a1 hz => ZZ (a0, (a1, ())) hz)) ((.int .i64 0), ((.int .i64 0), ())) h

set_option maxRecDepth 100000 in
theorem lk_milestoneref29_Disk_Pending (d0 : Value) {h : Heap} {K : Value → Heap → Prop} (H : sh_milestoneref29_Disk_Pending Tryz.prog d0 h K) : CallsH Tryz.prog F_milestoneref29_Disk_Pending [d0].toArray h K :=
  callsH_of (ann := (annG (Tryz.f58.body.getD .skip) 0 [(4, [4, 6]), (11, [5, 7]), (16, [5, 8])]).1) (c := Tryz.f58.body.getD .skip) Tryz.func58 (by kernel_rfl) (by kernel_rfl) (by kernel_rfl) (of_decide_eq_true (by kernel_rfl))
    (Eq.mpr (by kernel_rfl) H)

/-! slices.Collect[string] -/

def sh_slices_Collect_string (P : Program) (seq0 : Value) (h : Heap) (K : Value → Heap → Prop) : Prop :=
  callS P F_slices_AppendSeq_sl_string_string [(.slice none 0 0), seq0] h fun t4 h_1 =>
  K t4 h_1

set_option maxRecDepth 100000 in
theorem lk_slices_Collect_string (seq0 : Value) {h : Heap} {K : Value → Heap → Prop} (H : sh_slices_Collect_string Tryz.prog seq0 h K) : CallsH Tryz.prog F_slices_Collect_string [seq0].toArray h K :=
  callsH_of (ann := (annG (Tryz.f62.body.getD .skip) 0 []).1) (c := Tryz.f62.body.getD .skip) Tryz.func62 (by kernel_rfl) (by kernel_rfl) (by kernel_rfl) (of_decide_eq_true (by kernel_rfl))
    (Eq.mpr (by kernel_rfl) H)

/-! (milestone/disk.directory).rising -/

def sh_disk_directory_rising (P : Program) (dir0 : Value) (h : Heap) (K : Value → Heap → Prop) : Prop :=
  pBox T_disk_directory dir0 h fun dir1 h_1 =>
  K (.func (.func F_disk_directory_rising_1) #[] #[dir1]) h_1

set_option maxRecDepth 100000 in
theorem lk_disk_directory_rising (dir0 : Value) {h : Heap} {K : Value → Heap → Prop} (H : sh_disk_directory_rising Tryz.prog dir0 h K) : CallsH Tryz.prog F_disk_directory_rising [dir0].toArray h K :=
  callsH_of (ann := (annG (Tryz.f63.body.getD .skip) 0 []).1) (c := Tryz.f63.body.getD .skip) Tryz.func63 (by kernel_rfl) (by kernel_rfl) (by kernel_rfl) (of_decide_eq_true (by kernel_rfl))
    (Eq.mpr (by kernel_rfl) H)

/-! math/bits.Mul -/

def sh_math_bits_Mul (P : Program) (x0 y1 : Value) (h : Heap) (K : Value → Heap → Prop) : Prop :=
  callS P F_math_bits_Mul64 [x0, y1] h fun t25 h_1 =>
  pExt t25 0 fun t26 =>
  pExt t25 1 fun t27 =>
  K (.tuple #[t26, t27]) h_1

set_option maxRecDepth 100000 in
theorem lk_math_bits_Mul (x0 y1 : Value) {h : Heap} {K : Value → Heap → Prop} (H : sh_math_bits_Mul Tryz.prog x0 y1 h K) : CallsH Tryz.prog F_math_bits_Mul [x0, y1].toArray h K :=
  callsH_of (ann := (annG (Tryz.f64.body.getD .skip) 0 []).1) (c := Tryz.f64.body.getD .skip) Tryz.func64 (by kernel_rfl) (by kernel_rfl) (by kernel_rfl) (of_decide_eq_true (by kernel_rfl))
    (Eq.mpr (by kernel_rfl) H)

/-! strings.HasPrefix -/

def sh_strings_HasPrefix (P : Program) (s0 prefix1 : Value) (h : Heap) (K : Value → Heap → Prop) : Prop :=
  callS P F_internal_stringslite_HasPrefix [s0, prefix1] h fun t7 h_1 =>
  K t7 h_1

set_option maxRecDepth 100000 in
theorem lk_strings_HasPrefix (s0 prefix1 : Value) {h : Heap} {K : Value → Heap → Prop} (H : sh_strings_HasPrefix Tryz.prog s0 prefix1 h K) : CallsH Tryz.prog F_strings_HasPrefix [s0, prefix1].toArray h K :=
  callsH_of (ann := (annG (Tryz.f65.body.getD .skip) 0 []).1) (c := Tryz.f65.body.getD .skip) Tryz.func65 (by kernel_rfl) (by kernel_rfl) (by kernel_rfl) (of_decide_eq_true (by kernel_rfl))
    (Eq.mpr (by kernel_rfl) H)

/-! (*milestone/disk.Disk).Rename$1 -/

def sh_disk_Disk_Rename_1 (P : Program) (t0 t1 : Value) (h : Heap) (K : Value → Heap → Prop) : Prop :=
  pBox T_disk_change (.agg #[.nilFunc]) h fun t2 h_1 =>
  pBuild [.nilFunc] [(0, 1, (.func (.func F_disk_Disk_Rename_1_1) #[] #[t0, t1]))] fun t4 =>
  pStore 1 t2 t4 h_1 fun u h_2 =>
  pLoadN 1 h_2 t2 fun res =>
  K res h_2

set_option maxRecDepth 100000 in
theorem lk_disk_Disk_Rename_1 (t0 t1 : Value) {h : Heap} {K : Value → Heap → Prop} (H : sh_disk_Disk_Rename_1 Tryz.prog t0 t1 h K) : CallsH Tryz.prog F_disk_Disk_Rename_1 [t0, t1].toArray h K :=
  callsH_of (ann := (annG (Tryz.f67.body.getD .skip) 0 []).1) (c := Tryz.f67.body.getD .skip) Tryz.func67 (by kernel_rfl) (by kernel_rfl) (by kernel_rfl) (of_decide_eq_true (by kernel_rfl))
    (Eq.mpr (by kernel_rfl) H)

/-! (*milestone/disk.Disk).Rename$1$1 -/

def sh_disk_Disk_Rename_1_1 (P : Program) (dir0 t1 t2 : Value) (h : Heap) (K : Value → Heap → Prop) : Prop :=
  pLoad h t1 fun t6 =>
  pLook .string (.int .i64 0) false h dir0 t6 fun t7 =>
  pLoad h t1 fun t9 =>
  pDelete .string dir0 t9 h fun u h_1 =>
  pLoad h_1 t2 fun t11 =>
  pMapSet .string dir0 t11 t7 h_1 fun u_1 h_2 =>
  K (.tuple #[]) h_2

set_option maxRecDepth 100000 in
theorem lk_disk_Disk_Rename_1_1 (dir0 t1 t2 : Value) {h : Heap} {K : Value → Heap → Prop} (H : sh_disk_Disk_Rename_1_1 Tryz.prog dir0 t1 t2 h K) : CallsH Tryz.prog F_disk_Disk_Rename_1_1 [dir0, t1, t2].toArray h K :=
  callsH_of (ann := (annG (Tryz.f68.body.getD .skip) 0 []).1) (c := Tryz.f68.body.getD .skip) Tryz.func68 (by kernel_rfl) (by kernel_rfl) (by kernel_rfl) (of_decide_eq_true (by kernel_rfl))
    (Eq.mpr (by kernel_rfl) H)

end Go.Proofs.YtdbkeklhjjlhbaaGreat

namespace Go.Proofs.YtdbkeklhjjlhbaaGreat
open Go Go.Mh
set_option maxHeartbeats 0
set_option linter.unusedVariables false

/-! (*milestone/disk.Disk).Remove$1 -/

def sh_disk_Disk_Remove_1 (P : Program) (t0 : Value) (h : Heap) (K : Value → Heap → Prop) : Prop :=
  pBox T_disk_change (.agg #[.nilFunc]) h fun t1 h_1 =>
  pBuild [.nilFunc] [(0, 1, (.func (.func F_disk_Disk_Remove_1_1) #[] #[t0]))] fun t3 =>
  pStore 1 t1 t3 h_1 fun u h_2 =>
  pLoadN 1 h_2 t1 fun res =>
  K res h_2

set_option maxRecDepth 100000 in
theorem lk_disk_Disk_Remove_1 (t0 : Value) {h : Heap} {K : Value → Heap → Prop} (H : sh_disk_Disk_Remove_1 Tryz.prog t0 h K) : CallsH Tryz.prog F_disk_Disk_Remove_1 [t0].toArray h K :=
  callsH_of (ann := (annG (Tryz.f69.body.getD .skip) 0 []).1) (c := Tryz.f69.body.getD .skip) Tryz.func69 (by kernel_rfl) (by kernel_rfl) (by kernel_rfl) (of_decide_eq_true (by kernel_rfl))
    (Eq.mpr (by kernel_rfl) H)

/-! (*milestone/disk.Disk).Remove$1$1 -/

def sh_disk_Disk_Remove_1_1 (P : Program) (dir0 t1 : Value) (h : Heap) (K : Value → Heap → Prop) : Prop :=
  pLoad h t1 fun t4 =>
  pDelete .string dir0 t4 h fun u h_1 =>
  K (.tuple #[]) h_1

set_option maxRecDepth 100000 in
theorem lk_disk_Disk_Remove_1_1 (dir0 t1 : Value) {h : Heap} {K : Value → Heap → Prop} (H : sh_disk_Disk_Remove_1_1 Tryz.prog dir0 t1 h K) : CallsH Tryz.prog F_disk_Disk_Remove_1_1 [dir0, t1].toArray h K :=
  callsH_of (ann := (annG (Tryz.f70.body.getD .skip) 0 []).1) (c := Tryz.f70.body.getD .skip) Tryz.func70 (by kernel_rfl) (by kernel_rfl) (by kernel_rfl) (of_decide_eq_true (by kernel_rfl))
    (Eq.mpr (by kernel_rfl) H)

/-! (*milestone/disk.Disk).change$1 -/

def sh_disk_Disk_change_1 (P : Program) (t0 t1 : Value) (h : Heap) (K : Value → Heap → Prop) : Prop :=
  pLoad h t0 fun t3 =>
  callV P t3 [].toArray h fun t4 h_1 =>
  pBox T_disk_change (.agg #[.nilFunc]) h_1 fun x2 h_2 =>
  pStore 1 x2 t4 h_2 fun u h_3 =>
  pLoad h_3 t1 fun t5 =>
  pLoad h_3 t1 fun t6 =>
  pNil t6 fun t7 =>
  pField 3 t7 fun t8 =>
  pLoad h_3 t8 fun t9 =>
  pLoadN 1 h_3 x2 fun t10 =>
  pBuildSlice T_disk_change (zerosL [.nilFunc] 1) [(0, 1, t10)] 1 h_3 fun t11 h_4 =>
  pAppend T_disk_change 1 8 [.nilFunc] t9 t11 h_4 fun t12 h_5 =>
  (pLoad h_5 t1 fun t5_1 =>
  t5_1 = t5) ∧
  (pNil t5 fun t13 =>
  pField 3 t13 fun t14 =>
  pStore 1 t14 t12 h_5 fun u_1 h_6 =>
  pField 0 x2 fun t15 =>
  pLoad h_6 t15 fun t16 =>
  pLoad h_6 t1 fun t17 =>
  pNil t17 fun t18 =>
  pField 1 t18 fun t19 =>
  pLoad h_6 t19 fun t20 =>
  callV P t16 [t20].toArray h_6 fun t21 h_7 =>
  K (.tuple #[]) h_7)

set_option maxRecDepth 100000 in
theorem lk_disk_Disk_change_1 (t0 t1 : Value) {h : Heap} {K : Value → Heap → Prop} (H : sh_disk_Disk_change_1 Tryz.prog t0 t1 h K) : CallsH Tryz.prog F_disk_Disk_change_1 [t0, t1].toArray h K :=
  callsH_of (ann := (annG (Tryz.f71.body.getD .skip) 0 []).1) (c := Tryz.f71.body.getD .skip) Tryz.func71 (by kernel_rfl) (by kernel_rfl) (by kernel_rfl) (of_decide_eq_true (by kernel_rfl))
    (Eq.mpr (by kernel_rfl) H)

/-! slices.ContainsFunc[[]string,string] -/

def sh_slices_ContainsFunc_sl_string_string (P : Program) (s0 f1 : Value) (h : Heap) (K : Value → Heap → Prop) : Prop :=
  callS P F_slices_IndexFunc_sl_string_string [s0, f1] h fun t7 h_1 =>
  pBin .geq t7 (.int .i64 0) fun t8 =>
  K t8 h_1

set_option maxRecDepth 100000 in
theorem lk_slices_ContainsFunc_sl_string_string (s0 f1 : Value) {h : Heap} {K : Value → Heap → Prop} (H : sh_slices_ContainsFunc_sl_string_string Tryz.prog s0 f1 h K) : CallsH Tryz.prog F_slices_ContainsFunc_sl_string_string [s0, f1].toArray h K :=
  callsH_of (ann := (annG (Tryz.f72.body.getD .skip) 0 []).1) (c := Tryz.f72.body.getD .skip) Tryz.func72 (by kernel_rfl) (by kernel_rfl) (by kernel_rfl) (of_decide_eq_true (by kernel_rfl))
    (Eq.mpr (by kernel_rfl) H)

/-! milestone/disk.names$1 -/

def sh_disk_names_1 (P : Program) (s0 : Value) (h : Heap) (K : Value → Heap → Prop) : Prop :=
  pBin .eql s0 (.string ⟨#[]⟩) fun t4 =>
  ifV t4
  (K (.bool true) h)
  (pLenS s0 fun t7 =>
  pBin .gtr t7 (.int .i64 16) fun t8 =>
  K t8 h)

set_option maxRecDepth 100000 in
theorem lk_disk_names_1 (s0 : Value) {h : Heap} {K : Value → Heap → Prop} (H : sh_disk_names_1 Tryz.prog s0 h K) : CallsH Tryz.prog F_disk_names_1 [s0].toArray h K :=
  callsH_of (ann := (annG (Tryz.f73.body.getD .skip) 0 []).1) (c := Tryz.f73.body.getD .skip) Tryz.func73 (by kernel_rfl) (by kernel_rfl) (by kernel_rfl) (of_decide_eq_true (by kernel_rfl))
    (Eq.mpr (by kernel_rfl) H)

/-! (*milestone/disk.Disk).named$1 -/

def sh_disk_Disk_named_1_L1 (P : Program) (t12 t11 t1 yield0 : Value) (K : Value → Heap → Prop) (t13 : Value) (h_4 : Heap) (Z : Value → Heap → Prop) : Prop :=
  pBin .lss t13 t12 fun t14 =>
  ifV t14
  (pIdx 1 t11 t13 fun t15 =>
  pLoad h_4 t15 fun t16 =>
  pLoad h_4 t1 fun t19 =>
  pNil t19 fun t20 =>
  pField 2 t20 fun t21 =>
  pLoad h_4 t21 fun t22 =>
  pLook (.int .i64) (.pointer none) false h_4 t22 t16 fun t24 =>
  callV P yield0 [t16, t24].toArray h_4 fun t25 h_5 =>
  pUn .not t25 fun t26 =>
  ifV t26
  (K (.tuple #[]) h_5)
  (pBin .add t13 (.int .i64 1) fun t27 =>
  Z t27 h_5))
  (K (.tuple #[]) h_4)

def sh_disk_Disk_named_1 (P : Program) (yield0 t1 : Value) (h : Heap) (K : Value → Heap → Prop) : Prop :=
  pLoad h t1 fun t5 =>
  pNil t5 fun t6 =>
  pField 1 t6 fun t7 =>
  pLoad h t7 fun t8 =>
  callS P F_maps_Values_disk_directory_string_int [t8] h fun t9 h_1 =>
  callS P F_slices_Sorted_int [t9] h_1 fun t10 h_2 =>
  callS P F_slices_Compact_sl_int_int [t10] h_2 fun t11 h_3 =>
  pLen t11 fun t12 =>
  LoopH (σ := Vals [13]) (fun x hh ZZ => sh_disk_Disk_named_1_L1 P t12 t11 t1 yield0 K x.1 hh (fun a0 hz => ZZ (a0, ()) hz)) ((.int .i64 0), ()) h_3

set_option maxRecDepth 100000 in
theorem lk_disk_Disk_named_1 (yield0 t1 : Value) {h : Heap} {K : Value → Heap → Prop} (H : sh_disk_Disk_named_1 Tryz.prog yield0 t1 h K) : CallsH Tryz.prog F_disk_Disk_named_1 [yield0, t1].toArray h K :=
  callsH_of (ann := (annG (Tryz.f75.body.getD .skip) 0 [(1, [13])]).1) (c := Tryz.f75.body.getD .skip) Tryz.func75 (by kernel_rfl) (by kernel_rfl) (by kernel_rfl) (of_decide_eq_true (by kernel_rfl))
    (Eq.mpr (by kernel_rfl) H)

/-! slices.Compact[[]int,int] -/

def sh_slices_Compact_sl_int_int_k3 (P : Program) (k25 : Value) (Z_1 : Value → Value → Heap → Prop) (k3_2 : Value) (h_4 : Heap) : Prop :=
  pBin .add k25 (.int .i64 1) fun t34 =>
  Z_1 k3_2 t34 h_4

def sh_slices_Compact_sl_int_int_L2 (P : Program) (t28 s0 : Value) (K : Value → Heap → Prop) (k3_1 k25 : Value) (h_2 : Heap) (Z_1 : Value → Value → Heap → Prop) : Prop :=
  pLen t28 fun t31 =>
  pBin .lss k25 t31 fun t32 =>
  ifV t32
  (pIdx 1 t28 k25 fun t37 =>
  pLoad h_2 t37 fun t38 =>
  pBin .sub k25 (.int .i64 1) fun t41 =>
  pIdx 1 t28 t41 fun t42 =>
  pLoad h_2 t42 fun t43 =>
  pBin .neq t38 t43 fun t44 =>
  ifV t44
  (pIdx 1 t28 k25 fun t49 =>
  pLoad h_2 t49 fun t50 =>
  pIdx 1 s0 k3_1 fun t51 =>
  pStore 1 t51 t50 h_2 fun u h_3 =>
  pBin .add k3_1 (.int .i64 1) fun t53 =>
  sh_slices_Compact_sl_int_int_k3 P k25 Z_1 t53 h_3)
  (sh_slices_Compact_sl_int_int_k3 P k25 Z_1 k3_1 h_2))
  (pSlice 1 s0 (some k3_1) none none fun t56 =>
  pClear [(.int .i64 0)] t56 h_2 fun u_1 h_5 =>
  pSlice 1 s0 none (some k3_1) none fun t59 =>
  K t59 h_5)

def sh_slices_Compact_sl_int_int_L1 (P : Program) (s0 : Value) (K : Value → Heap → Prop) (k3 : Value) (h_1 : Heap) (Z : Value → Heap → Prop) : Prop :=
  pLen s0 fun t12 =>
  pBin .lss k3 t12 fun t13 =>
  ifV t13
  (pIdx 1 s0 k3 fun t18 =>
  pLoad h_1 t18 fun t19 =>
  pBin .sub k3 (.int .i64 1) fun t22 =>
  pIdx 1 s0 t22 fun t23 =>
  pLoad h_1 t23 fun t24 =>
  pBin .eql t19 t24 fun t25 =>
  ifV t25
  (pSlice 1 s0 (some k3) none none fun t28 =>
  LoopH (σ := Vals [3, 5]) (fun x hh ZZ => sh_slices_Compact_sl_int_int_L2 P t28 s0 K x.1 x.2.1 hh (fun a0 a1 hz => ZZ (a0, (a1, ())) hz)) (k3, ((.int .i64 1), ())) h_1)
  (pBin .add k3 (.int .i64 1) fun t15 =>
  Z t15 h_1))
  (K s0 h_1)

def sh_slices_Compact_sl_int_int (P : Program) (s0 : Value) (h : Heap) (K : Value → Heap → Prop) : Prop :=
  pLen s0 fun t7 =>
  pBin .lss t7 (.int .i64 2) fun t8 =>
  ifV t8
  (K s0 h)
  (LoopH (σ := Vals [3]) (fun x hh ZZ => sh_slices_Compact_sl_int_int_L1 P s0 K x.1 hh (fun a0 hz => ZZ (a0, ()) hz)) ((.int .i64 1), ()) h)

set_option maxRecDepth 100000 in
theorem lk_slices_Compact_sl_int_int (s0 : Value) {h : Heap} {K : Value → Heap → Prop} (H : sh_slices_Compact_sl_int_int Tryz.prog s0 h K) : CallsH Tryz.prog F_slices_Compact_sl_int_int [s0].toArray h K :=
  callsH_of (ann := (annG (Tryz.f76.body.getD .skip) 0 [(6, [3]), (14, [3, 5])]).1) (c := Tryz.f76.body.getD .skip) Tryz.func76 (by kernel_rfl) (by kernel_rfl) (by kernel_rfl) (of_decide_eq_true (by kernel_rfl))
    (Eq.mpr (by kernel_rfl) H)

/-! slices.Sorted[int] -/

def sh_slices_Sorted_int (P : Program) (seq0 : Value) (h : Heap) (K : Value → Heap → Prop) : Prop :=
  callS P F_slices_Collect_int [seq0] h fun t5 h_1 =>
  callS P F_slices_Sort_sl_int_int [t5] h_1 fun t7 h_2 =>
  K t5 h_2

set_option maxRecDepth 100000 in
theorem lk_slices_Sorted_int (seq0 : Value) {h : Heap} {K : Value → Heap → Prop} (H : sh_slices_Sorted_int Tryz.prog seq0 h K) : CallsH Tryz.prog F_slices_Sorted_int [seq0].toArray h K :=
  callsH_of (ann := (annG (Tryz.f77.body.getD .skip) 0 []).1) (c := Tryz.f77.body.getD .skip) Tryz.func77 (by kernel_rfl) (by kernel_rfl) (by kernel_rfl) (of_decide_eq_true (by kernel_rfl))
    (Eq.mpr (by kernel_rfl) H)

/-! maps.Values[milestone/disk.directory,string,int] -/

def sh_maps_Values_disk_directory_string_int (P : Program) (m0 : Value) (h : Heap) (K : Value → Heap → Prop) : Prop :=
  pBox T_disk_directory m0 h fun m1 h_1 =>
  K (.func (.func F_maps_Values_disk_directory_string_int_1) #[] #[m1]) h_1

set_option maxRecDepth 100000 in
theorem lk_maps_Values_disk_directory_string_int (m0 : Value) {h : Heap} {K : Value → Heap → Prop} (H : sh_maps_Values_disk_directory_string_int Tryz.prog m0 h K) : CallsH Tryz.prog F_maps_Values_disk_directory_string_int [m0].toArray h K :=
  callsH_of (ann := (annG (Tryz.f78.body.getD .skip) 0 []).1) (c := Tryz.f78.body.getD .skip) Tryz.func78 (by kernel_rfl) (by kernel_rfl) (by kernel_rfl) (of_decide_eq_true (by kernel_rfl))
    (Eq.mpr (by kernel_rfl) H)

/-! (*milestone/milestoneref29.Disk).change -/

def sh_milestoneref29_Disk_change_k2 (P : Program) (K : Value → Heap → Prop) (e9 : Value) (h_10 : Heap) : Prop :=
  K e9 h_10

def sh_milestoneref29_Disk_change_k1 (P : Program) (d0 x6 : Value) (K : Value → Heap → Prop) (e9 : Value) (h_4 : Heap) : Prop :=
  pBin .eql e9 (.int .i64 0) fun t19 =>
  ifV t19
  (pNil d0 fun t23 =>
  pField 1 t23 fun t24 =>
  pLoad h_4 t24 fun t25 =>
  pLoadN 5 h_4 x6 fun t27 =>
  (pBuildSlice T_milestoneref29_Change (zerosL [(.int .i64 0), (.int .i64 0), (.string ⟨#[]⟩), (.string ⟨#[]⟩), (.bool false)] 0) [] 0 h_4 fun t21 h_5 =>
  (pAppend T_milestoneref29_Change 5 56 [(.int .i64 0), (.int .i64 0), (.string ⟨#[]⟩), (.string ⟨#[]⟩), (.bool false)] t21 t25 h_5 fun t26 h_6 =>
  (pLoadN 5 h_6 x6 fun t27_1 =>
  t27_1 = t27) ∧
  (pBuildSlice T_milestoneref29_Change (zerosL [(.int .i64 0), (.int .i64 0), (.string ⟨#[]⟩), (.string ⟨#[]⟩), (.bool false)] 1) [(0, 5, t27)] 1 h_6 fun t28 h_7 =>
  pAppend T_milestoneref29_Change 5 56 [(.int .i64 0), (.int .i64 0), (.string ⟨#[]⟩), (.string ⟨#[]⟩), (.bool false)] t26 t28 h_7 fun t29 h_8 =>
  pNil d0 fun t30 =>
  pField 1 t30 fun t31 =>
  pStore 1 t31 t29 h_8 fun u h_9 =>
  sh_milestoneref29_Disk_change_k2 P K e9 h_9)) ∧
  (pBuildSlice T_milestoneref29_Change (zerosL [(.int .i64 0), (.int .i64 0), (.string ⟨#[]⟩), (.string ⟨#[]⟩), (.bool false)] 1) [(0, 5, t27)] 1 h_5 fun t28_1 h_11 =>
  pAppend T_milestoneref29_Change 5 56 [(.int .i64 0), (.int .i64 0), (.string ⟨#[]⟩), (.string ⟨#[]⟩), (.bool false)] t21 t25 h_11 fun t26_1 h_12 =>
  pAppend T_milestoneref29_Change 5 56 [(.int .i64 0), (.int .i64 0), (.string ⟨#[]⟩), (.string ⟨#[]⟩), (.bool false)] t26_1 t28_1 h_12 fun t29_1 h_13 =>
  pNil d0 fun t30_1 =>
  pField 1 t30_1 fun t31_1 =>
  pStore 1 t31_1 t29_1 h_13 fun u_1 h_14 =>
  sh_milestoneref29_Disk_change_k2 P K e9 h_14)) ∧
  (pBuildSlice T_milestoneref29_Change (zerosL [(.int .i64 0), (.int .i64 0), (.string ⟨#[]⟩), (.string ⟨#[]⟩), (.bool false)] 1) [(0, 5, t27)] 1 h_4 fun t28_2 h_15 =>
  pBuildSlice T_milestoneref29_Change (zerosL [(.int .i64 0), (.int .i64 0), (.string ⟨#[]⟩), (.string ⟨#[]⟩), (.bool false)] 0) [] 0 h_15 fun t21_1 h_16 =>
  pAppend T_milestoneref29_Change 5 56 [(.int .i64 0), (.int .i64 0), (.string ⟨#[]⟩), (.string ⟨#[]⟩), (.bool false)] t21_1 t25 h_16 fun t26_2 h_17 =>
  pAppend T_milestoneref29_Change 5 56 [(.int .i64 0), (.int .i64 0), (.string ⟨#[]⟩), (.string ⟨#[]⟩), (.bool false)] t26_2 t28_2 h_17 fun t29_2 h_18 =>
  pNil d0 fun t30_2 =>
  pField 1 t30_2 fun t31_2 =>
  pStore 1 t31_2 t29_2 h_18 fun u_2 h_19 =>
  sh_milestoneref29_Disk_change_k2 P K e9 h_19))
  (sh_milestoneref29_Disk_change_k2 P K e9 h_4)

def sh_milestoneref29_Disk_change (P : Program) (d0 there1 x2 names3 : Value) (h : Heap) (K : Value → Heap → Prop) : Prop :=
  pBox T_milestoneref29_Change x2 h fun x6 h_1 =>
  callS P F_milestoneref29_Disk_refused [d0, there1, names3] h_1 fun t13 h_2 =>
  pBin .eql t13 (.int .i64 0) fun t15 =>
  ifV t15
  (callS P F_milestoneref29_Disk_step [d0] h_2 fun t17 h_3 =>
  sh_milestoneref29_Disk_change_k1 P d0 x6 K t17 h_3)
  (sh_milestoneref29_Disk_change_k1 P d0 x6 K t13 h_2)

set_option maxRecDepth 100000 in
theorem lk_milestoneref29_Disk_change (d0 there1 x2 names3 : Value) {h : Heap} {K : Value → Heap → Prop} (H : sh_milestoneref29_Disk_change Tryz.prog d0 there1 x2 names3 h K) : CallsH Tryz.prog F_milestoneref29_Disk_change [d0, there1, x2, names3].toArray h K :=
  callsH_of (ann := (annG (Tryz.f79.body.getD .skip) 0 []).1) (c := Tryz.f79.body.getD .skip) Tryz.func79 (by kernel_rfl) (by kernel_rfl) (by kernel_rfl) (of_decide_eq_true (by kernel_rfl))
    (Eq.mpr (by kernel_rfl) H)

/-! milestone/milestoneref29.May -/

def sh_milestoneref29_May (P : Program) (name0 : Value) (h : Heap) (K : Value → Heap → Prop) : Prop :=
  pLenS name0 fun t4 =>
  pBin .geq t4 (.int .i64 1) fun t5 =>
  ifV t5
  (pLenS name0 fun t8 =>
  pBin .leq t8 (.int .i64 16) fun t9 =>
  K t9 h)
  (K (.bool false) h)

set_option maxRecDepth 100000 in
theorem lk_milestoneref29_May (name0 : Value) {h : Heap} {K : Value → Heap → Prop} (H : sh_milestoneref29_May Tryz.prog name0 h K) : CallsH Tryz.prog F_milestoneref29_May [name0].toArray h K :=
  callsH_of (ann := (annG (Tryz.f80.body.getD .skip) 0 []).1) (c := Tryz.f80.body.getD .skip) Tryz.func80 (by kernel_rfl) (by kernel_rfl) (by kernel_rfl) (of_decide_eq_true (by kernel_rfl))
    (Eq.mpr (by kernel_rfl) H)

/-! (*milestone/milestoneref29.Disk).refused -/

def sh_milestoneref29_Disk_refused_C2 (P : Program) (K : Value → Heap → Prop) (t35 : Value) (h_4 : Heap) : Prop :=
  ifV t35
  (K (.int .i64 21) h_4)
  (K (.int .i64 0) h_4)

def sh_milestoneref29_Disk_refused_L1 (P : Program) (names2 : Value) (K : Value → Heap → Prop) (there1 d0 i7 : Value) (h_1 : Heap) (Z : Value → Heap → Prop) : Prop :=
  pLen names2 fun t14 =>
  pBin .lss i7 t14 fun t15 =>
  ifV t15
  (pIdx 1 names2 i7 fun t20 =>
  pLoad h_1 t20 fun t21 =>
  callS P F_milestoneref29_May [t21] h_1 fun t22 h_2 =>
  pUn .not t22 fun t23 =>
  ifV t23
  (K (.int .i64 2) h_2)
  (pBin .add i7 (.int .i64 1) fun t17 =>
  Z t17 h_2))
  (cutP (σ := Vals [35]) (fun J =>
  ifV there1
  (pNil d0 fun t27 =>
  pField 1 t27 fun t28 =>
  pLoad h_1 t28 fun t29 =>
  pIdx 1 names2 (.int .i64 0) fun t31 =>
  pLoad h_1 t31 fun t32 =>
  callS P F_milestoneref29_Points [t29, t32] h_1 fun t33 h_3 =>
  pBin .lss t33 (.int .i64 0) fun t34 =>
  J (t34, ()) h_3)
  (J ((.bool false), ()) h_1))
  (fun x hh => sh_milestoneref29_Disk_refused_C2 P K x.1 hh))

def sh_milestoneref29_Disk_refused (P : Program) (d0 there1 names2 : Value) (h : Heap) (K : Value → Heap → Prop) : Prop :=
  pNil d0 fun t9 =>
  pField 2 t9 fun t10 =>
  pLoad h t10 fun t11 =>
  ifV t11
  (K (.int .i64 22) h)
  (LoopH (σ := Vals [7]) (fun x hh ZZ => sh_milestoneref29_Disk_refused_L1 P names2 K there1 d0 x.1 hh (fun a0 hz => ZZ (a0, ()) hz)) ((.int .i64 0), ()) h)

set_option maxRecDepth 100000 in
theorem lk_milestoneref29_Disk_refused (d0 there1 names2 : Value) {h : Heap} {K : Value → Heap → Prop} (H : sh_milestoneref29_Disk_refused Tryz.prog d0 there1 names2 h K) : CallsH Tryz.prog F_milestoneref29_Disk_refused [d0, there1, names2].toArray h K :=
  callsH_of (ann := (annG (Tryz.f81.body.getD .skip) 0 [(6, [7]), (13, [35])]).1) (c := Tryz.f81.body.getD .skip) Tryz.func81 (by kernel_rfl) (by kernel_rfl) (by kernel_rfl) (of_decide_eq_true (by kernel_rfl))
    (Eq.mpr (by kernel_rfl) H)

/-! (*milestone/milestoneref29.Disk).step -/

def sh_milestoneref29_Disk_step_k1 (P : Program) (K : Value → Heap → Prop) (h_3 : Heap) : Prop :=
  K (.int .i64 0) h_3

def sh_milestoneref29_Disk_step (P : Program) (d0 : Value) (h : Heap) (K : Value → Heap → Prop) : Prop :=
  pNil d0 fun t4 =>
  pField 3 t4 fun t5 =>
  pLoad h t5 fun t6 =>
  pBin .gtr t6 (.int .i64 0) fun t7 =>
  ifV t7
  (pNil d0 fun t9 =>
  pField 3 t9 fun t10 =>
  pLoad h t10 fun t11 =>
  pBin .sub t11 (.int .i64 1) fun t12 =>
  pNil d0 fun t13 =>
  pField 3 t13 fun t14 =>
  pStore 1 t14 t12 h fun u h_1 =>
  pNil d0 fun t16 =>
  pField 3 t16 fun t17 =>
  pLoad h_1 t17 fun t18 =>
  pBin .eql t18 (.int .i64 0) fun t19 =>
  ifV t19
  (pNil d0 fun t21 =>
  pField 2 t21 fun t22 =>
  pStore 1 t22 (.bool true) h_1 fun u_1 h_2 =>
  K (.int .i64 22) h_2)
  (sh_milestoneref29_Disk_step_k1 P K h_1))
  (sh_milestoneref29_Disk_step_k1 P K h)

set_option maxRecDepth 100000 in
theorem lk_milestoneref29_Disk_step (d0 : Value) {h : Heap} {K : Value → Heap → Prop} (H : sh_milestoneref29_Disk_step Tryz.prog d0 h K) : CallsH Tryz.prog F_milestoneref29_Disk_step [d0].toArray h K :=
  callsH_of (ann := (annG (Tryz.f82.body.getD .skip) 0 []).1) (c := Tryz.f82.body.getD .skip) Tryz.func82 (by kernel_rfl) (by kernel_rfl) (by kernel_rfl) (of_decide_eq_true (by kernel_rfl))
    (Eq.mpr (by kernel_rfl) H)

/-! milestone/milestoneref29.Points -/

def sh_milestoneref29_Points_k3 (P : Program) (i5 : Value) (Z : Value → Value → Heap → Prop) (name1_2 : Value) (h_5 : Heap) : Prop :=
  pBin .sub i5 (.int .i64 1) fun t13 =>
  Z name1_2 t13 h_5

def sh_milestoneref29_Points_k4 (P : Program) (x6 name1_1 : Value) (K : Value → Heap → Prop) (i5 : Value) (Z : Value → Value → Heap → Prop) (h_6 : Heap) : Prop :=
  pField 0 x6 fun t43 =>
  pLoad h_6 t43 fun t44 =>
  pBin .gtr t44 (.int .i64 0) fun t45 =>
  ifV t45
  (pField 2 x6 fun t47 =>
  pLoad h_6 t47 fun t48 =>
  pBin .eql t48 name1_1 fun t50 =>
  ifV t50
  (K (.int .i64 (-1)) h_6)
  (sh_milestoneref29_Points_k3 P i5 Z name1_1 h_6))
  (sh_milestoneref29_Points_k3 P i5 Z name1_1 h_6)

def sh_milestoneref29_Points_k2 (P : Program) (x6 name1_1 i5 : Value) (Z : Value → Value → Heap → Prop) (K : Value → Heap → Prop) (h_4 : Heap) : Prop :=
  pField 0 x6 fun t31 =>
  pLoad h_4 t31 fun t32 =>
  pBin .eql t32 (.int .i64 1) fun t33 =>
  ifV t33
  (pField 3 x6 fun t35 =>
  pLoad h_4 t35 fun t36 =>
  pBin .eql t36 name1_1 fun t38 =>
  ifV t38
  (pField 2 x6 fun t40 =>
  pLoad h_4 t40 fun t41 =>
  sh_milestoneref29_Points_k3 P i5 Z t41 h_4)
  (sh_milestoneref29_Points_k4 P x6 name1_1 K i5 Z h_4))
  (sh_milestoneref29_Points_k4 P x6 name1_1 K i5 Z h_4)

def sh_milestoneref29_Points_L1 (P : Program) (l0 : Value) (K : Value → Heap → Prop) (name1_1 i5 : Value) (h_1 : Heap) (Z : Value → Value → Heap → Prop) : Prop :=
  pBin .geq i5 (.int .i64 0) fun t11 =>
  ifV t11
  (pIdx 5 l0 i5 fun t16 =>
  pLoadN 5 h_1 t16 fun t17 =>
  pBox T_milestoneref29_Change (.agg #[(.int .i64 0), (.int .i64 0), (.string ⟨#[]⟩), (.string ⟨#[]⟩), (.bool false)]) h_1 fun x6 h_2 =>
  pStore 5 x6 t17 h_2 fun u h_3 =>
  pField 0 x6 fun t19 =>
  pLoad h_3 t19 fun t20 =>
  pBin .eql t20 (.int .i64 0) fun t21 =>
  ifV t21
  (pField 2 x6 fun t23 =>
  pLoad h_3 t23 fun t24 =>
  pBin .eql t24 name1_1 fun t26 =>
  ifV t26
  (pField 1 x6 fun t28 =>
  pLoad h_3 t28 fun t29 =>
  K t29 h_3)
  (sh_milestoneref29_Points_k2 P x6 name1_1 i5 Z K h_3))
  (sh_milestoneref29_Points_k2 P x6 name1_1 i5 Z K h_3))
  (K (.int .i64 (-1)) h_1)

def sh_milestoneref29_Points (P : Program) (l0 name1 : Value) (h : Heap) (K : Value → Heap → Prop) : Prop :=
  pLen l0 fun t8 =>
  pBin .sub t8 (.int .i64 1) fun t9 =>
  LoopH (σ := Vals [1, 5]) (fun x hh ZZ => sh_milestoneref29_Points_L1 P l0 K x.1 x.2.1 hh (fun a0 a1 hz => ZZ (a0, (a1, ())) hz)) (name1, (t9, ())) h

set_option maxRecDepth 100000 in
theorem lk_milestoneref29_Points (l0 name1 : Value) {h : Heap} {K : Value → Heap → Prop} (H : sh_milestoneref29_Points Tryz.prog l0 name1 h K) : CallsH Tryz.prog F_milestoneref29_Points [l0, name1].toArray h K :=
  callsH_of (ann := (annG (Tryz.f83.body.getD .skip) 0 [(3, [1, 5])]).1) (c := Tryz.f83.body.getD .skip) Tryz.func83 (by kernel_rfl) (by kernel_rfl) (by kernel_rfl) (of_decide_eq_true (by kernel_rfl))
    (Eq.mpr (by kernel_rfl) H)

/-! (milestone/milestoneref29.Thing).Bytes -/

def sh_milestoneref29_Thing_Bytes_L3 (P : Program) (w5 k6 : Value) (Z_1 : Value → Value → Heap → Prop) (out3_2 : Value) (h_6 : Heap) (Z_2 : Value → Heap → Prop) : Prop :=
  pLen out3_2 fun t27 =>
  pField 0 w5 fun t28 =>
  pLoad h_6 t28 fun t29 =>
  pBin .add t29 k6 fun t31 =>
  pBin .leq t27 t31 fun t32 =>
  ifV t32
  (pBuildSlice T_uint8 (zerosL [(.int .u8 0)] 1) [(0, 1, (.int .u8 0))] 1 h_6 fun t34 h_7 =>
  pAppend T_uint8 1 1 [(.int .u8 0)] out3_2 t34 h_7 fun t35 h_8 =>
  Z_2 t35 h_8)
  (pField 0 w5 fun t37 =>
  pLoad h_6 t37 fun t38 =>
  pBin .add t38 k6 fun t40 =>
  pField 1 w5 fun t41 =>
  pLoad h_6 t41 fun t42 =>
  pIdxS t42 k6 fun t44 =>
  pIdx 1 out3_2 t40 fun t45 =>
  pStore 1 t45 t44 h_6 fun u_1 h_9 =>
  pBin .add k6 (.int .i64 1) fun t25 =>
  Z_1 out3_2 t25 h_9)

def sh_milestoneref29_Thing_Bytes_k5 (P : Program) (i4 : Value) (Z : Value → Value → Heap → Prop) (out3_3 : Value) (h_13 : Heap) : Prop :=
  pBin .add i4 (.int .i64 1) fun t13 =>
  Z out3_3 t13 h_13

def sh_milestoneref29_Thing_Bytes_L4 (P : Program) (w5 i4 : Value) (Z : Value → Value → Heap → Prop) (out3_3 : Value) (h_10 : Heap) (Z_3 : Value → Heap → Prop) : Prop :=
  pField 1 w5 fun t46 =>
  pLoad h_10 t46 fun t47 =>
  pLenS t47 fun t48 =>
  pBin .eql t48 (.int .i64 0) fun t49 =>
  ifV t49
  (pLen out3_3 fun t52 =>
  pField 0 w5 fun t53 =>
  pLoad h_10 t53 fun t54 =>
  pBin .lss t52 t54 fun t55 =>
  ifV t55
  (pBuildSlice T_uint8 (zerosL [(.int .u8 0)] 1) [(0, 1, (.int .u8 0))] 1 h_10 fun t58 h_11 =>
  pAppend T_uint8 1 1 [(.int .u8 0)] out3_3 t58 h_11 fun t59 h_12 =>
  Z_3 t59 h_12)
  (sh_milestoneref29_Thing_Bytes_k5 P i4 Z out3_3 h_10))
  (sh_milestoneref29_Thing_Bytes_k5 P i4 Z out3_3 h_10)

def sh_milestoneref29_Thing_Bytes_L2 (P : Program) (w5 i4 : Value) (Z : Value → Value → Heap → Prop) (out3_1 k6 : Value) (h_5 : Heap) (Z_1 : Value → Value → Heap → Prop) : Prop :=
  pField 1 w5 fun t20 =>
  pLoad h_5 t20 fun t21 =>
  pLenS t21 fun t22 =>
  pBin .lss k6 t22 fun t23 =>
  ifV t23
  (LoopH (σ := Vals [3]) (fun x hh ZZ => sh_milestoneref29_Thing_Bytes_L3 P w5 k6 Z_1 x.1 hh (fun a0 hz => ZZ (a0, ()) hz)) (out3_1, ()) h_5)
  (LoopH (σ := Vals [3]) (fun x hh ZZ => sh_milestoneref29_Thing_Bytes_L4 P w5 i4 Z x.1 hh (fun a0 hz => ZZ (a0, ()) hz)) (out3_1, ()) h_5)

def sh_milestoneref29_Thing_Bytes_L1 (P : Program) (t1 : Value) (K : Value → Heap → Prop) (out3 i4 : Value) (h_2 : Heap) (Z : Value → Value → Heap → Prop) : Prop :=
  pField 0 t1 fun t8 =>
  pLoad h_2 t8 fun t9 =>
  pLen t9 fun t10 =>
  pBin .lss i4 t10 fun t11 =>
  ifV t11
  (pField 0 t1 fun t14 =>
  pLoad h_2 t14 fun t15 =>
  pIdx 3 t15 i4 fun t17 =>
  pLoadN 3 h_2 t17 fun t18 =>
  pBox T_milestoneref29_Write (.agg #[(.int .i64 0), (.string ⟨#[]⟩), (.bool false)]) h_2 fun w5 h_3 =>
  pStore 3 w5 t18 h_3 fun u h_4 =>
  LoopH (σ := Vals [3, 6]) (fun x hh ZZ => sh_milestoneref29_Thing_Bytes_L2 P w5 i4 Z x.1 x.2.1 hh (fun a0 a1 hz => ZZ (a0, (a1, ())) hz)) (out3, ((.int .i64 0), ())) h_4)
  (pConvBS h_2 out3 fun t61 =>
  K t61 h_2)

def sh_milestoneref29_Thing_Bytes (P : Program) (t0 : Value) (h : Heap) (K : Value → Heap → Prop) : Prop :=
  pBox T_milestoneref29_Thing t0 h fun t1 h_1 =>
  LoopH (σ := Vals [3, 4]) (fun x hh ZZ => sh_milestoneref29_Thing_Bytes_L1 P t1 K x.1 x.2.1 hh (fun a0 a1 hz => ZZ (a0, (a1, ())) hz)) ((.slice none 0 0), ((.int .i64 0), ())) h_1

set_option maxRecDepth 100000 in
theorem lk_milestoneref29_Thing_Bytes (t0 : Value) {h : Heap} {K : Value → Heap → Prop} (H : sh_milestoneref29_Thing_Bytes Tryz.prog t0 h K) : CallsH Tryz.prog F_milestoneref29_Thing_Bytes [t0].toArray h K :=
  callsH_of (ann := (annG (Tryz.f84.body.getD .skip) 0 [(4, [3, 4]), (11, [3, 6]), (16, [3]), (19, [3])]).1) (c := Tryz.f84.body.getD .skip) Tryz.func84 (by kernel_rfl) (by kernel_rfl) (by kernel_rfl) (of_decide_eq_true (by kernel_rfl))
    (Eq.mpr (by kernel_rfl) H)

/-! (*milestone/milestoneref29.Disk).points -/

def sh_milestoneref29_Disk_points_C2 (P : Program) (K : Value → Heap → Prop) (i5 : Value) (Z : Value → Heap → Prop) (t46 : Value) (h_4 : Heap) : Prop :=
  ifV t46
  (K (.bool true) h_4)
  (pBin .add i5 (.int .i64 1) fun t14 =>
  Z t14 h_4)

def sh_milestoneref29_Disk_points_L1 (P : Program) (d0 n1 : Value) (K : Value → Heap → Prop) (i5 : Value) (h_1 : Heap) (Z : Value → Heap → Prop) : Prop :=
  pNil d0 fun t8 =>
  pField 1 t8 fun t9 =>
  pLoad h_1 t9 fun t10 =>
  pLen t10 fun t11 =>
  pBin .lss i5 t11 fun t12 =>
  ifV t12
  (cutP (σ := Vals [46]) (fun J =>
  pNil d0 fun t16 =>
  pField 1 t16 fun t17 =>
  pLoad h_1 t17 fun t18 =>
  pNil d0 fun t20 =>
  pField 1 t20 fun t21 =>
  pLoad h_1 t21 fun t22 =>
  pIdx 5 t22 i5 fun t24 =>
  pField 2 t24 fun t25 =>
  pLoad h_1 t25 fun t26 =>
  callS P F_milestoneref29_Points [t18, t26] h_1 fun t27 h_2 =>
  pBin .eql t27 n1 fun t29 =>
  ifV t29
  (J ((.bool true), ()) h_2)
  (pNil d0 fun t32 =>
  pField 1 t32 fun t33 =>
  pLoad h_2 t33 fun t34 =>
  pNil d0 fun t36 =>
  pField 1 t36 fun t37 =>
  pLoad h_2 t37 fun t38 =>
  pIdx 5 t38 i5 fun t40 =>
  pField 3 t40 fun t41 =>
  pLoad h_2 t41 fun t42 =>
  callS P F_milestoneref29_Points [t34, t42] h_2 fun t43 h_3 =>
  pBin .eql t43 n1 fun t45 =>
  J (t45, ()) h_3))
  (fun x hh => sh_milestoneref29_Disk_points_C2 P K i5 Z x.1 hh))
  (K (.bool false) h_1)

def sh_milestoneref29_Disk_points (P : Program) (d0 n1 : Value) (h : Heap) (K : Value → Heap → Prop) : Prop :=
  LoopH (σ := Vals [5]) (fun x hh ZZ => sh_milestoneref29_Disk_points_L1 P d0 n1 K x.1 hh (fun a0 hz => ZZ (a0, ()) hz)) ((.int .i64 0), ()) h

set_option maxRecDepth 100000 in
theorem lk_milestoneref29_Disk_points (d0 n1 : Value) {h : Heap} {K : Value → Heap → Prop} (H : sh_milestoneref29_Disk_points Tryz.prog d0 n1 h K) : CallsH Tryz.prog F_milestoneref29_Disk_points [d0, n1].toArray h K :=
  callsH_of (ann := (annG (Tryz.f85.body.getD .skip) 0 [(3, [5]), (7, [46])]).1) (c := Tryz.f85.body.getD .skip) Tryz.func85 (by kernel_rfl) (by kernel_rfl) (by kernel_rfl) (of_decide_eq_true (by kernel_rfl))
    (Eq.mpr (by kernel_rfl) H)

/-! slices.AppendSeq[[]string,string] -/

def sh_slices_AppendSeq_sl_string_string_B1 (P : Program) (h_1 : Heap) (s2 : Value) (L : Loop) (t7 : Value) (h_2 : Heap) (R : Exit → Heap → Prop) : Prop :=
  beginR (h_1.size + 1) L h_2 fun h_3 =>
  pLoad h_3 s2 fun t8 =>
  pBuildSlice T_string (zerosL [(.string ⟨#[]⟩)] 1) [(0, 1, t7)] 1 h_3 fun t10 h_4 =>
  pAppend T_string 1 16 [(.string ⟨#[]⟩)] t8 t10 h_4 fun t11 h_5 =>
  pStore 1 s2 t11 h_5 fun u h_6 =>
  R .normal h_6

def sh_slices_AppendSeq_sl_string_string (P : Program) (s0 seq1 : Value) (h : Heap) (K : Value → Heap → Prop) : Prop :=
  pBox T_sl_string s0 h fun s2 h_1 =>
  rangeH P seq1 [7] (h_1.size + 1) (h_1.push (.deferred (some []))) (fun L x hh R => sh_slices_AppendSeq_sl_string_string_B1 P h_1 s2 L x.1 hh R)
  (fun h_7 => pLoad h_7 s2 fun t12 =>
  takeM (h_1.size :: []) h_7 fun h_8 =>
  K t12 h_8)
  (fun h_9 => takeM (h_1.size :: []) h_9 fun h_10 =>
  K (.slice none 0 0) h_10)
  []

set_option maxRecDepth 100000 in
theorem lk_slices_AppendSeq_sl_string_string (s0 seq1 : Value) {h : Heap} {K : Value → Heap → Prop} (H : sh_slices_AppendSeq_sl_string_string Tryz.prog s0 seq1 h K) : CallsH Tryz.prog F_slices_AppendSeq_sl_string_string [s0, seq1].toArray h K :=
  callsH_of (ann := (annG (Tryz.f88.body.getD .skip) 0 []).1) (c := Tryz.f88.body.getD .skip) Tryz.func88 (by kernel_rfl) (by kernel_rfl) (by kernel_rfl) (of_decide_eq_true (by kernel_rfl))
    (Eq.mpr (by kernel_rfl) H)

/-! (milestone/disk.directory).rising$1 -/

def sh_disk_directory_rising_1_L1 (P : Program) (t8 t7 yield0 : Value) (K : Value → Heap → Prop) (t9 : Value) (h_3 : Heap) (Z : Value → Heap → Prop) : Prop :=
  pBin .lss t9 t8 fun t10 =>
  ifV t10
  (pIdx 1 t7 t9 fun t11 =>
  pLoad h_3 t11 fun t12 =>
  callV P yield0 [t12].toArray h_3 fun t15 h_4 =>
  pUn .not t15 fun t16 =>
  ifV t16
  (K (.tuple #[]) h_4)
  (pBin .add t9 (.int .i64 1) fun t17 =>
  Z t17 h_4))
  (K (.tuple #[]) h_3)

def sh_disk_directory_rising_1 (P : Program) (yield0 t1 : Value) (h : Heap) (K : Value → Heap → Prop) : Prop :=
  pLoad h t1 fun t5 =>
  callS P F_maps_Keys_disk_directory_string_int [t5] h fun t6 h_1 =>
  callS P F_slices_Sorted_string [t6] h_1 fun t7 h_2 =>
  pLen t7 fun t8 =>
  LoopH (σ := Vals [9]) (fun x hh ZZ => sh_disk_directory_rising_1_L1 P t8 t7 yield0 K x.1 hh (fun a0 hz => ZZ (a0, ()) hz)) ((.int .i64 0), ()) h_2

set_option maxRecDepth 100000 in
theorem lk_disk_directory_rising_1 (yield0 t1 : Value) {h : Heap} {K : Value → Heap → Prop} (H : sh_disk_directory_rising_1 Tryz.prog yield0 t1 h K) : CallsH Tryz.prog F_disk_directory_rising_1 [yield0, t1].toArray h K :=
  callsH_of (ann := (annG (Tryz.f89.body.getD .skip) 0 [(1, [9])]).1) (c := Tryz.f89.body.getD .skip) Tryz.func89 (by kernel_rfl) (by kernel_rfl) (by kernel_rfl) (of_decide_eq_true (by kernel_rfl))
    (Eq.mpr (by kernel_rfl) H)

/-! slices.Sorted[string] -/

def sh_slices_Sorted_string (P : Program) (seq0 : Value) (h : Heap) (K : Value → Heap → Prop) : Prop :=
  callS P F_slices_Collect_string [seq0] h fun t5 h_1 =>
  callS P F_slices_Sort_sl_string_string [t5] h_1 fun t7 h_2 =>
  K t5 h_2

set_option maxRecDepth 100000 in
theorem lk_slices_Sorted_string (seq0 : Value) {h : Heap} {K : Value → Heap → Prop} (H : sh_slices_Sorted_string Tryz.prog seq0 h K) : CallsH Tryz.prog F_slices_Sorted_string [seq0].toArray h K :=
  callsH_of (ann := (annG (Tryz.f90.body.getD .skip) 0 []).1) (c := Tryz.f90.body.getD .skip) Tryz.func90 (by kernel_rfl) (by kernel_rfl) (by kernel_rfl) (of_decide_eq_true (by kernel_rfl))
    (Eq.mpr (by kernel_rfl) H)

end Go.Proofs.YtdbkeklhjjlhbaaGreat
