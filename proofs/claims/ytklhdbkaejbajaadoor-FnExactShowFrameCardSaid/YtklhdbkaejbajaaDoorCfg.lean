/- The functions of this seat by their names; which of them run in their caller's heap. -/
import Derived.Test.YtklhdbkaejbajaaDoorKE
import Derived.Test.YtklhdbkaejbajaaDoorProg
import Derived.KernelRfl
namespace Go.Proofs.YtklhdbkaejbajaaDoor.G
open Go.RowKit
set_option linter.unusedVariables false
namespace fn
def main_main : Nat := 0
def gosem_cut : Nat := 1
def gosem_cut_init : Nat := 2
def laws_FnExactRecord : Nat := 3
def laws_FnExactSealed : Nat := 4
def laws_FnExactShowEntry : Nat := 5
def laws_FnExactOpened : Nat := 6
def laws_FnExactRecords : Nat := 7
def laws_FnExactReadEntry : Nat := 8
def laws_FnSealed : Nat := 9
def laws_FnRecords : Nat := 10
def laws_FnEntries : Nat := 11
def laws_FnExactShowFrame : Nat := 12
def laws_FnExactTermOk : Nat := 13
def spec_Record : Nat := 14
def impl_Record : Nat := 15
def spec_Sealed : Nat := 16
def impl_Sealed : Nat := 17
def laws_szEntry : Nat := 18
def spec_ShowEntry : Nat := 19
def laws_toEntry : Nat := 20
def impl_ShowEntry : Nat := 21
def spec_Opened : Nat := 22
def impl_Opened : Nat := 23
def spec_Records : Nat := 24
def impl_Records : Nat := 25
def laws_eqStringS : Nat := 26
def laws_markStringS : Nat := 27
def laws_heldStringS : Nat := 28
def spec_ReadEntry : Nat := 29
def impl_ReadEntry : Nat := 30
def laws_eqEntry : Nat := 31
def laws_big : Nat := 32
def spec_DrawSealed : Nat := 33
def impl_Mark : Nat := 34
def spec_DrawMix : Nat := 35
def spec_DrawStream : Nat := 36
def spec_Mark : Nat := 37
def impl_Mix : Nat := 38
def spec_Mix : Nat := 39
def impl_Stream : Nat := 40
def spec_Stream : Nat := 41
def spec_DrawOpened : Nat := 42
def spec_DrawRecords : Nat := 43
def spec_DrawRecord : Nat := 44
def spec_DrawTorn : Nat := 45
def impl_Torn : Nat := 46
def spec_DrawSum : Nat := 47
def laws_likeTexts : Nat := 48
def spec_Torn : Nat := 49
def impl_Sum : Nat := 50
def spec_Sum : Nat := 51
def laws_pick : Nat := 52
def laws_begins : Nat := 53
def spec_DrawShowEntry : Nat := 54
def impl_EntryOk : Nat := 55
def spec_DrawReadEntry : Nat := 56
def laws_szFrame : Nat := 57
def spec_ShowFrame : Nat := 58
def laws_toFrame : Nat := 59
def impl_ShowFrame : Nat := 60
def laws_eqFrame : Nat := 61
def laws_szTerm : Nat := 62
def spec_TermOk : Nat := 63
def laws_toTerm : Nat := 64
def impl_TermOk : Nat := 65
def laws_eqTerm : Nat := 66
def spec_l3Int : Nat := 67
def impl_decimal : Nat := 68
def spec_l14Told : Nat := 69
def spec_l14Xor : Nat := 70
def impl_isSeal : Nat := 71
def impl_xored : Nat := 72
def spec_EntryOk : Nat := 73
def spec_l18Show : Nat := 74
def impl_spaced : Nat := 75
def impl_hex : Nat := 76
def strings_Cut : Nat := 77
def strconv_ParseInt : Nat := 78
def spec_l16Record : Nat := 79
def impl_takeRecord : Nat := 80
def laws_markText : Nat := 81
def spec_l18Words : Nat := 82
def spec_l10Number : Nat := 83
def spec_l18Digit : Nat := 84
def strings_Split : Nat := 85
def impl_unhex : Nat := 86
def impl_numberOf : Nat := 87
def spec_DrawMark : Nat := 88
def impl_begun : Nat := 89
def spec_l1New : Nat := 90
def spec_l14DrawCount : Nat := 91
def spec_l14DrawKey : Nat := 92
def spec_l1Below : Nat := 93
def spec_l14Begin : Nat := 94
def spec_l1Max : Nat := 95
def spec_l1In : Nat := 96
def spec_l1Once : Nat := 97
def spec_l13Bend : Nat := 98
def spec_l1DrawBytes : Nat := 99
def impl_first : Nat := 100
def spec_DrawGet : Nat := 101
def spec_l16Cut : Nat := 102
def spec_DrawEntryOk : Nat := 103
def impl_in : Nat := 104
def impl_isKeys : Nat := 105
def spec_l18DrawAny : Nat := 106
def laws_szPatch : Nat := 107
def spec_ShowPatch : Nat := 108
def laws_toPatch : Nat := 109
def impl_ShowPatch : Nat := 110
def laws_eqPatch : Nat := 111
def laws_szGrid : Nat := 112
def laws_szInt64S : Nat := 113
def laws_szParser : Nat := 114
def laws_szFeeder : Nat := 115
def spec_GridOk : Nat := 116
def spec_l7Cell : Nat := 117
def spec_StyleOk : Nat := 118
def spec_l6Runes : Nat := 119
def spec_ParserOk : Nat := 120
def spec_FeederOk : Nat := 121
def laws_toGrid : Nat := 122
def laws_toStyle : Nat := 123
def laws_toInt64S : Nat := 124
def laws_toParser : Nat := 125
def laws_toFeeder : Nat := 126
def impl_GridOk : Nat := 127
def impl_Grid_last : Nat := 128
def impl_Grid_isAt : Nat := 129
def impl_StyleOk : Nat := 130
def impl_areTitle : Nat := 131
def impl_ParserOk : Nat := 132
def impl_FeederOk : Nat := 133
def laws_eqGrid : Nat := 134
def laws_eqStyle : Nat := 135
def laws_eqInt64S : Nat := 136
def laws_eqParser : Nat := 137
def laws_eqFeeder : Nat := 138
def strconv_FormatInt : Nat := 139
def spec_l18Hex : Nat := 140
def strings_Join : Nat := 141
def internal_stringslite_Cut : Nat := 142
def internal_strconv_ParseInt : Nat := 143
def strconv_toError : Nat := 144
def spec_l10Read : Nat := 145
def strings_HasPrefix : Nat := 146
def strings_genSplit : Nat := 147
def strings_IndexByte : Nat := 148
def strings_TrimPrefix : Nat := 149
def spec_l1Byte : Nat := 150
def spec_Text : Nat := 151
def spec_l1DrawRunes : Nat := 152
def spec_l1Min : Nat := 153
def spec_l18DrawEntry : Nat := 154
def spec_l1From : Nat := 155
def laws_szChangeS : Nat := 156
def spec_l10Numbers : Nat := 157
def laws_toChangeS : Nat := 158
def impl_Patch_numbers : Nat := 159
def laws_eqChangeS : Nat := 160
def laws_szCellSS : Nat := 161
def spec_RowOk : Nat := 162
def spec_RuneOk : Nat := 163
def spec_l1Part : Nat := 164
def laws_toCellSS : Nat := 165
def slices_ContainsFunc_impl_Cell_impl_Cell : Nat := 166
def impl_GridOk_1 : Nat := 167
def impl_RowOk : Nat := 168
def slices_ContainsFunc_int64 : Nat := 169
def impl_areTitle_1 : Nat := 170
def impl_RuneOk : Nat := 171
def impl_areParams : Nat := 172
def impl_isMark : Nat := 173
def impl_isBegun : Nat := 174
def laws_eqCellSS : Nat := 175
def internal_strconv_FormatInt : Nat := 176
def strings_Builder_Grow : Nat := 177
def strings_Builder_WriteString : Nat := 178
def strings_Builder_String : Nat := 179
def internal_stringslite_Index : Nat := 180
def internal_strconv_ParseUint : Nat := 181
def strconv_syntaxError : Nat := 182
def strconv_rangeError : Nat := 183
def strconv_baseError : Nat := 184
def strconv_bitSizeError : Nat := 185
def internal_stringslite_HasPrefix : Nat := 186
def strings_explode : Nat := 187
def strings_Count : Nat := 188
def strings_Index : Nat := 189
def internal_stringslite_IndexByte : Nat := 190
def internal_stringslite_TrimPrefix : Nat := 191
def spec_l1Put : Nat := 192
def spec_l1DrawRune : Nat := 193
def spec_l6DrawText : Nat := 194
def laws_szChange : Nat := 195
def spec_l10Flags : Nat := 196
def laws_toChange : Nat := 197
def impl_Style_flags : Nat := 198
def impl_Patch_numbers_1 : Nat := 199
def laws_eqChange : Nat := 200
def laws_szCellS : Nat := 201
def spec_Width : Nat := 202
def spec_l1Long : Nat := 203
def spec_Get : Nat := 204
def laws_toCellS : Nat := 205
def slices_IndexFunc_impl_Cell_impl_Cell : Nat := 206
def impl_isCell : Nat := 207
def slices_IndexFunc_int64 : Nat := 208
def impl_areParams_1 : Nat := 209
def unicode_utf8_FullRuneInString : Nat := 210
def laws_eqCellS : Nat := 211
def internal_strconv_small : Nat := 212
def internal_strconv_numDigits : Nat := 213
def internal_strconv_formatBase10 : Nat := 214
def internal_strconv_formatBits : Nat := 215
def strings_Builder_copyCheck : Nat := 216
def strings_Builder_grow : Nat := 217
def internal_bytealg_IndexString : Nat := 218
def internal_bytealg_Cutover : Nat := 219
def internal_bytealg_IndexRabinKarp_string : Nat := 220
def internal_strconv_lower : Nat := 221
def internal_strconv_underscoreOK : Nat := 222
def internal_stringslite_Clone : Nat := 223
def errors_New : Nat := 224
def strconv_Itoa : Nat := 225
def unicode_utf8_RuneCountInString : Nat := 226
def unicode_utf8_DecodeRuneInString : Nat := 227
def internal_bytealg_CountString : Nat := 228
def internal_bytealg_IndexByteString : Nat := 229
def spec_l3Flag : Nat := 230
def spec_Put : Nat := 231
def laws_toCell : Nat := 232
def impl_Width : Nat := 233
def laws_eqCell : Nat := 234
def internal_strconv_log10Pow2 : Nat := 235
def math_bits_Len64 : Nat := 236
def internal_strconv_bool2_int : Nat := 237
def internal_strconv_isPowerOfTwo : Nat := 238
def math_bits_TrailingZeros : Nat := 239
def internal_abi_NoEscape : Nat := 240
def internal_bytealg_MakeNoZero : Nat := 241
def internal_bytealg_hashStr_string : Nat := 242
def internal_strconv_Itoa : Nat := 243
def unicode_utf8_decodeRuneInStringSlow : Nat := 244
def math_bits_TrailingZeros32 : Nat := 245
def math_bits_TrailingZeros64 : Nat := 246
def runtime_boundsError_Error : Nat := 247
def runtime_boundsError_RuntimeError : Nat := 248
def runtime_errorString_Error : Nat := 249
def runtime_errorString_RuntimeError : Nat := 250
def runtime_plainError_Error : Nat := 251
def runtime_plainError_RuntimeError : Nat := 252
def runtime_errorAddressString_Error : Nat := 253
def runtime_errorAddressString_RuntimeError : Nat := 254
def runtime_TypeAssertionError_Error : Nat := 255
def runtime_TypeAssertionError_RuntimeError : Nat := 256
def runtime_PanicNilError_Error : Nat := 257
def runtime_PanicNilError_RuntimeError : Nat := 258
def internal_abi_Type_Align : Nat := 259
def internal_runtime_maps_unhashableTypeError_Error : Nat := 260
def internal_runtime_maps_unhashableTypeError_RuntimeError : Nat := 261
def impl_Parser_copied : Nat := 262
def impl_Term_copied : Nat := 263
def strings_Builder_Reset : Nat := 264
def internal_strconv_Error_Error : Nat := 265
def strconv_NumError_Error : Nat := 266
def errors_errorString_Error : Nat := 267
def internal_abi_Kind_String : Nat := 268
def var_s_door_gosem_cut_vars_holds_initialisers_alone_see_the_manifest_s_row_cutvarsword_look_11_test_files_too : Nat := 269
def var_s_door_internal_strconv_uint64pow10_is_laid_by_its_own_initialiser_plain_data_look_11 : Nat := 270
def var_s_door_math_bits_deBruijn32tab_is_laid_by_its_own_initialiser_plain_data_look_11 : Nat := 271
def var_s_door_math_bits_deBruijn64tab_is_laid_by_its_own_initialiser_plain_data_look_11 : Nat := 272
def var_s_door_strconv_ErrRange_is_laid_by_its_own_call_of_errors_New_on_one_literal_look_11 : Nat := 273
def var_s_door_strconv_ErrSyntax_is_laid_by_its_own_call_of_errors_New_on_one_literal_look_11 : Nat := 274
def var_s_door_the_look_of_gosem_cut_vars_went_over_the_folder_that_the_caller_named_as_the_repository_s_root_look_11 : Nat := 275
def var_s_door_unicode_utf8_acceptRanges_is_laid_by_its_own_initialiser_plain_data_look_11 : Nat := 276
def var_s_door_unicode_utf8_first_is_laid_by_its_text_alone_pinned_1 : Nat := 277
def gosem_cut_vars : Nat := 278
end fn
namespace ty
def internal_abi_BoundsErrorCode : Nat := 6
def runtime_boundsError : Nat := 8
def runtime_errorString : Nat := 10
def runtime_plainError : Nat := 11
def runtime_errorAddressString : Nat := 14
def internal_runtime_maps_unhashableTypeError : Nat := 19
def laws_Entry : Nat := 27
def impl_Entry : Nat := 30
def laws_Patch : Nat := 67
def laws_Frame : Nat := 69
def impl_Patch : Nat := 74
def impl_Frame : Nat := 76
def laws_Grid : Nat := 82
def laws_Style : Nat := 84
def laws_Parser : Nat := 87
def laws_Feeder : Nat := 89
def laws_Term : Nat := 91
def impl_Grid : Nat := 96
def impl_Style : Nat := 97
def impl_Parser : Nat := 98
def impl_Feeder : Nat := 99
def impl_Term : Nat := 101
def error : Nat := 113
def spec_l1Cur : Nat := 173
def impl_Change : Nat := 179
def impl_Cell : Nat := 181
def strings_Builder : Nat := 195
def internal_strconv_Error : Nat := 201
def laws_Change : Nat := 214
def strconv_NumError : Nat := 235
def laws_Cell : Nat := 244
def unicode_utf8_acceptRange : Nat := 247
def errors_errorString : Nat := 263
def runtime_TypeAssertionError : Nat := 268
def runtime_PanicNilError : Nat := 271
def internal_abi_TFlag : Nat := 273
def internal_abi_Kind : Nat := 274
def internal_abi_NameOff : Nat := 276
def internal_abi_TypeOff : Nat := 277
def internal_abi_Type : Nat := 279
end ty
noncomputable abbrev PP : Program := Tryd.prog
def extOf (f : FuncId) : Option (List GV → Option GV) := bif Nat.beq f 139 then some rFormatInt else bif Nat.beq f 141 then some rJoin else none
def cfg : Cfg := ⟨fun f => [27, 90, 91, 92, 93, 97, 98, 99, 106, 150, 152, 154, 155, 193, 194].any (Nat.beq f), extOf, fun f => [].any (Nat.beq f), fun f => [25, 124, 85, 147].any (Nat.beq f)⟩
theorem cfg_xr : XReach cfg := fun f e xs v h1 h2 => by
  replace h1 : extOf f = some e := h1
  unfold extOf at h1
  cases hb : Nat.beq f 139 with
  | true => rw [hb] at h1; cases h1; exact nb_rFormatInt h2
  | false =>
  rw [hb] at h1
  simp only [cond_false] at h1
  cases hb : Nat.beq f 141 with
  | true => rw [hb] at h1; cases h1; exact nb_rJoin h2
  | false =>
  rw [hb] at h1
  simp only [cond_false] at h1
  cases h1
instance : XR cfg := ⟨cfg_xr⟩
noncomputable def NN : NCall := nω PP cfg
noncomputable def HH : HCall := kω PP cfg
noncomputable def OO : FuncId → List GV → Nat → Option (GV × List (List GV)) := oω PP cfg
noncomputable def KC {R : Type} (k nt : Nat) (c : Code) (σ : GS) (h : Heap) (K : GX → GS → Heap → Option R) : Option R := kcode PP cfg NN HH k nt c σ h K
noncomputable def kval {R : Type} (f : GV) (args : List GV) (h : Heap) (K : GV → Heap → Option R) : Option R := match f with | .fn g caps => kcallee PP cfg NN HH g (args ++ caps) h K | _ => none
section
variable {R : Type} {k nt : Nat} {c a b : Code} {σ : GS} {h : Heap} {K : GX → GS → Heap → Option R}
theorem kseq {B : GS → Heap → Option R} (hc : c = .seq a b) (hb : ∀ σ h, KC k nt b σ h K = B σ h) :
    KC k nt c σ h K = KC k nt a σ h (fun x σ h => kx x (B σ h) (K x σ h)) := kseq_eq hc hb
theorem kcond_eq {v : GV} {o : Operand} (hc : c = .cond o a b) (hv : eval σ o = some v) : KC k nt c σ h K = kcond v (KC k nt a σ h K) (KC k nt b σ h K) := kcondP_eq hc hv
theorem kblock_eq {id : Nat} (hc : c = .block id a) : KC k nt c σ h K = KC k nt a σ h (fun x σ h => kb id x fun x => K x σ h) := kblockP_eq hc
theorem kloop_eq {B : GS → Heap → Option R} {r : Nat} (hb : ∀ σ h, kloop (fun σ h K => KC k nt a σ h K) r σ h K = B σ h) :
    kloop (fun σ h K => KC k nt a σ h K) (r + 1) σ h K = KC k nt a σ h (fun x σ h => kx x (B σ h) (K x σ h)) := kloop_eqP hb
theorem kloopc_eq (hc : c = .loop a) : KC k nt c σ h K = kloop (fun σ h K => KC k nt a σ h K) k σ h K := by subst hc; rfl
theorem kregion_eq {id : Nat} {ops : Array Oper} {draw : Bool} {gs : List (Option (Nat × Bool) × List Nat)} (hc : c = .region id ops draw) (hg : grp ops (List.range ops.size) = gs) (hk : (grpOk ops gs && (!draw || statOk cfg ops)) = true) :
    KC k nt c σ h K = kgroups PP cfg NN HH nt ops gs σ h (fun σ h => K .nrm σ h) := kregionP_eq hc hg hk
theorem kregionD_eq {id : Nat} {ops : Array Oper} {draw : Bool} {gs : List (Option (Nat × Bool) × List Nat)} {bad : List (Nat × Nat)} (hc : c = .region id ops draw) (hg : grp ops (List.range ops.size) = gs) (hs : (grpOk ops gs && (!draw || statOk cfg ops)) = false) (hk : (grpOk ops gs && dynOk cfg ops) = true) (hb : badOf cfg ops = bad) :
    KC k nt c σ h K = kgroupsD PP cfg NN HH nt ops bad gs [] σ h (fun rs σ h => bif chk bad rs then K .nrm σ h else none) := kregionPD_eq hc hg hs hk hb
theorem kfun_eq {f : FuncId} {args : List GV} {fn : Func} {fin : GV → Heap → Option R} {G : GX → GS → Heap → Option R} (hf : PP.funcs[f]? = some fn) (hb : fn.body = some c) (hn : max args.length fn.ntmps = nt)
    (hG : ∀ x σ h, (match x with | .ext _ => none | _ => kres PP σ h fn.results.toList [] fun v => fin v h) = G x σ h) :
    kfun PP cfg NN HH k f args h fin = KC k nt c (fun t => args.getD t .un) h G := kfunP_eq hf hb hn hG
end
end Go.Proofs.YtklhdbkaejbajaaDoor.G
