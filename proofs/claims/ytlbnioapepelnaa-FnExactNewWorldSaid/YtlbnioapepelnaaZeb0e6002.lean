/- The functions of this seat by their names; which of them run in their caller's heap. Values of Go as data: what the machine's words do on them. Loops in general: what goes on as long as something holds, and what is gathered round by round. Slices of structs, slices of slices: what the machine's words do on them; loops that count down. New memory that is handed over. What stays as it was; one cell is read, is written. Data laid into memory: which blocks they have, how they are lent and handed over. -/
import Derived.Test.YtlbnioapepelnaaZ8179673a
import Derived.Test.YtlbnioapepelnaaProg
import Derived.KernelRfl
namespace Go.Proofs.Ytlbnioapepelnaa.G
open Go.RowKit
set_option linter.unusedVariables false
namespace fn
def main_main : Nat := 0
def gosem_cut : Nat := 1
def gosem_cut_init : Nat := 2
def laws_FnExactFall : Nat := 3
def laws_FnCertain : Nat := 4
def laws_FnChains : Nat := 5
def laws_FnWindows : Nat := 6
def laws_FnExactNewWorld : Nat := 7
def laws_FnExactTook : Nat := 8
def laws_FnExactStep : Nat := 9
def laws_FnExactParsed : Nat := 10
def laws_FnExactDown : Nat := 11
def laws_FnExactUp : Nat := 12
def laws_FnParsed : Nat := 13
def laws_szChain : Nat := 14
def spec_Fall : Nat := 15
def laws_toChain : Nat := 16
def impl_Fall : Nat := 17
def laws_eqChain : Nat := 18
def laws_markChain : Nat := 19
def laws_heldChain : Nat := 20
def laws_big : Nat := 21
def spec_DrawCertain : Nat := 22
def laws_likeTexts : Nat := 23
def impl_Certain : Nat := 24
def spec_Certain : Nat := 25
def spec_ChainOk : Nat := 26
def laws_pick : Nat := 27
def impl_Submit : Nat := 28
def impl_Carry : Nat := 29
def impl_Reply : Nat := 30
def impl_Extend : Nat := 31
def laws_begins : Nat := 32
def spec_DrawSubmit : Nat := 33
def spec_DrawCarry : Nat := 34
def spec_DrawNewChain : Nat := 35
def impl_NewChain : Nat := 36
def spec_Submit : Nat := 37
def laws_likeChain : Nat := 38
def spec_Carry : Nat := 39
def spec_Reply : Nat := 40
def spec_Extend : Nat := 41
def impl_ChainOk : Nat := 42
def spec_NewChain : Nat := 43
def spec_DrawTook : Nat := 44
def impl_Took : Nat := 45
def impl_Fresh : Nat := 46
def spec_Took : Nat := 47
def laws_likeWindow : Nat := 48
def spec_Fresh : Nat := 49
def impl_WindowOk : Nat := 50
def spec_WindowOk : Nat := 51
def spec_NewWorld : Nat := 52
def impl_NewWorld : Nat := 53
def laws_eqWorld : Nat := 54
def laws_markWorld : Nat := 55
def laws_heldWorld : Nat := 56
def laws_szWindow : Nat := 57
def laws_toWindow : Nat := 58
def laws_eqWindow : Nat := 59
def laws_markWindow : Nat := 60
def laws_heldWindow : Nat := 61
def laws_szParser : Nat := 62
def spec_Step : Nat := 63
def laws_toParser : Nat := 64
def impl_Step : Nat := 65
def laws_eqParser : Nat := 66
def laws_eqActionS : Nat := 67
def laws_markParser : Nat := 68
def laws_markActionS : Nat := 69
def laws_heldParser : Nat := 70
def laws_heldActionS : Nat := 71
def spec_Parsed : Nat := 72
def laws_toInt64S : Nat := 73
def impl_Parsed : Nat := 74
def laws_eqInt64S : Nat := 75
def laws_markInt64S : Nat := 76
def laws_szGrid : Nat := 77
def spec_Down : Nat := 78
def laws_toGrid : Nat := 79
def laws_toStyle : Nat := 80
def impl_Down : Nat := 81
def laws_eqGrid : Nat := 82
def laws_markGrid : Nat := 83
def laws_heldGrid : Nat := 84
def spec_Up : Nat := 85
def impl_Up : Nat := 86
def spec_DrawStep : Nat := 87
def spec_DrawParsed : Nat := 88
def laws_likeParser : Nat := 89
def laws_likeActions : Nat := 90
def impl_ParserOk : Nat := 91
def spec_ParserOk : Nat := 92
def spec_RuneOk : Nat := 93
def laws_szServerS : Nat := 94
def laws_szStringSS : Nat := 95
def laws_szInt64SS : Nat := 96
def spec_l17Copy : Nat := 97
def spec_l17Fall : Nat := 98
def laws_toServerS : Nat := 99
def laws_toStringSS : Nat := 100
def laws_toInt64SS : Nat := 101
def impl_changed : Nat := 102
def impl_Fall_1 : Nat := 103
def impl_Chain_last : Nat := 104
def impl_in : Nat := 105
def impl_Chain_fall : Nat := 106
def laws_eqServerS : Nat := 107
def laws_eqStringSS : Nat := 108
def laws_eqInt64SS : Nat := 109
def laws_markServerS : Nat := 110
def laws_markStringSS : Nat := 111
def laws_markInt64SS : Nat := 112
def laws_heldServerS : Nat := 113
def laws_heldStringSS : Nat := 114
def laws_heldInt64SS : Nat := 115
def spec_DrawChainOk : Nat := 116
def slices_Clone_string : Nat := 117
def spec_l17Certain : Nat := 118
def spec_l1In : Nat := 119
def spec_l17Same : Nat := 120
def spec_l17Texts : Nat := 121
def impl_Submit_1 : Nat := 122
def impl_Carry_1 : Nat := 123
def impl_Chain_tell : Nat := 124
def impl_Reply_1 : Nat := 125
def impl_Extend_1 : Nat := 126
def spec_l1New : Nat := 127
def spec_l17DrawAny : Nat := 128
def spec_l1Once : Nat := 129
def spec_l1Below : Nat := 130
def spec_l1Max : Nat := 131
def spec_l1From : Nat := 132
def spec_l17Submit : Nat := 133
def laws_likeInts : Nat := 134
def spec_l17Carry : Nat := 135
def spec_l17Reply : Nat := 136
def spec_l17Extend : Nat := 137
def slices_ContainsFunc_impl_Server : Nat := 138
def impl_ChainOk_1 : Nat := 139
def impl_isServer : Nat := 140
def slices_Equal_string : Nat := 141
def slices_Concat_string : Nat := 142
def impl_areUp : Nat := 143
def spec_DrawFresh : Nat := 144
def slices_Clone_int64 : Nat := 145
def slices_Sort_int64 : Nat := 146
def slices_DeleteFunc_int64 : Nat := 147
def impl_Took_1 : Nat := 148
def slices_Contains_int64 : Nat := 149
def spec_l15Fresh : Nat := 150
def spec_l15Copy : Nat := 151
def spec_l19New : Nat := 152
def impl_NewClient : Nat := 153
def laws_eqClientS : Nat := 154
def laws_eqStringS : Nat := 155
def laws_eqDatagramS : Nat := 156
def laws_markClientS : Nat := 157
def laws_markStringS : Nat := 158
def laws_markDatagramS : Nat := 159
def laws_heldClientS : Nat := 160
def laws_heldStringS : Nat := 161
def laws_heldDatagramS : Nat := 162
def laws_szInt64S : Nat := 163
def laws_heldInt64S : Nat := 164
def spec_l6Step : Nat := 165
def spec_l6Copy : Nat := 166
def impl_parsed : Nat := 167
def laws_eqAction : Nat := 168
def spec_l6Runes : Nat := 169
def laws_szCellSS : Nat := 170
def spec_l5Told : Nat := 171
def spec_l5Copy : Nat := 172
def spec_l5Move : Nat := 173
def laws_toCellSS : Nat := 174
def impl_isScroll : Nat := 175
def impl_Grid_copied : Nat := 176
def impl_Grid_down : Nat := 177
def laws_eqCellSS : Nat := 178
def laws_markCellSS : Nat := 179
def laws_heldCellSS : Nat := 180
def impl_Grid_up : Nat := 181
def spec_l6DrawAny : Nat := 182
def spec_DrawRuneOk : Nat := 183
def spec_Runes : Nat := 184
def spec_l6DrawText : Nat := 185
def impl_areParams : Nat := 186
def impl_isMark : Nat := 187
def impl_areTitle : Nat := 188
def laws_szServer : Nat := 189
def laws_szStringS : Nat := 190
def laws_toServer : Nat := 191
def laws_toStringS : Nat := 192
def impl_Chain_copied : Nat := 193
def slices_Delete_impl_Server : Nat := 194
def slices_Delete_string_string : Nat := 195
def slices_Delete_int64_int64 : Nat := 196
def laws_eqServer : Nat := 197
def spec_l17Draw : Nat := 198
def spec_l1Byte : Nat := 199
def slices_IndexFunc_impl_Server : Nat := 200
def slices_ContainsFunc_string : Nat := 201
def impl_isServer_1 : Nat := 202
def slices_Grow_string : Nat := 203
def slices_IsSorted_int64 : Nat := 204
def slices_ContainsFunc_int64 : Nat := 205
def impl_areUp_1 : Nat := 206
def spec_l15Draw : Nat := 207
def spec_l1Min : Nat := 208
def spec_l14DrawCount : Nat := 209
def slices_pdqsortOrdered_int64 : Nat := 210
def math_bits_Len : Nat := 211
def slices_IndexFunc_int64 : Nat := 212
def slices_Index_int64 : Nat := 213
def spec_l5New : Nat := 214
def impl_NewGrid : Nat := 215
def laws_eqClient : Nat := 216
def laws_eqDatagram : Nat := 217
def laws_markText : Nat := 218
def spec_l6State : Nat := 219
def spec_l6Escape : Nat := 220
def spec_l6List : Nat := 221
def spec_Width : Nat := 222
def impl_parsed_1 : Nat := 223
def impl_RuneOk : Nat := 224
def impl_Parser_copied : Nat := 225
def impl_Parser_step : Nat := 226
def laws_szCellS : Nat := 227
def spec_GridOk : Nat := 228
def spec_StyleOk : Nat := 229
def spec_l4Row : Nat := 230
def laws_toCellS : Nat := 231
def impl_GridOk : Nat := 232
def impl_StyleOk : Nat := 233
def impl_Grid_last : Nat := 234
def slices_Clone_impl_Cell : Nat := 235
def slices_Concat_impl_Cell_impl_Cell : Nat := 236
def impl_Grid_blanks : Nat := 237
def laws_eqCellS : Nat := 238
def laws_markCellS : Nat := 239
def laws_heldCellS : Nat := 240
def spec_l6Draw : Nat := 241
def spec_l1DrawRune : Nat := 242
def spec_Get : Nat := 243
def impl_areParams_1 : Nat := 244
def impl_areTitle_1 : Nat := 245
def slices_IndexFunc_string : Nat := 246
def cmp_Less_int64 : Nat := 247
def slices_insertionSortOrdered_int64 : Nat := 248
def slices_heapSortOrdered_int64 : Nat := 249
def slices_breakPatternsOrdered_int64 : Nat := 250
def slices_choosePivotOrdered_int64 : Nat := 251
def slices_reverseRangeOrdered_int64 : Nat := 252
def slices_partialInsertionSortOrdered_int64 : Nat := 253
def slices_partitionEqualOrdered_int64 : Nat := 254
def slices_partitionOrdered_int64 : Nat := 255
def math_bits_Len32 : Nat := 256
def math_bits_Len64 : Nat := 257
def impl_Blank : Nat := 258
def impl_Parser_title : Nat := 259
def impl_Parser_ended : Nat := 260
def impl_Parser_become : Nat := 261
def impl_isControl : Nat := 262
def impl_Parser_escaped : Nat := 263
def impl_Parser_more : Nat := 264
def impl_Width : Nat := 265
def spec_RowOk : Nat := 266
def spec_l4Blank : Nat := 267
def laws_toCell : Nat := 268
def slices_ContainsFunc_impl_Cell_impl_Cell : Nat := 269
def impl_GridOk_1 : Nat := 270
def impl_RowOk : Nat := 271
def slices_Grow_impl_Cell_impl_Cell : Nat := 272
def laws_eqCell : Nat := 273
def spec_l1Long : Nat := 274
def spec_Put : Nat := 275
def cmp_isNaN_int64 : Nat := 276
def slices_siftDownOrdered_int64 : Nat := 277
def slices_nextPowerOfTwo : Nat := 278
def slices_xorshift_Next : Nat := 279
def slices_medianAdjacentOrdered_int64 : Nat := 280
def slices_medianOrdered_int64 : Nat := 281
def slices_Repeat_impl_Cell : Nat := 282
def impl_blank : Nat := 283
def slices_IndexFunc_impl_Cell_impl_Cell : Nat := 284
def impl_isCell : Nat := 285
def laws_eqStyle : Nat := 286
def spec_l1Put : Nat := 287
def slices_order2Ordered_int64 : Nat := 288
def math_bits_Mul : Nat := 289
def math_bits_Mul32 : Nat := 290
def math_bits_Mul64 : Nat := 291
def runtime_boundsError_Error : Nat := 292
def runtime_boundsError_RuntimeError : Nat := 293
def runtime_errorString_Error : Nat := 294
def runtime_errorString_RuntimeError : Nat := 295
def runtime_plainError_Error : Nat := 296
def runtime_plainError_RuntimeError : Nat := 297
def runtime_errorAddressString_Error : Nat := 298
def runtime_errorAddressString_RuntimeError : Nat := 299
def runtime_TypeAssertionError_Error : Nat := 300
def runtime_TypeAssertionError_RuntimeError : Nat := 301
def runtime_PanicNilError_Error : Nat := 302
def runtime_PanicNilError_RuntimeError : Nat := 303
def internal_abi_Type_Align : Nat := 304
def internal_runtime_maps_unhashableTypeError_Error : Nat := 305
def internal_runtime_maps_unhashableTypeError_RuntimeError : Nat := 306
def impl_World_copied : Nat := 307
def impl_Style_flags : Nat := 308
def impl_Client_copied : Nat := 309
def internal_abi_Kind_String : Nat := 310
end fn
namespace ty
def internal_abi_BoundsErrorCode : Nat := 6
def runtime_boundsError : Nat := 8
def runtime_errorString : Nat := 10
def runtime_plainError : Nat := 11
def runtime_errorAddressString : Nat := 14
def internal_runtime_maps_unhashableTypeError : Nat := 19
def laws_Chain : Nat := 26
def impl_Chain : Nat := 30
def impl_Server : Nat := 48
def impl_Window : Nat := 57
def impl_World : Nat := 68
def laws_Window : Nat := 74
def laws_Parser : Nat := 80
def impl_Parser : Nat := 82
def laws_Grid : Nat := 99
def laws_Style : Nat := 101
def impl_Grid : Nat := 105
def impl_Style : Nat := 108
def impl_Client : Nat := 155
def impl_Action : Nat := 167
def laws_Server : Nat := 184
def spec_l1Cur : Nat := 192
def impl_Datagram : Nat := 211
def impl_Cell : Nat := 227
def slices_sortedHint : Nat := 237
def laws_Cell : Nat := 253
def slices_xorshift : Nat := 260
def runtime_TypeAssertionError : Nat := 283
def runtime_PanicNilError : Nat := 286
def internal_abi_TFlag : Nat := 288
def internal_abi_Kind : Nat := 289
def internal_abi_NameOff : Nat := 292
def internal_abi_TypeOff : Nat := 293
def internal_abi_Type : Nat := 295
end ty
noncomputable abbrev PP : Program := Try.prog
def extOf (f : FuncId) : Option (List GV → Option GV) := none
def cfg : Cfg := ⟨fun f => [19, 55, 60, 68, 69, 76, 83, 98, 103, 106, 110, 111, 112, 122, 123, 124, 125, 126, 127, 129, 130, 132, 133, 135, 136, 137, 146, 147, 157, 158, 159, 165, 173, 177, 179, 181, 185, 194, 195, 196, 199, 203, 209, 210, 220, 221, 226, 236, 239, 242, 259, 260, 261, 263, 264, 272].any (Nat.beq f), extOf, fun f => [235, 145, 117].any (Nat.beq f), fun f => [258, 29, 24, 193, 81, 31, 17, 237, 176, 36, 153, 215, 53, 74, 225, 30, 65, 28, 45, 86, 102, 167, 231, 174, 16, 79, 73, 101, 64, 191, 99, 192, 100, 58, 235, 145, 117, 282, 151, 97, 121, 152, 230, 172, 214, 166, 219].any (Nat.beq f)⟩
theorem cfg_xr : XReach cfg := fun f e xs v h1 h2 => by
  replace h1 : extOf f = some e := h1
  unfold extOf at h1
  cases h1
instance : XR cfg := ⟨cfg_xr⟩
noncomputable def NN : NCall := nω PP cfg
noncomputable def HH : HCall := kω PP cfg
noncomputable def OO : FuncId → List GV → Nat → Option (GV × List (List GV)) := oω PP cfg
noncomputable def KC {R : Type} (k nt : Nat) (c : Code) (σ : GS) (h : Heap) (K : GX → GS → Heap → Option R) : Option R := kcode PP cfg NN HH k nt c σ h K
noncomputable def kval {R : Type} (f : GV) (args : List GV) (h : Heap) (K : GV → Heap → Option R) : Option R := match f with | .fn g caps => kcallee PP cfg NN HH g (args ++ caps) h K | _ => none
section
variable {R : Type} {k nt : Nat} {c a b : Code} {σ : GS} {h : Heap} {K : GX → GS → Heap → Option R}
theorem kseq {B : GS → Heap → Option R} (hc : c = .seq a b) (hb : ∀ σ h, KC k nt b σ h K = B σ h) :
    KC k nt c σ h K = KC k nt a σ h (fun x σ h => kx x (B σ h) (K x σ h)) := kseq_eq hc hb
theorem kcond_eq {v : GV} {o : Operand} (hc : c = .cond o a b) (hv : eval σ o = some v) : KC k nt c σ h K = kcond v (KC k nt a σ h K) (KC k nt b σ h K) := kcondP_eq hc hv
theorem kblock_eq {id : Nat} (hc : c = .block id a) : KC k nt c σ h K = KC k nt a σ h (fun x σ h => kb id x fun x => K x σ h) := kblockP_eq hc
theorem kloop_eq {B : GS → Heap → Option R} {r : Nat} (hb : ∀ σ h, kloop (fun σ h K => KC k nt a σ h K) r σ h K = B σ h) :
    kloop (fun σ h K => KC k nt a σ h K) (r + 1) σ h K = KC k nt a σ h (fun x σ h => kx x (B σ h) (K x σ h)) := kloop_eqP hb
theorem kloopc_eq (hc : c = .loop a) : KC k nt c σ h K = kloop (fun σ h K => KC k nt a σ h K) k σ h K := by subst hc; rfl
theorem kregion_eq {id : Nat} {ops : Array Oper} {draw : Bool} {gs : List (Option (Nat × Bool) × List Nat)} (hc : c = .region id ops draw) (hg : grp ops (List.range ops.size) = gs) (hk : (grpOk ops gs && (!draw || statOk cfg ops)) = true) :
    KC k nt c σ h K = kgroups PP cfg NN HH nt ops gs σ h (fun σ h => K .nrm σ h) := kregionP_eq hc hg hk
theorem kregionD_eq {id : Nat} {ops : Array Oper} {draw : Bool} {gs : List (Option (Nat × Bool) × List Nat)} {bad : List (Nat × Nat)} (hc : c = .region id ops draw) (hg : grp ops (List.range ops.size) = gs) (hs : (grpOk ops gs && (!draw || statOk cfg ops)) = false) (hk : (grpOk ops gs && dynOk cfg ops) = true) (hb : badOf cfg ops = bad) :
    KC k nt c σ h K = kgroupsD PP cfg NN HH nt ops bad gs [] σ h (fun rs σ h => bif chk bad rs then K .nrm σ h else none) := kregionPD_eq hc hg hs hk hb
theorem kfun_eq {f : FuncId} {args : List GV} {fn : Func} {fin : GV → Heap → Option R} {G : GX → GS → Heap → Option R} (hf : PP.funcs[f]? = some fn) (hb : fn.body = some c) (hn : max args.length fn.ntmps = nt)
    (hG : ∀ x σ h, (match x with | .ext _ => none | _ => kres PP σ h fn.results.toList [] fun v => fin v h) = G x σ h) :
    kfun PP cfg NN HH k f args h fin = KC k nt c (fun t => args.getD t .un) h G := kfunP_eq hf hb hn hG
end
end Go.Proofs.Ytlbnioapepelnaa.G

namespace Go.Proofs.Ytlbnioapepelnaa.G
open Go.RowKit
set_option linter.unusedVariables false
set_option linter.unusedSimpArgs false

/-- An element of a slice: place j of what a list is told by. -/
def elp {α : Type} (t : Bool) (mk : α → List GV) (xs : List α) (j : Nat) : GV := .fp t ((xs.drop j).flatMap mk)
/-- A field of it. -/
def elf {α : Type} (t : Bool) (mk : α → List GV) (xs : List α) (j off : Nat) : GV := .fp t (((xs.drop j).flatMap mk).drop off)

abbrev ci (n : Int) : List GV := [.int .i64 n]
abbrev cs (s : ByteArray) : List GV := [.str s]

theorem drop_flat {α : Type} {mk : α → List GV} {es : Nat} (hm : ∀ a, (mk a).length = es) : ∀ (xs : List α) (j : Nat), (xs.flatMap mk).drop (j * es) = (xs.drop j).flatMap mk
  | xs, 0 => by simp
  | [], j + 1 => by simp
  | x :: xs, j + 1 => by
    rw [List.flatMap_cons, List.drop_succ_cons, ← drop_flat hm xs j, List.drop_append, hm]
    rw [List.drop_of_length_le (by rw [hm, Nat.add_mul]; omega)]
    rw [show (j + 1) * es - es = j * es by rw [Nat.add_mul]; omega]
    rfl
theorem len_flat {α : Type} {mk : α → List GV} {es : Nat} (hm : ∀ a, (mk a).length = es) (xs : List α) : (xs.flatMap mk).length = xs.length * es := flat_len hm xs

theorem fzl_ne {α : Type} {t : Bool} {es : Nat} {mk : α → List GV} {xs : List α} (h : 0 < xs.length) : fzl t es mk xs = .fz t xs.length es (xs.flatMap mk) := by
  cases xs with
  | nil => simp at h
  | cons x xs => rfl
@[simp] theorem fzl_nil {α : Type} {t : Bool} {es : Nat} {mk : α → List GV} : fzl t es mk [] = mt := rfl

@[simp] theorem klen_fzl {α : Type} {t : Bool} {es : Nat} {mk : α → List GV} {xs : List α} : klen (fzl t es mk xs) = some (.int .i64 xs.length) := by
  cases xs <;> rfl
@[simp] theorem klen_mt : klen mt = some (.int .i64 0) := rfl

theorem kia_fzl {α : Type} {t : Bool} {es : Nat} {mk : α → List GV} (hm : ∀ a, (mk a).length = es) {xs : List α} {k : IntKind} {i : Int} :
    kia es (fzl t es mk xs) (.int k i) = if 0 ≤ i ∧ i < xs.length then some (elp t mk xs i.toNat) else none := by
  cases xs with
  | nil =>
    have h1 : ¬(es = 0 ∧ 0 ≤ i ∧ i < (0 : Nat)) := by omega
    have h2 : ¬(0 ≤ i ∧ i < (([] : List α).length : Nat)) := by simp
    rw [if_neg h2]
    simp only [fzl, mt, kia, kint, Option.bind_some]
    rw [if_neg h1]
  | cons x xs =>
    rw [fzl_ne (by simp)]
    simp only [kia, kint, Option.bind_some, true_and]
    rw [drop_flat hm]
    rfl

@[simp] theorem kload1_ci {h : Heap} {t : Bool} {xs : List Int} {j : Nat} : kload1 h (elp t ci xs j) = xs[j]?.map (GV.int .i64) := by
  unfold kload1 elp kread
  cases hx : xs.drop j with
  | nil =>
    have : xs.length ≤ j := by simpa using hx
    simp [List.getElem?_eq_none this]
  | cons y ys =>
    have : xs[j]? = some y := by
      have := congrArg (·[0]?) hx
      simpa using this
    simp [this, one]
@[simp] theorem kload1_cs {h : Heap} {t : Bool} {xs : List ByteArray} {j : Nat} : kload1 h (elp t cs xs j) = xs[j]?.map GV.str := by
  unfold kload1 elp kread
  cases hx : xs.drop j with
  | nil =>
    have : xs.length ≤ j := by simpa using hx
    simp [List.getElem?_eq_none this]
  | cons y ys =>
    have : xs[j]? = some y := by
      have := congrArg (·[0]?) hx
      simpa using this
    simp [this, one]

/-! The machine's words. -/
attribute [simp] kx.eq_1 kx.eq_2
@[simp] theorem kx_nrm {R : Type} {a b : Option R} : kx .nrm a b = a := rfl
@[simp] theorem kx_ret {R : Type} {a b : Option R} : kx .ret a b = b := rfl
@[simp] theorem kx_ext {R : Type} {i : Nat} {a b : Option R} : kx (.ext i) a b = b := rfl
@[simp] theorem kb_nrm {R : Type} {i : Nat} {K : GX → Option R} : kb i .nrm K = K .nrm := rfl
@[simp] theorem kb_ret {R : Type} {i : Nat} {K : GX → Option R} : kb i .ret K = K .ret := rfl
@[simp] theorem kb_ext {R : Type} {i j : Nat} {K : GX → Option R} : kb i (.ext j) K = bif Nat.beq j i then K .nrm else K (.ext j) := rfl
@[simp] theorem kend_nrm {R : Type} {a : Option R} : kend .nrm a = a := rfl
@[simp] theorem kend_ret {R : Type} {a : Option R} : kend .ret a = a := rfl
@[simp] theorem kend_ext {R : Type} {i : Nat} {a : Option R} : kend (.ext i) a = none := rfl
@[simp] theorem kcond_bool {R : Type} {b : Bool} {x y : Option R} : kcond (.bool b) x y = bif b then x else y := rfl
@[simp] theorem tr_bool {w b : Bool} : tr w (.bool b) = (b == w) := rfl
@[simp] theorem tr_un {w : Bool} : tr w .un = false := rfl
@[simp] theorem kpick_bool {b : Bool} {x y : GV} : kpick (.bool b) x y = some (bif b then x else y) := rfl
@[simp] theorem kun_not {b : Bool} : kun .not (.bool b) = some (.bool !b) := rfl
@[simp] theorem kun_neg {k : IntKind} {n : Int} : kun .neg (.int k n) = some (.int k (k.wrap (0 - n))) := rfl
@[simp] theorem kr_mk {R : Type} {v : GV} {h : Heap} {K : GV → Heap → Option R} : kr (v, h) K = K v h := rfl
@[simp] theorem kfa_ptr {off i o tot : Nat} : kfa off (.ptr i o tot) = some (.ptr i (o + off) tot) := rfl
@[simp] theorem kfa_elp {α : Type} {t : Bool} {mk : α → List GV} {xs : List α} {j off : Nat} : kfa off (elp t mk xs j) = some (elf t mk xs j off) := rfl
@[simp] theorem kcs_agg {cs : List GV} : kcs (.agg cs) = some cs := rfl
@[simp] theorem kxt_tup {vs : List GV} {i : Nat} : kxt i (.tup vs) = vs[i]? := rfl
@[simp] theorem kint_int {k : IntKind} {n : Int} : kint (.int k n) = some n := rfl
@[simp] theorem kstr_str {s : ByteArray} : kstr (.str s) = some s := rfl
@[simp] theorem klenS_str {s : ByteArray} : klenS (.str s) = some (.int .i64 s.size) := rfl
@[simp] theorem gmin_int {k k' : IntKind} {x y : Int} : gmin (.int k x) (.int k' y) = some (.int k (if y < x then y else x)) := rfl
@[simp] theorem gmax_int {k k' : IntKind} {x y : Int} : gmax (.int k x) (.int k' y) = some (.int k (if y > x then y else x)) := rfl
@[simp] theorem kconvI_int {k k' : IntKind} {n : Int} : kconvI k (.int k' n) = some (.int k (k.wrap n)) := rfl

@[simp] theorem kbin_add {k : IntKind} {a b : Int} : kbin .add (.int k a) (.int k b) = some (.int k (k.wrap (a + b))) := by simp [kbin]
@[simp] theorem kbin_sub {k : IntKind} {a b : Int} : kbin .sub (.int k a) (.int k b) = some (.int k (k.wrap (a - b))) := by simp [kbin]
@[simp] theorem kbin_mul {k : IntKind} {a b : Int} : kbin .mul (.int k a) (.int k b) = some (.int k (k.wrap (a * b))) := by simp [kbin]
@[simp] theorem kbin_eql {k : IntKind} {a b : Int} : kbin .eql (.int k a) (.int k b) = some (.bool (decide (a = b))) := by
  simp only [kbin, if_true, Option.some.injEq, GV.bool.injEq]; rw [Bool.eq_iff_iff]; simp
@[simp] theorem kbin_neq {k : IntKind} {a b : Int} : kbin .neq (.int k a) (.int k b) = some (.bool (decide (a ≠ b))) := by
  simp only [kbin, if_true, Option.some.injEq, GV.bool.injEq]; rw [Bool.eq_iff_iff]; simp
@[simp] theorem kbin_lss {k : IntKind} {a b : Int} : kbin .lss (.int k a) (.int k b) = some (.bool (decide (a < b))) := by simp [kbin, ilt_eq]
@[simp] theorem kbin_leq {k : IntKind} {a b : Int} : kbin .leq (.int k a) (.int k b) = some (.bool (decide (a ≤ b))) := by
  simp only [kbin, if_true, Option.some.injEq, GV.bool.injEq, ilt_eq]; rw [Bool.eq_iff_iff]; simp
@[simp] theorem kbin_gtr {k : IntKind} {a b : Int} : kbin .gtr (.int k a) (.int k b) = some (.bool (decide (b < a))) := by simp [kbin, ilt_eq]
@[simp] theorem kbin_geq {k : IntKind} {a b : Int} : kbin .geq (.int k a) (.int k b) = some (.bool (decide (b ≤ a))) := by
  simp only [kbin, if_true, Option.some.injEq, GV.bool.injEq, ilt_eq]; rw [Bool.eq_iff_iff]; simp
theorem kbin_quo {k : IntKind} {a b : Int} (h : b ≠ 0) : kbin .quo (.int k a) (.int k b) = some (.int k (k.wrap (a.tdiv b))) := by simp [kbin, h]
theorem kbin_rem {k : IntKind} {a b : Int} (h : b ≠ 0) : kbin .rem (.int k a) (.int k b) = some (.int k (a.tmod b)) := by simp [kbin, h]
@[simp] theorem kbin_seql {a b : ByteArray} : kbin .eql (.str a) (.str b) = some (.bool (decide (a = b))) := by
  simp only [kbin, Option.some.injEq, GV.bool.injEq]; rw [Bool.eq_iff_iff]
  simp only [beq_iff_eq, decide_eq_true_eq]
  constructor
  · intro h; exact ByteArray.ext (by rw [ByteArray.toList_eq, ByteArray.toList_eq] at h; exact Array.toList_inj.1 h)
  · rintro rfl; rfl
@[simp] theorem kbin_sneq {a b : ByteArray} : kbin .neq (.str a) (.str b) = some (.bool (decide (a ≠ b))) := by
  have := @kbin_seql a b
  simp only [kbin, Option.some.injEq, GV.bool.injEq] at this ⊢
  rw [this]
  simp
theorem kbin_sadd {a b : ByteArray} (h : a.size + b.size ≤ maxLen) : kbin .add (.str a) (.str b) = some (.str (a ++ b)) := by simp [kbin, h]
@[simp] theorem keqB_eql {a b : Bool} : keqB .eql (.bool a) (.bool b) = some (.bool (a == b)) := rfl
@[simp] theorem keqB_neq {a b : Bool} : keqB .neq (.bool a) (.bool b) = some (.bool !(a == b)) := rfl

/-- Numbers that fit. -/
theorem wrap_id {n : Int} (h : -9223372036854775808 ≤ n) (h' : n ≤ 9223372036854775807) : IntKind.i64.wrap n = n := by
  simp [IntKind.wrap, IntKind.bits, IntKind.signed]
  omega

/-! Memory. -/
@[simp] theorem kalloc_eq {R : Type} {z : List GV} {h : Heap} {K : GV → Heap → Option R} : kalloc z h K = K (.ptr h.length 0 z.length) (h ++ [z]) := rfl
@[simp] theorem kbox_agg {R : Type} {cs : List GV} {h : Heap} {K : GV → Heap → Option R} : kbox (.agg cs) h K = K (.ptr h.length 0 cs.length) (h ++ [cs]) := rfl
@[simp] theorem kagg_eq {R : Type} {cs : List GV} {h : Heap} {K : GV → Heap → Option R} : kagg cs h K = K (.agg cs) h := rfl
@[simp] theorem kst_eq {R : Type} {s : ByteArray} {K : GV → Option R} : kst s K = K (.str s) := rfl

@[simp] theorem kload1_ptr {h : Heap} {i off tot : Nat} : kload1 h (.ptr i off tot) = (cellsAt h i tot).bind fun cs => cs[off]? := by
  unfold kload1 kread
  simp only
  cases cellsAt h i tot with
  | none => rfl
  | some cs =>
    simp only [Option.bind_some]
    rcases Nat.lt_or_ge off cs.length with h1 | h1
    · rw [if_pos (by omega)]
      simp only [Option.bind_some]
      rw [List.drop_eq_getElem_cons h1, List.take_succ_cons, List.take_zero, List.getElem?_eq_getElem h1]
      rfl
    · rw [if_neg (by omega), List.getElem?_eq_none h1]; rfl
@[simp] theorem kloadA_ptr {h : Heap} {n i off tot : Nat} : kloadA n h (.ptr i off tot) = (cellsAt h i tot).bind fun cs => if off + n ≤ cs.length then some (.agg ((cs.drop off).take n)) else none := by
  unfold kloadA kread
  simp only
  cases cellsAt h i tot with
  | none => rfl
  | some cs =>
    simp only [Option.bind_some]
    by_cases h1 : off + n ≤ cs.length <;> simp [h1]
@[simp] theorem cellsAt_if {h : Heap} {i tot : Nat} : cellsAt h i tot = (h[i]?).bind fun cs => if cs.length = tot then some cs else none := by
  unfold cellsAt
  cases h[i]? with
  | none => rfl
  | some cs =>
    simp only [Option.bind_some]
    by_cases h1 : cs.length = tot
    · simp [h1]
    · have : Nat.beq cs.length tot = false := by
        cases hb : Nat.beq cs.length tot with
        | false => rfl
        | true => exact absurd (Nat.eq_of_beq_eq_true hb) h1
      simp [this, h1]
@[simp] theorem kstore_ptr {h : Heap} {n i off tot : Nat} {v : GV} : kstore n h (.ptr i off tot) v = if v.cells.length = n ∧ v.cells.all GV.isCell = true then (cellsAt h i tot).bind fun cs => if off + n ≤ cs.length then some (h.set i (splice cs off v.cells)) else none else none := rfl
@[simp] theorem cells_int {k : IntKind} {n : Int} : (GV.int k n).cells = [.int k n] := rfl
@[simp] theorem cells_bool {n : Bool} : (GV.bool n).cells = [.bool n] := rfl
@[simp] theorem cells_str {n : ByteArray} : (GV.str n).cells = [.str n] := rfl
@[simp] theorem cells_agg {n : List GV} : (GV.agg n).cells = n := rfl
@[simp] theorem cells_nils : GV.nils.cells = [.nils] := rfl
@[simp] theorem cells_emp : GV.emp.cells = [.emp] := rfl
@[simp] theorem cells_mt : mt.cells = [mt] := rfl
@[simp] theorem cells_ptr {a b c : Nat} : (GV.ptr a b c).cells = [.ptr a b c] := rfl
@[simp] theorem cells_sl {a b c d e : Nat} : (GV.sl a b c d e).cells = [.sl a b c d e] := rfl
@[simp] theorem cells_fzl {α : Type} {t : Bool} {es : Nat} {mk : α → List GV} {xs : List α} : (fzl t es mk xs).cells = [fzl t es mk xs] := by cases xs <;> rfl
@[simp] theorem isCell_int {k : IntKind} {n : Int} : (GV.int k n).isCell = true := rfl
@[simp] theorem isCell_bool {n : Bool} : (GV.bool n).isCell = true := rfl
@[simp] theorem isCell_str {n : ByteArray} : (GV.str n).isCell = true := rfl
@[simp] theorem isCell_nils : GV.nils.isCell = true := rfl
@[simp] theorem isCell_emp : GV.emp.isCell = true := rfl
@[simp] theorem isCell_mt : mt.isCell = true := rfl
@[simp] theorem isCell_ptr {a b c : Nat} : (GV.ptr a b c).isCell = true := rfl
@[simp] theorem isCell_sl {a b c d e : Nat} : (GV.sl a b c d e).isCell = true := rfl
@[simp] theorem isCell_fzl {α : Type} {t : Bool} {es : Nat} {mk : α → List GV} {xs : List α} : (fzl t es mk xs).isCell = true := by cases xs <;> rfl
attribute [simp] splice
@[simp] theorem kN_eq {N : NCall} {f : FuncId} {args : List GV} {h : Heap} : kN N f args h = (bors h args).bind fun xs => N f xs := rfl

/-- A function that keeps nothing: its answer does not hang on the heap. -/
@[simp] theorem finN_int {k : IntKind} {n : Int} {h : Heap} : finN (.int k n) h = some (.int k n) := rfl
@[simp] theorem finN_bool {b : Bool} {h : Heap} : finN (.bool b) h = some (.bool b) := rfl
@[simp] theorem finN_str {b : ByteArray} {h : Heap} : finN (.str b) h = some (.str b) := rfl

@[simp] theorem bors_nil {h : Heap} : bors h [] = some [] := rfl
@[simp] theorem bors_cons {h : Heap} {g : GV} {gs : List GV} : bors h (g :: gs) = (bor 9 h g).bind fun x => (bors h gs).bind fun xs => some (x.1 :: xs) := rfl
@[simp] theorem bor_int {d : Nat} {h : Heap} {k : IntKind} {n : Int} : bor (d + 1) h (.int k n) = some (.int k n, []) := rfl
@[simp] theorem bor_bool {d : Nat} {h : Heap} {n : Bool} : bor (d + 1) h (.bool n) = some (.bool n, []) := rfl
@[simp] theorem bor_str {d : Nat} {h : Heap} {n : ByteArray} : bor (d + 1) h (.str n) = some (.str n, []) := rfl
@[simp] theorem bor_mt {d : Nat} {h : Heap} : bor (d + 1) h mt = some (mt, []) := rfl
@[simp] theorem lend_int {d : Nat} {k : IntKind} {n : Int} : lend d (.int k n) = .int k n := by cases d <;> rfl
@[simp] theorem lend_bool {d : Nat} {n : Bool} : lend d (.bool n) = .bool n := by cases d <;> rfl
@[simp] theorem lend_str {d : Nat} {n : ByteArray} : lend d (.str n) = .str n := by cases d <;> rfl
theorem lend_map {α : Type} {d : Nat} {mk mk' : α → List GV} (hm : ∀ a, (mk a).map (lend d) = mk' a) (xs : List α) : (xs.flatMap mk).map (lend d) = xs.flatMap mk' := by
  induction xs with
  | nil => rfl
  | cons x xs ih => rw [List.flatMap_cons, List.flatMap_cons, List.map_append, ih, hm]
/-- Lending a slice whose elements are told in two ways. -/
theorem lend_fzl {α : Type} {d es : Nat} {t : Bool} {mk mk' : α → List GV} (hm : ∀ a, (mk a).map (lend d) = mk' a) (xs : List α) : lend (d + 1) (fzl t es mk xs) = fzl true es mk' xs := by
  cases xs with
  | nil => rfl
  | cons x xs =>
    simp only [fzl, lend]
    rw [lend_map hm]
theorem bor_fzl {α : Type} {d es : Nat} {h : Heap} {t : Bool} {mk mk' : α → List GV} (hm : ∀ a, (mk a).map (lend d) = mk' a) (xs : List α) : bor (d + 1) h (fzl t es mk xs) = some (fzl true es mk' xs, []) := by
  rw [← lend_fzl (t := t) (es := es) hm xs]
  cases xs <;> rfl
@[simp] theorem bor_ci {d : Nat} {h : Heap} {t : Bool} {xs : List Int} : bor (d + 2) h (fzl t 1 ci xs) = some (fzl true 1 ci xs, []) := bor_fzl (fun a => rfl) xs
@[simp] theorem bor_cs {d : Nat} {h : Heap} {t : Bool} {xs : List ByteArray} : bor (d + 2) h (fzl t 1 cs xs) = some (fzl true 1 cs xs, []) := bor_fzl (fun a => rfl) xs
@[simp] theorem kia_ci {t : Bool} {xs : List Int} {k : IntKind} {i : Int} : kia 1 (fzl t 1 ci xs) (.int k i) = if 0 ≤ i ∧ i < xs.length then some (elp t ci xs i.toNat) else none := kia_fzl (es := 1) (fun _ => rfl)
@[simp] theorem kia_cs {t : Bool} {xs : List ByteArray} {k : IntKind} {i : Int} : kia 1 (fzl t 1 cs xs) (.int k i) = if 0 ≤ i ∧ i < xs.length then some (elp t cs xs i.toNat) else none := kia_fzl (es := 1) (fun _ => rfl)

end Go.Proofs.Ytlbnioapepelnaa.G

namespace Go.Proofs.Ytlbnioapepelnaa.G
open Go.RowKit
set_option linter.unusedVariables false
set_option linter.unusedSimpArgs false

open Classical in
/-- A loop over places j to n that leaves by B at the first place that is not right, else by A. -/
theorem loop_all {R : Type} {P : Nat → Prop} {n : Nat} {f : Nat → Nat → R} {A B : R} (h1 : ∀ j r, j < n → f (r + 1) j = if P j then f r (j + 1) else B) (h2 : ∀ r, f (r + 1) n = A) :
    ∀ r j, n - j < r → j ≤ n → f r j = if (∀ i, j ≤ i → i < n → P i) then A else B := by
  intro r
  induction r with
  | zero => intro j h; omega
  | succ r ih =>
    intro j hr hj
    rcases Nat.lt_or_ge j n with h | h
    · rw [h1 j r h]
      by_cases hp : P j
      · rw [if_pos hp, ih (j + 1) (by omega) (by omega)]
        have : (∀ i, j + 1 ≤ i → i < n → P i) ↔ (∀ i, j ≤ i → i < n → P i) := by
          constructor
          · intro h i hi hin
            rcases Nat.eq_or_lt_of_le hi with rfl | hi
            · exact hp
            · exact h i hi hin
          · intro h i hi; exact h i (by omega)
        simp only [this]
      · rw [if_neg hp, if_neg (fun h' => hp (h' j (Nat.le_refl j) h))]
    · have : j = n := by omega
      subst this
      rw [h2 r, if_pos (fun i h1 h2 => by omega)]

/-- A loop over places that gathers. -/
theorem loop_fold {R S : Type} {n : Nat} {f : Nat → Nat → S → R} {g : Nat → S → S} {A : S → R} (h1 : ∀ j r s, j < n → f (r + 1) j s = f r (j + 1) (g j s)) (h2 : ∀ r s, f (r + 1) n s = A s) :
    ∀ r j s, n - j < r → j ≤ n → f r j s = A ((List.range' j (n - j)).foldl (fun s i => g i s) s) := by
  intro r
  induction r with
  | zero => intro j s h; omega
  | succ r ih =>
    intro j s hr hj
    rcases Nat.lt_or_ge j n with h | h
    · rw [h1 j r s h, ih (j + 1) _ (by omega) (by omega)]
      rw [show n - j = (n - (j + 1)) + 1 by omega, List.range'_succ, List.foldl_cons]
    · have : j = n := by omega
      subst this
      rw [h2 r]
      simp

/-- A loop that goes over all places. -/
theorem loop_to {R : Type} {n : Nat} {f : Nat → Nat → R} {A : R} (h1 : ∀ j r, j < n → f (r + 1) j = f r (j + 1)) (h2 : ∀ r, f (r + 1) n = A) : ∀ r j, n - j < r → j ≤ n → f r j = A := by
  intro r
  induction r with
  | zero => intro j h; omega
  | succ r ih =>
    intro j hr hj
    rcases Nat.lt_or_ge j n with h | h
    · rw [h1 j r h, ih (j + 1) (by omega) (by omega)]
    · have : j = n := by omega
      subst this
      exact h2 r

/-- The cells of a slice of which the first j places are filled. -/
def fill {α : Type} (mk : α → List GV) (z : List GV) (xs : List α) (j : Nat) : List GV := (xs.take j).flatMap mk ++ zeros z (xs.length - j)
theorem zeros_len' (z : List GV) (n : Nat) : (zeros z n).length = n * z.length := by
  induction n with
  | zero => simp [zeros]
  | succ n ih => simp [zeros, ih, Nat.add_mul]; omega
@[simp] theorem fill_zero {α : Type} {mk : α → List GV} {z : List GV} {xs : List α} : fill mk z xs 0 = zeros z xs.length := by simp [fill]
@[simp] theorem fill_all {α : Type} {mk : α → List GV} {z : List GV} {xs : List α} : fill mk z xs xs.length = xs.flatMap mk := by simp [fill, zeros]
theorem fill_len {α : Type} {mk : α → List GV} {z : List GV} {es : Nat} (hm : ∀ a, (mk a).length = es) (hz : z.length = es) (xs : List α) (j : Nat) (hj : j ≤ xs.length) : (fill mk z xs j).length = xs.length * es := by
  unfold fill
  rw [List.length_append, len_flat hm, zeros_len', hz, List.length_take, Nat.min_eq_left hj, ← Nat.add_mul]
  congr 1; omega
/-- The next place is filled. -/
theorem fill_step {α : Type} {mk : α → List GV} {z : List GV} {es : Nat} (hm : ∀ a, (mk a).length = es) (hz : z.length = es) (xs : List α) (j : Nat) (hj : j < xs.length) :
    splice (fill mk z xs j) (j * es) (mk xs[j]) = fill mk z xs (j + 1) := by
  have hl : ((xs.take j).flatMap mk).length = j * es := by rw [len_flat hm, List.length_take, Nat.min_eq_left (by omega)]
  unfold splice fill
  rw [List.take_append_of_le_length (by omega), List.take_of_length_le (by omega), List.drop_append, List.drop_of_length_le (by omega), hl, hm]
  rw [show j * es + es - j * es = es by omega, List.nil_append]
  rw [show xs.length - j = (xs.length - (j + 1)) + 1 by omega]
  simp only [zeros]
  rw [List.drop_append, List.drop_of_length_le (by omega), hz, Nat.sub_self, List.drop_zero, List.nil_append]
  have e : xs.take (j + 1) = xs.take j ++ [xs[j]] := by rw [List.take_add_one, List.getElem?_eq_getElem hj]; rfl
  rw [e, List.flatMap_append, List.flatMap_singleton, List.append_assoc]

@[simp] theorem kia_sl {es b off len cap es' : Nat} {k : IntKind} {i : Int} : kia es (.sl b off len cap es') (.int k i) = if es = es' ∧ 0 ≤ i ∧ i < len then some (.ptr b (off + i.toNat * es) (off + cap * es)) else none := rfl
@[simp] theorem klen_sl {b off len cap es : Nat} : klen (.sl b off len cap es) = some (.int .i64 len) := rfl

/-- What is handed back of cells. -/
def Frz (d : Nat) (h : Heap) (cs cs' : List GV) : Prop := ∃ ys, cs.mapM (frz d h) = some ys ∧ ys.map (·.1) = cs'
theorem Frz.nil {d : Nat} {h : Heap} : Frz d h [] [] := ⟨[], rfl, rfl⟩
theorem Frz.cons {d : Nat} {h : Heap} {g g' : GV} {r : List Nat} {cs cs' : List GV} (hg : frz d h g = some (g', r)) (hc : Frz d h cs cs') : Frz d h (g :: cs) (g' :: cs') := by
  obtain ⟨ys, h1, h2⟩ := hc
  exact ⟨(g', r) :: ys, by simp [List.mapM_cons, hg, h1], by simp [h2]⟩
theorem mapM_append' {α β : Type} {f : α → Option β} {l1 l2 : List α} {r1 r2 : List β} (h1 : l1.mapM f = some r1) (h2 : l2.mapM f = some r2) : (l1 ++ l2).mapM f = some (r1 ++ r2) := by
  simp [List.mapM_append, h1, h2]
theorem Frz.append {d : Nat} {h : Heap} {a a' b b' : List GV} (h1 : Frz d h a a') (h2 : Frz d h b b') : Frz d h (a ++ b) (a' ++ b') := by
  obtain ⟨ys, e1, e2⟩ := h1
  obtain ⟨zs, e3, e4⟩ := h2
  exact ⟨ys ++ zs, mapM_append' e1 e3, by simp [e2, e4]⟩
theorem Frz.flat {α : Type} {d : Nat} {h : Heap} {mk mk' : α → List GV} {xs : List α} (hf : ∀ a ∈ xs, Frz d h (mk a) (mk' a)) : Frz d h (xs.flatMap mk) (xs.flatMap mk') := by
  induction xs with
  | nil => exact .nil
  | cons x xs ih => exact .append (hf x (by simp)) (ih fun a ha => hf a (by simp [ha]))
@[simp] theorem frz_int {d : Nat} {h : Heap} {k : IntKind} {n : Int} : frz (d + 1) h (.int k n) = some (.int k n, []) := rfl
@[simp] theorem frz_bool {d : Nat} {h : Heap} {n : Bool} : frz (d + 1) h (.bool n) = some (.bool n, []) := rfl
@[simp] theorem frz_str {d : Nat} {h : Heap} {n : ByteArray} : frz (d + 1) h (.str n) = some (.str n, []) := rfl
@[simp] theorem frz_mt {d : Nat} {h : Heap} : frz (d + 1) h mt = some (mt, []) := rfl
@[simp] theorem frz_nils {d : Nat} {h : Heap} : frz (d + 1) h .nils = some (mt, []) := rfl
@[simp] theorem frz_emp {d : Nat} {h : Heap} : frz (d + 1) h .emp = some (mt, []) := rfl
@[simp] theorem frz_fzl {α : Type} {d es : Nat} {h : Heap} {mk : α → List GV} {xs : List α} : frz (d + 1) h (fzl false es mk xs) = some (fzl false es mk xs, []) := by cases xs <;> rfl
theorem frz_agg {d : Nat} {h : Heap} {cs cs' : List GV} (hf : Frz d h cs cs') : frz (d + 1) h (.agg cs) = some (.agg cs', []) := by
  obtain ⟨ys, h1, h2⟩ := hf
  simp [frz, h1, h2]
theorem frz_tup {d : Nat} {h : Heap} {cs cs' : List GV} (hf : Frz d h cs cs') : frz (d + 1) h (.tup cs) = some (.tup cs', []) := by
  obtain ⟨ys, h1, h2⟩ := hf
  simp [frz, h1, h2]
theorem frz_sl {α : Type} {d i cap es : Nat} {h : Heap} {mk mk' : α → List GV} {xs : List α} {rest : List GV} (hm : ∀ a, (mk a).length = es) (hh : h[i]? = some (xs.flatMap mk ++ rest)) (hr : (xs.flatMap mk ++ rest).length = cap * es) (hc : xs.length ≤ cap) (hf : ∀ a ∈ xs, Frz d h (mk a) (mk' a)) :
    frz (d + 1) h (.sl i 0 xs.length cap es) = some (fzl false es mk' xs, []) := by
  obtain ⟨ys, h1, h2⟩ := Frz.flat hf
  have hl : (xs.flatMap mk).length = xs.length * es := len_flat hm xs
  have h3 : ((xs.flatMap mk ++ rest).drop 0).take (xs.length * es) = xs.flatMap mk := by rw [List.drop_zero, List.take_append_of_le_length (by omega), List.take_of_length_le (by omega)]
  simp only [frz, Option.bind_eq_bind, cellsAt_if, hh, Option.bind_some, Nat.zero_add, hr, if_true]
  rw [h3, h1]
  simp only [Option.bind_some]
  rw [if_pos hc]
  cases xs with
  | nil => rfl
  | cons x xs => simp [fzl, h2]
theorem finN_of {v v' : GV} {h : Heap} {r : List Nat} (e : frz 9 h v = some (v', r)) : finN v h = some v' := by simp [finN, e]
theorem Frz.ci {d : Nat} {h : Heap} {n : Int} : Frz (d + 1) h (ci n) (ci n) := .cons frz_int .nil
theorem Frz.cs {d : Nat} {h : Heap} {n : ByteArray} : Frz (d + 1) h (cs n) (cs n) := .cons frz_str .nil

@[simp] theorem bor_agg {d : Nat} {h : Heap} {cs : List GV} : bor (d + 1) h (.agg cs) = (cs.mapM (bor d h)).bind fun xs => some (.agg (xs.map (·.1)), (xs.map (·.2)).flatten) := rfl
attribute [simp] List.mapM_cons List.mapM_nil Option.pure_def Option.bind_eq_bind

theorem wf_i64 {n : Int} (h : (Lit.int .i64 n).wf = true) : -9223372036854775808 ≤ n ∧ n ≤ 9223372036854775807 := by
  simp [Lit.wf, IntKind.min, IntKind.max, IntKind.bits, IntKind.signed] at h
  omega
theorem wrap_succ {n : Nat} (h : n < maxLen) : IntKind.i64.wrap ((n : Int) + 1) = (n : Int) + 1 := by
  rw [wrap_id] <;> simp only [maxLen] at h <;> omega
theorem get_of {α : Type} {xs : List α} {j : Nat} (h : j < xs.length) : xs[j]? = some xs[j] := List.getElem?_eq_getElem h

theorem list_eq_iff {α : Type} {xs ys : List α} (h : xs.length = ys.length) : (∀ (i : Nat), i < xs.length → xs[i]? = ys[i]?) ↔ xs = ys := by
  constructor
  · intro hh
    apply List.ext_getElem? 
    intro i
    rcases Nat.lt_or_ge i xs.length with h1 | h1
    · exact hh i h1
    · rw [List.getElem?_eq_none h1, List.getElem?_eq_none (by omega)]
  · rintro rfl i _; rfl

/-- A slice that was made and is filled place by place. -/
theorem splice_one {cs : List GV} {j : Nat} {v : GV} (h : j < cs.length) : splice cs j [v] = cs.set j v := by
  unfold splice
  simp [List.set_eq_take_append_cons_drop, h]
end Go.Proofs.Ytlbnioapepelnaa.G

namespace Go.Proofs.Ytlbnioapepelnaa.G
open Go.RowKit
set_option linter.unusedVariables false
set_option linter.unusedSimpArgs false

theorem drop_flat_cons {α : Type} {mk : α → List GV} {xs : List α} {j : Nat} (hj : j < xs.length) : (xs.drop j).flatMap mk = mk xs[j] ++ (xs.drop (j + 1)).flatMap mk := by
  rw [List.drop_eq_getElem_cons hj, List.flatMap_cons]

theorem kloadA_elp {α : Type} {es : Nat} {mk : α → List GV} (hm : ∀ a, (mk a).length = es) (h0 : 0 < es) {h : Heap} {t : Bool} {xs : List α} {j : Nat} : kloadA es h (elp t mk xs j) = xs[j]?.map fun a => .agg (mk a) := by
  unfold kloadA elp kread
  rcases Nat.lt_or_ge j xs.length with hj | hj
  · rw [drop_flat_cons hj, List.getElem?_eq_getElem hj]
    simp only
    rw [if_pos (by rw [List.length_append, hm]; omega), List.take_append_of_le_length (by rw [hm]; omega), List.take_of_length_le (by rw [hm]; omega)]
    rfl
  · rw [List.drop_of_length_le hj, List.getElem?_eq_none hj]
    simp only [List.flatMap_nil, List.length_nil]
    rw [if_neg (by omega)]
    rfl
theorem kload1_elf {α : Type} {es : Nat} {mk : α → List GV} (hm : ∀ a, (mk a).length = es) {h : Heap} {t : Bool} {xs : List α} {j off : Nat} (h0 : off < es) : kload1 h (elf t mk xs j off) = xs[j]?.bind fun a => (mk a)[off]? := by
  unfold kload1 elf kread
  rcases Nat.lt_or_ge j xs.length with hj | hj
  · rw [drop_flat_cons hj, List.getElem?_eq_getElem hj]
    simp only
    have hl : off < (mk xs[j]).length := by rw [hm]; exact h0
    rw [List.drop_append_of_le_length (by omega), List.drop_eq_getElem_cons hl]
    rw [if_pos (by rw [List.cons_append, List.length_cons]; omega)]
    simp only [List.cons_append, List.take_succ_cons, List.take_zero, Option.bind_some, one]
    rw [List.getElem?_eq_getElem hl]
  · rw [List.drop_of_length_le hj, List.getElem?_eq_none hj]
    simp
theorem kload1_elp {α : Type} {mk : α → List GV} (g : α → GV) (hm : ∀ a, mk a = [g a]) {h : Heap} {t : Bool} {xs : List α} {j : Nat} : kload1 h (elp t mk xs j) = xs[j]?.map g := by
  have : elp t mk xs j = elf t mk xs j 0 := rfl
  rw [this, kload1_elf (es := 1) (fun a => by rw [hm]; rfl) (by omega)]
  cases xs[j]? with
  | none => rfl
  | some a => simp [hm]

theorem map_cons' {α β : Type} {f : α → β} {a : α} {b : β} {l : List α} {m : List β} (h1 : f a = b) (h2 : l.map f = m) : (a :: l).map f = b :: m := by rw [List.map_cons, h1, h2]

/-- A loop that counts down what the elements weigh. -/
theorem loop_sz {α R : Type} {xs : List α} {c : α → Nat} {f : Nat → Nat → Int → R} {A : Int → R} {B : R}
    (h1 : ∀ j r l (hj : j < xs.length), 0 ≤ l → l ≤ 1048576 → f (r + 1) j l = if l < (c xs[j] : Int) then B else f r (j + 1) (l - c xs[j])) (h2 : ∀ r l, f (r + 1) xs.length l = A l) :
    ∀ r j l, xs.length - j < r → j ≤ xs.length → 0 ≤ l → l ≤ 1048576 → f r j l = if l < ((((xs.drop j).map c).sum : Nat) : Int) then B else A (l - (((xs.drop j).map c).sum : Nat)) := by
  intro r
  induction r with
  | zero => intro j l h; omega
  | succ r ih =>
    intro j l hr hj hl hl'
    rcases Nat.lt_or_ge j xs.length with h | h
    · rw [h1 j r l h hl hl', List.drop_eq_getElem_cons h, List.map_cons, List.sum_cons]
      by_cases hc : l < (c xs[j] : Int)
      · rw [if_pos hc, if_pos (by omega)]
      · rw [if_neg hc, ih (j + 1) _ (by omega) (by omega) (by omega) (by omega)]
        by_cases hd : l - (c xs[j] : Int) < ((((xs.drop (j + 1)).map c).sum : Nat) : Int)
        · rw [if_pos hd, if_pos (by omega)]
        · rw [if_neg hd, if_neg (by omega)]
          congr 1
          omega
    · have : j = xs.length := by omega
      subst this
      rw [h2 r]
      simp
      intro; omega
theorem sum_mem {α : Type} {c : α → Nat} {xs : List α} {a : α} (h : a ∈ xs) : c a ≤ (xs.map c).sum := by
  induction xs with
  | nil => cases h
  | cons x xs ih =>
    rw [List.map_cons, List.sum_cons]
    rcases List.mem_cons.1 h with rfl | h
    · omega
    · have := ih h; omega
theorem wrap_sub {l : Int} {n : Nat} (h : 0 ≤ l) (h' : l ≤ 1048576) (hn : n ≤ maxLen) : IntKind.i64.wrap (l - n) = l - n := by
  rw [wrap_id] <;> simp only [maxLen] at hn <;> omega
theorem kmake_eq {z : List GV} {es b n : Nat} {h : Heap} (hn : n ≤ 1048576) (hb : b ≤ 1024) (hz : z.length = es) : kmake z es b (.int .i64 n) (.int .i64 n) h = some (.sl h.length 0 n n es, h ++ [zeros z n]) := by
  have h1 : n * b ≤ 1048576 * 1024 := Nat.mul_le_mul hn hb
  simp [kmake, maxLen, roomMax, hz]
  omega
theorem dec_and {p q : Prop} [Decidable p] [Decidable q] [Decidable (p ∧ q)] : decide (p ∧ q) = (decide p && decide q) := by
  by_cases p <;> by_cases q <;> simp [*]
end Go.Proofs.Ytlbnioapepelnaa.G

namespace Go.Proofs.Ytlbnioapepelnaa.G
open Go.RowKit
set_option linter.unusedVariables false
set_option linter.unusedSimpArgs false

/-- Cells that hold no memory. -/
def Pl : GV → Bool
  | .int _ _ => true
  | .bool _ => true
  | .str _ => true
  | _ => false
theorem own_pl {d : Nat} {h : Heap} {b : Nat} : ∀ {g : GV}, Pl g = true → own (d + 1) h b g = some (g, [], [])
  | .int _ _, _ => rfl
  | .bool _, _ => rfl
  | .str _, _ => rfl
theorem ownL_pl {d : Nat} {h : Heap} : ∀ {cs : List GV} {b : Nat}, cs.all Pl = true → ownL (own (d + 1) h) b cs = some (cs, [], [])
  | [], b, _ => rfl
  | g :: gs, b, hc => by
    rw [List.all_cons, Bool.and_eq_true] at hc
    unfold ownL
    rw [own_pl hc.1]
    simp only [Option.bind_some, List.length_nil, Nat.add_zero]
    rw [ownL_pl hc.2]
    rfl
theorem own_sl_pl {d : Nat} {h : Heap} {b i len cap es : Nat} {cs : List GV} (hh : h[i]? = some cs) (hl : cs.length = cap * es) (hc : len ≤ cap) (hp : (cs.take (len * es)).all Pl = true) :
    own (d + 2) h b (.sl i 0 len cap es) = some (.sl b 0 len len es, [(i, 0, cap * es)], [cs.take (len * es)]) := by
  have e : own (d + 2) h b (.sl i 0 len cap es) = (cellsAt h i (0 + cap * es)).bind fun cs => if len ≤ cap then (ownL (own (d + 1) h) (b + 1) ((cs.drop 0).take (len * es))).bind fun q => some (.sl b 0 len len es, (i, 0, 0 + cap * es) :: q.2.1, q.1 :: q.2.2) else none := rfl
  rw [e]
  simp only [Nat.zero_add, cellsAt_if, hh, Option.bind_some, hl, if_true, List.drop_zero]
  rw [if_pos hc, ownL_pl hp]
  rfl
theorem finO_sl_pl {h : Heap} {b i len cap es : Nat} {cs : List GV} (hh : h[i]? = some cs) (hl : cs.length = cap * es) (hc : len ≤ cap) (hp : (cs.take (len * es)).all Pl = true) :
    finO b (.sl i 0 len cap es) h = some (.sl b 0 len len es, [cs.take (len * es)]) := by
  unfold finO ownOk
  simp only
  rw [own_sl_pl (d := 7) hh hl hc hp]
  rfl
@[simp] theorem finO_emp {h : Heap} {b : Nat} : finO b .emp h = some (.emp, []) := rfl
@[simp] theorem finO_nils {h : Heap} {b : Nat} : finO b .nils h = some (.nils, []) := rfl
theorem all_flat {α : Type} {p : GV → Bool} {mk : α → List GV} (hm : ∀ a, (mk a).all p = true) (xs : List α) : (xs.flatMap mk).all p = true := by
  induction xs with
  | nil => rfl
  | cons x xs ih => rw [List.flatMap_cons, List.all_append, hm, ih]; rfl

/-- What is read of a slice that is told by what it holds. -/
theorem gcells_fzl {α : Type} {h : Heap} {t : Bool} {es : Nat} {mk : α → List GV} (hm : ∀ a, (mk a).length = es) {xs : List α} : gcells h es (fzl t es mk xs) = some (xs.length, xs.flatMap mk, []) := by
  cases xs with
  | nil => rfl
  | cons x xs =>
    have hl := len_flat hm (x :: xs)
    simp only [List.length_cons] at hl
    simp only [fzl, gcells]
    simp [hl]

/-- append to no elements. -/
theorem kapp_emp {α : Type} {z : List GV} {es b : Nat} {t : Bool} {mk : α → List GV} {xs : List α} {h : Heap} (hm : ∀ a, (mk a).length = es) (hc : ∀ a, (mk a).all GV.isCell = true) (hz : z.length = es) (hb : b ≤ 1024) (hn : xs.length ≤ 4194304) :
    kapp z es b .emp (fzl t es mk xs) h = if xs.length = 0 then some (.emp, h) else some (.sl h.length 0 xs.length xs.length es, h ++ [xs.flatMap mk]) := by
  have h1 : xs.length * b ≤ 4194304 * 1024 := Nat.mul_le_mul hn hb
  unfold kapp
  rw [gcells_fzl hm]
  simp only [Option.bind_some]
  rw [if_pos ⟨all_flat hc xs, hz, by simp only [maxLen]; omega, by simp only [roomMax]; omega⟩]
theorem kapp_nils {α : Type} {z : List GV} {es b : Nat} {t : Bool} {mk : α → List GV} {xs : List α} {h : Heap} (hm : ∀ a, (mk a).length = es) (hc : ∀ a, (mk a).all GV.isCell = true) (hz : z.length = es) (hb : b ≤ 1024) (hn : xs.length ≤ 4194304) :
    kapp z es b .nils (fzl t es mk xs) h = if xs.length = 0 then some (.nils, h) else some (.sl h.length 0 xs.length xs.length es, h ++ [xs.flatMap mk]) := by
  have h1 : xs.length * b ≤ 4194304 * 1024 := Nat.mul_le_mul hn hb
  unfold kapp
  rw [gcells_fzl hm]
  simp only [Option.bind_some]
  rw [if_pos ⟨all_flat hc xs, hz, by simp only [maxLen]; omega, by simp only [roomMax]; omega⟩]
/-- append to a slice that has no more room. -/
theorem kapp_sl {α : Type} {z : List GV} {es b i n : Nat} {t : Bool} {mk : α → List GV} {ys xs : List α} {h : Heap} (hm : ∀ a, (mk a).length = es) (hc : ∀ a, (mk a).all GV.isCell = true) (hz : z.length = es) (he : 0 < es) (hb : b ≤ 1024) (hn : ys.length + xs.length ≤ 4194304)
    (hh : h[i]? = some (ys.flatMap mk)) : kapp z es b (.sl i 0 ys.length ys.length es) (fzl t es mk xs) h = some (.sl i 0 (ys ++ xs).length (ys ++ xs).length es, h.set i ((ys ++ xs).flatMap mk)) := by
  have h1 : (ys.length + xs.length) * b ≤ 4194304 * 1024 := Nat.mul_le_mul hn hb
  have h2 : xs.length * b ≤ 4194304 * 1024 := Nat.mul_le_mul (by omega) hb
  have hl := len_flat hm ys
  unfold kapp
  rw [gcells_fzl hm]
  simp only [Option.bind_some]
  rw [if_pos ⟨all_flat hc xs, hz, by simp only [maxLen]; omega, by simp only [roomMax]; omega⟩]
  simp only [Nat.zero_add, cellsAt_if, hh, Option.bind_some, hl, if_true]
  rw [if_pos ⟨trivial, Nat.le_refl _, by simp only [roomMax]; omega, by simp only [maxLen]; omega⟩]
  by_cases h0 : xs.length = 0
  · have : xs = [] := List.eq_nil_of_length_eq_zero h0
    subst this
    have hi : i < h.length := (List.getElem?_eq_some_iff.1 hh).1
    have hx : h[i] = ys.flatMap mk := by
      have := List.getElem?_eq_getElem hi
      rw [hh] at this
      exact (Option.some.inj this).symm
    have e1 : splice (ys.flatMap mk) (ys.length * es) ([] : List GV) = ys.flatMap mk := by simp [splice]
    simp [e1]
  · rw [if_neg (by omega), if_pos ⟨trivial, he⟩, List.length_append, List.flatMap_append, List.take_of_length_le (by omega)]
theorem zeros_drop {z : List GV} {es : Nat} (hz : z.length = es) : ∀ (n k : Nat), k ≤ n → (zeros z n).drop (k * es) = zeros z (n - k)
  | n, 0, _ => by simp
  | 0, k + 1, h => by omega
  | n + 1, k + 1, h => by
    rw [zeros, Nat.add_mul, Nat.one_mul, Nat.add_comm, ← List.drop_drop, ← hz, List.drop_left, hz, zeros_drop hz n k (by omega)]
    congr 1; omega
/-- append to a slice that has room. -/
theorem kapp_fill {α : Type} {z : List GV} {es b i n : Nat} {t : Bool} {mk : α → List GV} {ys xs : List α} {h : Heap} (hm : ∀ a, (mk a).length = es) (hc : ∀ a, (mk a).all GV.isCell = true) (hz : z.length = es) (hb : b ≤ 1024) (hn : n ≤ 4194304) (hf : ys.length + xs.length ≤ n)
    (hh : h[i]? = some (ys.flatMap mk ++ zeros z (n - ys.length))) : kapp z es b (.sl i 0 ys.length n es) (fzl t es mk xs) h = some (.sl i 0 (ys ++ xs).length n es, h.set i ((ys ++ xs).flatMap mk ++ zeros z (n - (ys ++ xs).length))) := by
  have h1 : (ys.length + xs.length) * b ≤ 4194304 * 1024 := Nat.mul_le_mul (by omega) hb
  have h2 : xs.length * b ≤ 4194304 * 1024 := Nat.mul_le_mul (by omega) hb
  have hl := len_flat hm ys
  have hlx := len_flat hm xs
  have hl2 : (ys.flatMap mk ++ zeros z (n - ys.length)).length = n * es := by
    rw [List.length_append, hl, zeros_len', hz, ← Nat.add_mul]; congr 1; omega
  unfold kapp
  rw [gcells_fzl hm]
  simp only [Option.bind_some]
  rw [if_pos ⟨all_flat hc xs, hz, by simp only [maxLen]; omega, by simp only [roomMax]; omega⟩]
  simp only [Nat.zero_add, cellsAt_if, hh, Option.bind_some, hl2, if_true]
  rw [if_pos ⟨trivial, by omega, by simp only [roomMax]; omega, by simp only [maxLen]; omega⟩, if_pos hf, List.length_append, List.flatMap_append]
  have e : splice (ys.flatMap mk ++ zeros z (n - ys.length)) (ys.length * es) (xs.flatMap mk) = ys.flatMap mk ++ xs.flatMap mk ++ zeros z (n - (ys.length + xs.length)) := by
    unfold splice
    rw [List.take_append_of_le_length (by omega), List.take_of_length_le (by omega), hlx, ← hl, ← List.drop_drop, List.drop_left, zeros_drop hz _ _ (by omega)]
    congr 2; omega
  rw [e]
@[simp] theorem kcap_nils : kcap .nils = some (.int .i64 0) := rfl
@[simp] theorem klen_nils : klen .nils = some (.int .i64 0) := rfl
@[simp] theorem finH_eq {v : GV} {h : Heap} : finH v h = some (v, h) := rfl
@[simp] theorem kold_eq {R : Type} {h : Heap} {K : Heap → Option R} : kold h K = K h := rfl
@[simp] theorem krs_eq {R : Type} {rs : List Rec} {K : List Rec → Option R} : krs rs K = K rs := rfl
@[simp] theorem kblk_ptr {i o t : Nat} : kblk (.ptr i o t) = [i] := rfl
@[simp] theorem kblk_sl {i o l c e : Nat} : kblk (.sl i o l c e) = [i] := rfl
@[simp] theorem kblk_elp {α : Type} {t : Bool} {mk : α → List GV} {xs : List α} {j : Nat} : kblk (elp t mk xs j) = [] := rfl
@[simp] theorem kblk_elf {α : Type} {t : Bool} {mk : α → List GV} {xs : List α} {j off : Nat} : kblk (elf t mk xs j off) = [] := rfl
@[simp] theorem kblk_fzl {α : Type} {t : Bool} {es : Nat} {mk : α → List GV} {xs : List α} : kblk (fzl t es mk xs) = [] := by cases xs <;> rfl
@[simp] theorem kblk_nils : kblk .nils = [] := rfl
@[simp] theorem kblk_emp : kblk .emp = [] := rfl
@[simp] theorem touches_same {j n : Nat} {r w : List Nat} {i : Nat} : touches ⟨j, n, n, ⟨r, w⟩⟩ i = w.contains i := by
  simp only [touches]
  cases h : Nat.ble n i && Nat.blt i n with
  | false => simp
  | true =>
    rw [Bool.and_eq_true, Nat.ble_eq, Nat.blt_eq] at h
    omega
@[simp] theorem nbeq {a b : Nat} : Nat.beq a b = decide (a = b) := by
  rw [Bool.eq_iff_iff, Nat.beq_eq]; simp
theorem get_app {α : Type} {t r : List α} {k : Nat} : (t ++ r)[t.length + k]? = r[k]? := by rw [List.getElem?_append_right (by omega)]; congr 1; omega
theorem get_app0 {α : Type} {t r : List α} : (t ++ r)[t.length]? = r[0]? := get_app (k := 0)
theorem set_app {α : Type} {t r : List α} {k : Nat} {x : α} : (t ++ r).set (t.length + k) x = t ++ r.set k x := by rw [List.set_append_right _ _ (by omega)]; congr 2; omega
theorem set_app0 {α : Type} {t r : List α} {x : α} : (t ++ r).set t.length x = t ++ r.set 0 x := set_app (k := 0)

/-- A call of a function that hands over new memory. -/
@[simp] theorem kF_OO {f : FuncId} {args : List GV} {h : Heap} : kF false HH f args h = (bors h args).bind fun xs => (OO f xs h.length).bind fun q => some (q.1, h ++ q.2) := by
  unfold kF
  congr 1
  funext xs
  simp only [Bool.false_and, cond_false]
  show _ = ((HH f xs []).bind fun r => ownOk r h.length).bind _
  rw [Option.bind_assoc]
@[simp] theorem bor_emp {d : Nat} {h : Heap} : bor (d + 1) h .emp = some (mt, []) := rfl
@[simp] theorem nble {a b : Nat} : Nat.ble a b = decide (a ≤ b) := by rw [Bool.eq_iff_iff, Nat.ble_eq]; simp
@[simp] theorem nblt {a b : Nat} : Nat.blt a b = decide (a < b) := by rw [Bool.eq_iff_iff, Nat.blt_eq]; simp
@[simp] theorem kborr_mt {h : Heap} : kborr h mt = [] := rfl
@[simp] theorem kblk_mt : kblk mt = [] := rfl
abbrev cb (b : Bool) : List GV := [.bool b]
end Go.Proofs.Ytlbnioapepelnaa.G


namespace Go.Proofs.Ytlbnioapepelnaa.G
open Go.RowKit
set_option linter.unusedVariables false
set_option linter.unusedSimpArgs false
/-- What is not in R is as it was. -/
def Fr (R : List Nat) (h h' : Heap) : Prop := h.length ≤ h'.length ∧ ∀ i, i < h.length → i ∉ R → h'[i]? = h[i]?
theorem Fr.refl {R : List Nat} {h : Heap} : Fr R h h := ⟨Nat.le_refl _, fun _ _ _ => rfl⟩
theorem Fr.trans {R : List Nat} {h h' h'' : Heap} (a : Fr R h h') (b : Fr R h' h'') : Fr R h h'' := ⟨Nat.le_trans a.1 b.1, fun i hi hn => (b.2 i (Nat.lt_of_lt_of_le hi a.1) hn).trans (a.2 i hi hn)⟩
theorem Fr.sub {R R' : List Nat} {h h' : Heap} (a : Fr R h h') (hs : ∀ i ∈ R, i ∈ R') : Fr R' h h' := ⟨a.1, fun i hi hn => a.2 i hi fun h => hn (hs i h)⟩
theorem Fr.set {R : List Nat} {h : Heap} {b : Nat} {c : List GV} (hb : b ∈ R) : Fr R h (h.set b c) := ⟨by rw [List.length_set]; exact Nat.le_refl _, fun i _ hn => List.getElem?_set_ne fun e => hn (by rw [← e]; exact hb)⟩
theorem Fr.app {R : List Nat} {h t : Heap} : Fr R h (h ++ t) := ⟨by rw [List.length_append]; omega, fun i hi _ => List.getElem?_append_left hi⟩
theorem kia_at {es b n j o tot : Nat} (hj : j < n) (ho : j * es = o) (ht : n * es = tot) : kia es (.sl b 0 n n es) (.int .i64 (j : Int)) = some (.ptr b o tot) := by
  rw [kia_sl, if_pos ⟨rfl, by omega, by omega⟩, ← ho, ← ht]
  simp
theorem kstore_at {h : Heap} {b o tot : Nat} {cells : List GV} {x : GV} (hb : h[b]? = some cells) (fl : cells.length = tot) (ho : o < tot) (hx : x.cells = [x]) (hc : x.isCell = true) : kstore 1 h (.ptr b o tot) x = some (h.set b (cells.set o x)) := by
  rw [kstore_ptr, if_pos ⟨by rw [hx]; rfl, by rw [hx]; simp [hc]⟩, cellsAt_if, hb]
  simp only [Option.bind_some, fl, if_true]
  rw [if_pos (by omega), hx, splice_one (by omega)]
theorem kload1_at {h : Heap} {b o tot : Nat} {cells : List GV} (hb : h[b]? = some cells) (fl : cells.length = tot) : kload1 h (.ptr b o tot) = cells[o]? := by
  rw [kload1_ptr, cellsAt_if, hb]
  simp [fl]
theorem part_at {cells pre c post : List GV} {o n : Nat} (h : cells = pre ++ (c ++ post)) (ho : pre.length = o) (hn : c.length = n) : (cells.drop o).take n = c := by
  rw [h, ← ho, List.drop_left, ← hn, List.take_left]
theorem part1_at {cells pre post : List GV} {g : GV} {o : Nat} (h : cells = pre ++ ([g] ++ post)) (ho : pre.length = o) : cells[o]? = some g := by
  rw [h, ← ho, List.getElem?_append_right (Nat.le_refl _), Nat.sub_self]; rfl
/-- A part of a struct in a block. -/
theorem kpartA_at {H : Heap} {b o t n : Nat} {cells c : List GV} (hb : H[b]? = some cells) (fl : cells.length = t) (hd : (cells.drop o).take n = c) (hl : o + n ≤ cells.length) : kloadA n H (.ptr b o t) = some (.agg c) := by
  rw [kloadA_ptr, cellsAt_if, hb]
  simp only [Option.bind_some, fl, if_true]
  rw [if_pos (by omega), hd]
end Go.Proofs.Ytlbnioapepelnaa.G

namespace Go.Proofs.Ytlbnioapepelnaa.G
open Go.RowKit
set_option linter.unusedVariables false
set_option linter.unusedSimpArgs false
/-- Cells, a value, its blocks in order. -/
abbrev Rel (α : Type) := Heap → List GV → α → List Nat → Prop
/-- Element by element. -/
inductive All3 {α : Type} (E : List GV → α → List Nat → Prop) : List (List GV) → List α → List (List Nat) → Prop
  | nil : All3 E [] [] []
  | cons {c : List GV} {x : α} {r : List Nat} {cs : List (List GV)} {xs : List α} {rs : List (List Nat)} : E c x r → All3 E cs xs rs → All3 E (c :: cs) (x :: xs) (r :: rs)
def RFl {α : Type} (mk : α → List GV) : Rel α := fun h c x R => c = mk x ∧ R = []
def RSl {α : Type} (es : Nat) (E : Rel α) : Rel (List α) := fun h c xs R =>
  (xs = [] ∧ R = [] ∧ (c = [.emp] ∨ c = [.nils])) ∨ ∃ b css Rs, c = [.sl b 0 xs.length xs.length es] ∧ h[b]? = some css.flatten ∧ All3 (E h) css xs Rs ∧ R = b :: Rs.flatten
def RSeq {α β : Type} (E : Rel α) (F : Rel β) : Rel (α × β) := fun h c x R => ∃ c1 c2 R1 R2, c = c1 ++ c2 ∧ R = R1 ++ R2 ∧ E h c1 x.1 R1 ∧ F h c2 x.2 R2

/-- What can be said of such data; mk: how they are told, d: how deep they go. -/
structure Good {α : Type} (es d : Nat) (mk : α → List GV) (E : Rel α) : Prop where
  len : ∀ {h c x R}, E h c x R → c.length = es
  mkl : ∀ x, (mk x).length = es
  brw : ∀ {h c x R}, E h c x R → ∀ D, ∃ ys, c.mapM (bor (D + d) h) = some ys ∧ ys.map (·.1) = mk x ∧ (ys.map (·.2)).flatten = R
  frame : ∀ {h c x R h'}, E h c x R → (∀ i ∈ R, h'[i]? = h[i]?) → E h' c x R
  mem : ∀ {h c x R}, E h c x R → ∀ i ∈ R, i < h.length
  own : ∀ {h c x R}, E h c x R → ∀ D b, ∃ c' vis bl, ownL (own (D + d) h) b c = some (c', vis, bl) ∧ vis.map (·.1) = R ∧ ∀ H T, H.length = b → E (H ++ bl ++ T) c' x (List.range' b bl.length)
  cell : ∀ {h c x R}, E h c x R → c.all GV.isCell = true

theorem RFl.good {α : Type} {es : Nat} {mk : α → List GV} (hl : ∀ x, (mk x).length = es) (hp : ∀ x, (mk x).all Pl = true) : Good es 1 mk (RFl mk) where
  len := by rintro h c x R ⟨rfl, rfl⟩; exact hl x
  mkl := hl
  brw := by
    rintro h c x R ⟨rfl, rfl⟩ D
    have : ∀ l : List GV, l.all Pl = true → l.mapM (bor (D + 1) h) = some (l.map fun g => (g, [])) := by
      intro l
      induction l with
      | nil => intro _; rfl
      | cons g l ih =>
        intro hl
        rw [List.all_cons, Bool.and_eq_true] at hl
        rw [List.mapM_cons, ih hl.2]
        cases g <;> first | rfl | cases hl.1
    refine ⟨_, this _ (hp x), ?_, ?_⟩
    · rw [List.map_map]; exact List.map_id _
    · rw [List.map_map]
      generalize mk x = l
      induction l with
      | nil => rfl
      | cons g l ih => rw [List.map_cons, List.flatten_cons, ih]; rfl
  frame := fun h _ => h
  mem := by rintro h c x R ⟨rfl, rfl⟩ i hi; cases hi
  own := by
    rintro h c x R ⟨rfl, rfl⟩ D b
    exact ⟨mk x, [], [], ownL_pl (hp x), rfl, fun H T _ => ⟨rfl, rfl⟩⟩
  cell := by
    rintro h c x R ⟨rfl, rfl⟩
    have := hp x
    rw [List.all_eq_true] at this ⊢
    intro g hg
    have := this g hg
    cases g <;> first | rfl | cases this

theorem mapM_app {f : GV → Option (GV × List Nat)} {l1 l2 : List GV} {y1 y2 : List (GV × List Nat)} (h1 : l1.mapM f = some y1) (h2 : l2.mapM f = some y2) : (l1 ++ l2).mapM f = some (y1 ++ y2) := mapM_append' h1 h2
theorem ownL_app {f : Nat → GV → Option (GV × Vis × List (List GV))} : ∀ {l1 l2 : List GV} {b : Nat} {c1 c2 : List GV} {v1 v2 : Vis} {b1 b2 : List (List GV)}, ownL f b l1 = some (c1, v1, b1) → ownL f (b + b1.length) l2 = some (c2, v2, b2) → ownL f b (l1 ++ l2) = some (c1 ++ c2, v1 ++ v2, b1 ++ b2)
  | [], l2, b, c1, c2, v1, v2, b1, b2, h1, h2 => by
    obtain ⟨⟩ := h1
    exact h2
  | g :: l1, l2, b, c1, c2, v1, v2, b1, b2, h1, h2 => by
    unfold ownL at h1
    obtain ⟨r, h3, h4⟩ := Option.bind_eq_some_iff.1 h1
    obtain ⟨q, h5, h6⟩ := Option.bind_eq_some_iff.1 h4
    obtain ⟨⟩ := h6
    rw [List.cons_append]
    unfold ownL
    rw [h3]
    simp only [Option.bind_some]
    rw [ownL_app (c1 := q.1) (v1 := q.2.1) (b1 := q.2.2) h5 (by rw [List.length_append, ← Nat.add_assoc] at h2; exact h2)]
    simp

theorem RSeq.good {α β : Type} {es es' d : Nat} {mk : α → List GV} {mk' : β → List GV} {E : Rel α} {F : Rel β} (hE : Good es d mk E) (hF : Good es' d mk' F) : Good (es + es') d (fun x : α × β => mk x.1 ++ mk' x.2) (RSeq E F) where
  len := by rintro h c x R ⟨c1, c2, R1, R2, rfl, rfl, h1, h2⟩; rw [List.length_append, hE.len h1, hF.len h2]
  mkl := fun x => by rw [List.length_append, hE.mkl, hF.mkl]
  brw := by
    rintro h c x R ⟨c1, c2, R1, R2, rfl, rfl, h1, h2⟩ D
    obtain ⟨y1, a1, a2, a3⟩ := hE.brw h1 D
    obtain ⟨y2, b1, b2, b3⟩ := hF.brw h2 D
    exact ⟨y1 ++ y2, mapM_app a1 b1, by rw [List.map_append, a2, b2], by rw [List.map_append, List.flatten_append, a3, b3]⟩
  frame := by
    rintro h c x R h' ⟨c1, c2, R1, R2, rfl, rfl, h1, h2⟩ hf
    exact ⟨c1, c2, R1, R2, rfl, rfl, hE.frame h1 fun i hi => hf i (List.mem_append_left _ hi), hF.frame h2 fun i hi => hf i (List.mem_append_right _ hi)⟩
  mem := by
    rintro h c x R ⟨c1, c2, R1, R2, rfl, rfl, h1, h2⟩ i hi
    rcases List.mem_append.1 hi with hi | hi
    · exact hE.mem h1 i hi
    · exact hF.mem h2 i hi
  own := by
    rintro h c x R ⟨c1, c2, R1, R2, rfl, rfl, h1, h2⟩ D b
    obtain ⟨c1', v1, l1, a1, a2, a3⟩ := hE.own h1 D b
    obtain ⟨c2', v2, l2, b1, b2, b3⟩ := hF.own h2 D (b + l1.length)
    refine ⟨c1' ++ c2', v1 ++ v2, l1 ++ l2, ownL_app a1 b1, by rw [List.map_append, a2, b2], fun H T hH => ?_⟩
    refine ⟨c1', c2', List.range' b l1.length, List.range' (b + l1.length) l2.length, rfl, by rw [List.length_append, List.range'_append_1], ?_, ?_⟩
    · have := a3 H (l2 ++ T) hH
      simpa only [List.append_assoc] using this
    · have := b3 (H ++ l1) T (by rw [List.length_append, hH])
      simpa only [List.append_assoc] using this
  cell := by
    rintro h c x R ⟨c1, c2, R1, R2, rfl, rfl, h1, h2⟩
    rw [List.all_append, hE.cell h1, hF.cell h2]; rfl

theorem All3.len {α : Type} {E : List GV → α → List Nat → Prop} {css : List (List GV)} {xs : List α} {Rs : List (List Nat)} (h : All3 E css xs Rs) : css.length = xs.length ∧ Rs.length = xs.length := by
  induction h with
  | nil => exact ⟨rfl, rfl⟩
  | cons _ _ ih => exact ⟨by simp [ih.1], by simp [ih.2]⟩
theorem All3.flen {α : Type} {E : List GV → α → List Nat → Prop} {es : Nat} (hl : ∀ {c x R}, E c x R → c.length = es) {css : List (List GV)} {xs : List α} {Rs : List (List Nat)} (h : All3 E css xs Rs) : css.flatten.length = xs.length * es ∧ ∀ c ∈ css, c.length = es := by
  induction h with
  | nil => exact ⟨by simp, fun c h => by cases h⟩
  | cons a _ ih =>
    refine ⟨?_, fun c hc => ?_⟩
    · rw [List.flatten_cons, List.length_append, ih.1, hl a, List.length_cons, Nat.add_mul]; omega
    · rcases List.mem_cons.1 hc with rfl | hc
      · exact hl a
      · exact ih.2 c hc
theorem All3.frame {α : Type} {E : Rel α} {h h' : Heap} (hf : ∀ {c x R}, E h c x R → (∀ i ∈ R, h'[i]? = h[i]?) → E h' c x R) {css : List (List GV)} {xs : List α} {Rs : List (List Nat)} (ha : All3 (E h) css xs Rs) (hi : ∀ i ∈ Rs.flatten, h'[i]? = h[i]?) : All3 (E h') css xs Rs := by
  induction ha with
  | nil => exact .nil
  | cons a _ ih =>
    rw [List.flatten_cons] at hi
    exact .cons (hf a fun i h => hi i (List.mem_append_left _ h)) (ih fun i h => hi i (List.mem_append_right _ h))
theorem All3.mem {α : Type} {E : List GV → α → List Nat → Prop} {n : Nat} (hm : ∀ {c x R}, E c x R → ∀ i ∈ R, i < n) {css : List (List GV)} {xs : List α} {Rs : List (List Nat)} (ha : All3 E css xs Rs) : ∀ i ∈ Rs.flatten, i < n := by
  induction ha with
  | nil => intro i hi; cases hi
  | cons a _ ih =>
    intro i hi
    rw [List.flatten_cons] at hi
    rcases List.mem_append.1 hi with hi | hi
    · exact hm a i hi
    · exact ih i hi
theorem All3.brw {α : Type} {es d : Nat} {mk : α → List GV} {E : Rel α} (hE : Good es d mk E) {h : Heap} (D : Nat) {css : List (List GV)} {xs : List α} {Rs : List (List Nat)} (ha : All3 (E h) css xs Rs) : ∃ ys, css.flatten.mapM (bor (D + d) h) = some ys ∧ ys.map (·.1) = xs.flatMap mk ∧ (ys.map (·.2)).flatten = Rs.flatten := by
  induction ha with
  | nil => exact ⟨[], rfl, rfl, rfl⟩
  | cons a _ ih =>
    obtain ⟨y1, a1, a2, a3⟩ := hE.brw a D
    obtain ⟨y2, b1, b2, b3⟩ := ih
    exact ⟨y1 ++ y2, mapM_app a1 b1, by rw [List.map_append, a2, b2]; rfl, by rw [List.map_append, List.flatten_append, a3, b3]; rfl⟩
theorem All3.own {α : Type} {es d : Nat} {mk : α → List GV} {E : Rel α} (hE : Good es d mk E) {h : Heap} (D : Nat) {css : List (List GV)} {xs : List α} {Rs : List (List Nat)} (ha : All3 (E h) css xs Rs) : ∀ b, ∃ css' vis bl Rs', ownL (own (D + d) h) b css.flatten = some (css'.flatten, vis, bl) ∧ vis.map (·.1) = Rs.flatten ∧ Rs'.flatten = List.range' b bl.length ∧ ∀ H T, H.length = b → All3 (E (H ++ bl ++ T)) css' xs Rs' := by
  induction ha with
  | nil => exact fun b => ⟨[], [], [], [], rfl, rfl, rfl, fun H T _ => .nil⟩
  | cons a _ ih =>
    intro b
    obtain ⟨c', v1, l1, a1, a2, a3⟩ := hE.own a D b
    obtain ⟨css', v2, l2, Rs', b1, b2, b3, b4⟩ := ih (b + l1.length)
    refine ⟨c' :: css', v1 ++ v2, l1 ++ l2, List.range' b l1.length :: Rs', ?_, by rw [List.map_append, a2, b2]; rfl, by rw [List.flatten_cons, b3, List.length_append, List.range'_append_1], fun H T hH => .cons ?_ ?_⟩
    · rw [List.flatten_cons, List.flatten_cons]; exact ownL_app a1 b1
    · have := a3 H (l2 ++ T) hH
      simpa only [List.append_assoc] using this
    · have := b4 (H ++ l1) T (by rw [List.length_append, hH])
      simpa only [List.append_assoc] using this

theorem RSl.good {α : Type} {es d : Nat} {mk : α → List GV} {E : Rel α} (hE : Good es d mk E) : Good 1 (d + 1) (fun xs : List α => [fzl true es mk xs]) (RSl es E) where
  len := by
    rintro h c xs R (⟨_, _, hc⟩ | ⟨b, css, Rs, rfl, _⟩)
    · rcases hc with rfl | rfl <;> rfl
    · rfl
  mkl := fun _ => rfl
  brw := by
    rintro h c xs R (⟨rfl, rfl, hc⟩ | ⟨b, css, Rs, rfl, hb, ha, rfl⟩) D
    · rcases hc with rfl | rfl
      · exact ⟨[(mt, [])], rfl, rfl, rfl⟩
      · exact ⟨[(mt, [])], rfl, rfl, rfl⟩
    · obtain ⟨ys, a1, a2, a3⟩ := All3.brw hE D ha
      obtain ⟨fl, _⟩ := All3.flen (fun h => hE.len h) ha
      have e : bor (D + (d + 1)) h (.sl b 0 xs.length xs.length es) = some (fzl true es mk xs, b :: Rs.flatten) := by
        rw [← Nat.add_assoc]
        simp only [bor, Option.bind_eq_bind, cellsAt_if, hb, Nat.zero_add, fl, if_true, Option.bind_some, List.drop_zero]
        rw [List.take_of_length_le (by omega), a1]
        simp only [Option.bind_some, Nat.le_refl, if_true]
        cases xs with
        | nil =>
          cases ha
          cases ys with
          | nil => rfl
          | cons y ys => cases a1
        | cons x xs => simp only [List.length_cons, fzl, a2, a3]
      exact ⟨[(fzl true es mk xs, b :: Rs.flatten)], by rw [List.mapM_cons, e]; rfl, rfl, by simp⟩
  frame := by
    rintro h c xs R h' (hc | ⟨b, css, Rs, rfl, hb, ha, rfl⟩) hf
    · exact Or.inl hc
    · exact Or.inr ⟨b, css, Rs, rfl, (hf b (List.mem_cons_self ..)).trans hb, All3.frame (fun a b => hE.frame a b) ha (fun i hi => hf i (List.mem_cons_of_mem _ hi)), rfl⟩
  mem := by
    rintro h c xs R (⟨_, rfl, _⟩ | ⟨b, css, Rs, rfl, hb, ha, rfl⟩) i hi
    · cases hi
    · rcases List.mem_cons.1 hi with rfl | hi
      · exact (List.getElem?_eq_some_iff.1 hb).1
      · exact All3.mem (fun a => hE.mem a) ha i hi
  own := by
    rintro h c xs R (⟨rfl, rfl, hc⟩ | ⟨b0, css, Rs, rfl, hb, ha, rfl⟩) D b
    · refine ⟨c, [], [], ?_, rfl, fun H T _ => Or.inl ⟨rfl, rfl, hc⟩⟩
      rcases hc with rfl | rfl <;> rfl
    · obtain ⟨css', vis, bl, Rs', a1, a2, a3, a4⟩ := All3.own hE D ha (b + 1)
      obtain ⟨fl, _⟩ := All3.flen (fun h => hE.len h) ha
      have e : own (D + (d + 1)) h b (.sl b0 0 xs.length xs.length es) = some (.sl b 0 xs.length xs.length es, (b0, 0, 0 + xs.length * es) :: vis, css'.flatten :: bl) := by
        rw [← Nat.add_assoc]
        simp only [Go.Proofs.Ytlbnioapepelnaa.G.own, cellsAt_if, hb, Nat.zero_add, fl, if_true, Option.bind_some, List.drop_zero, Nat.le_refl]
        rw [List.take_of_length_le (by omega), a1]
        rfl
      refine ⟨[.sl b 0 xs.length xs.length es], (b0, 0, 0 + xs.length * es) :: vis, css'.flatten :: bl, ?_, ?_, fun H T hH => Or.inr ⟨b, css', Rs', rfl, ?_, ?_, ?_⟩⟩
      · unfold ownL
        rw [e]
        simp [ownL]
      · rw [List.map_cons, a2]
      · rw [List.append_assoc, List.getElem?_append_right (by omega), hH, Nat.sub_self]; rfl
      · have := a4 (H ++ [css'.flatten]) T (by rw [List.length_append, hH]; rfl)
        simpa only [List.append_assoc, List.cons_append, List.nil_append] using this
      · rw [a3, List.length_cons, List.range'_succ]
  cell := by
    rintro h c xs R (⟨_, _, hc⟩ | ⟨b, css, Rs, rfl, _⟩)
    · rcases hc with rfl | rfl <;> rfl
    · rfl

theorem nodupB_of : ∀ {l : List Nat}, l.Nodup → nodupB l = true
  | [], _ => rfl
  | a :: l, h => by
    rw [List.nodup_cons] at h
    unfold nodupB
    rw [Bool.and_eq_true]
    refine ⟨?_, nodupB_of h.2⟩
    rw [List.all_eq_true]
    intro b hb
    cases hh : Nat.beq a b with
    | false => rfl
    | true => exact absurd (Nat.eq_of_beq_eq_true hh ▸ hb) h.1
/-- New memory that is handed over, a slice. -/
theorem Good.fin {α : Type} {d : Nat} {mk : α → List GV} {E : Rel α} (hE : Good 1 d mk E) (hd : d ≤ 9) {h : Heap} {v : GV} {x : α} {R : List Nat} (he : E h [v] x R) (nd : R.Nodup) (b : Nat) : ∃ v' bl, finO b v h = some (v', bl) ∧ ∀ H T, H.length = b → E (H ++ bl ++ T) [v'] x (List.range' b bl.length) := by
  obtain ⟨c', vis, bl, a1, a2, a3⟩ := hE.own he (9 - d) b
  rw [show 9 - d + d = 9 by omega] at a1
  unfold ownL at a1
  obtain ⟨r, b1, b2⟩ := Option.bind_eq_some_iff.1 a1
  obtain ⟨q, b3, b4⟩ := Option.bind_eq_some_iff.1 b2
  obtain ⟨⟩ := b3
  simp only [Option.some.injEq, Prod.mk.injEq, List.append_nil] at b4
  obtain ⟨rfl, rfl, rfl⟩ := b4
  refine ⟨r.1, r.2.2, ?_, a3⟩
  unfold finO ownOk
  simp only [b1, Option.bind_some, a2, nodupB_of nd, cond_true]
/-- Lending. -/
theorem Good.lend1 {α : Type} {d : Nat} {mk : α → List GV} {E : Rel α} (hE : Good 1 d mk E) (hd : d ≤ 9) {h : Heap} {v : GV} {x : α} {R : List Nat} (he : E h [v] x R) : ∃ g, bor 9 h v = some (g, R) ∧ mk x = [g] := by
  obtain ⟨ys, a1, a2, a3⟩ := hE.brw he (9 - d)
  rw [show 9 - d + d = 9 by omega] at a1
  rw [List.mapM_cons] at a1
  obtain ⟨y, b1, b2⟩ := Option.bind_eq_some_iff.1 a1
  simp only [List.mapM_nil, Option.pure_def, Option.bind_some, Option.bind_eq_bind, Option.some.injEq] at b2
  subst b2
  simp only [List.map_cons, List.map_nil, List.flatten_cons, List.flatten_nil, List.append_nil] at a2 a3
  exact ⟨y.1, by rw [b1, ← a3], a2.symm⟩
theorem RSl.len {α : Type} {es : Nat} {E : Rel α} {h : Heap} {v : GV} {xs : List α} {R : List Nat} (he : RSl es E h [v] xs R) : klen v = some (.int .i64 xs.length) := by
  rcases he with ⟨rfl, _, hc⟩ | ⟨b, css, Rs, hv, _⟩
  · rcases hc with hc | hc <;> (injection hc with hc; subst hc; rfl)
  · injection hv with hv; subst hv; rfl
theorem Good.mono {α : Type} {es d d' : Nat} {mk : α → List GV} {E : Rel α} (hE : Good es d mk E) (hd : d ≤ d') : Good es d' mk E where
  len := hE.len
  mkl := hE.mkl
  brw := fun h D => by
    have := hE.brw h (D + (d' - d))
    rwa [show D + (d' - d) + d = D + d' by omega] at this
  frame := hE.frame
  mem := hE.mem
  own := fun h D b => by
    have := hE.own h (D + (d' - d)) b
    rwa [show D + (d' - d) + d = D + d' by omega] at this
  cell := hE.cell
theorem Good.keep {α : Type} {es d : Nat} {mk : α → List GV} {E : Rel α} (hE : Good es d mk E) {h h' : Heap} {c : List GV} {x : α} {R R' : List Nat} (he : E h c x R) (hf : Fr R' h h') (hd : ∀ i ∈ R, i ∉ R') : E h' c x R :=
  hE.frame he fun i hi => hf.2 i (hE.mem he i hi) (hd i hi)
theorem Good.grow {α : Type} {es d : Nat} {mk : α → List GV} {E : Rel α} (hE : Good es d mk E) {h t : Heap} {c : List GV} {x : α} {R : List Nat} (he : E h c x R) : E (h ++ t) c x R :=
  hE.frame he fun i hi => List.getElem?_append_left (hE.mem he i hi)

theorem nd_range {a l : Nat} {X : List Nat} (hX : X.Nodup) (h : ∀ x ∈ X, a + l ≤ x) : (List.range' a l ++ X).Nodup := by
  rw [List.nodup_append]
  refine ⟨List.nodup_range', hX, fun x hx y hy e => ?_⟩
  rw [List.mem_range'_1] at hx
  have := h y hy
  omega
/-- Where blocks lie. -/
def Bd (R : List Nat) (a b : Nat) : Prop := ∀ i ∈ R, a ≤ i ∧ i < b
theorem Bd.no {R : List Nat} {a b p : Nat} (h : Bd R a b) (hp : p < a ∨ b ≤ p) : p ∉ R := fun hi => by have := h p hi; omega
theorem Bd.apart {R R' : List Nat} {a b a' b' : Nat} (h : Bd R a b) (h' : Bd R' a' b') (hp : b ≤ a' ∨ b' ≤ a) : ∀ i ∈ R, i ∉ R' := fun i hi hi' => by have := h i hi; have := h' i hi'; omega
theorem no_nil {p : Nat} : p ∉ ([] : List Nat) := List.not_mem_nil
theorem fresh_one {α : Type} {d : Nat} {mk : α → List GV} {E : Rel α} (hE : Good 1 d mk E) {f : FuncId} {args xs : List GV} {H : Heap} {x : α} (hb : bors H args = some xs) (he : ∃ v bl, OO f xs H.length = some (v, bl) ∧ ∀ H' T, H'.length = H.length → E (H' ++ bl ++ T) [v] x (List.range' H.length bl.length)) :
    ∃ v R H', kF false HH f args H = some (v, H') ∧ E H' [v] x R ∧ R.Nodup ∧ Bd R H.length H'.length ∧ Fr [] H H' ∧ H.length ≤ H'.length := by
  obtain ⟨c, bl, h1, h2⟩ := he
  refine ⟨c, _, H ++ bl, by rw [kF_OO, hb]; simp [h1], by simpa using h2 H [] rfl, List.nodup_range', fun i hi => ?_, .app, by simp⟩
  rw [List.mem_range'_1] at hi
  simp; omega
theorem bors_one {α : Type} {es d : Nat} {mk : α → List GV} {E : Rel α} (hE : Good es d mk E) (hd : d + 1 ≤ 9) {H : Heap} {v : GV} {x : List α} {R : List Nat} (he : RSl es E H [v] x R) {gs xs : List GV} (h : bors H gs = some xs) : bors H (v :: gs) = some (fzl true es mk x :: xs) := by
  obtain ⟨g, h1, h2⟩ := (RSl.good hE).lend1 hd he
  injection h2 with h2
  rw [bors_cons, h1, h, ← h2]; rfl
end Go.Proofs.Ytlbnioapepelnaa.G
