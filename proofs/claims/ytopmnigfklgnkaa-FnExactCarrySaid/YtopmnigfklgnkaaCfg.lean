/- The functions of this seat by their names; which of them run in their caller's heap. -/
import Derived.Test.YtopmnigfklgnkaaK6
import Derived.Test.YtopmnigfklgnkaaProg
import Derived.KernelRfl
namespace Go.Proofs.Ytopmnigfklgnkaa.G
open Go.RowKit
namespace fn
def main_main : Nat := 0
def gosem_cut : Nat := 1
def gosem_cut_init : Nat := 2
def laws_FnExactCertain : Nat := 3
def laws_FnExactExtend : Nat := 4
def laws_FnExactSubmit : Nat := 5
def laws_FnExactReply : Nat := 6
def laws_FnExactCarry : Nat := 7
def laws_FnExactFall : Nat := 8
def laws_FnCertain : Nat := 9
def laws_FnChains : Nat := 10
def laws_FnWindows : Nat := 11
def laws_szChain : Nat := 12
def spec_Certain : Nat := 13
def laws_toChain : Nat := 14
def impl_Certain : Nat := 15
def laws_eqStringS : Nat := 16
def laws_eqChain : Nat := 17
def laws_markChain : Nat := 18
def laws_markStringS : Nat := 19
def laws_heldStringS : Nat := 20
def spec_Extend : Nat := 21
def impl_Extend : Nat := 22
def laws_heldChain : Nat := 23
def spec_Submit : Nat := 24
def impl_Submit : Nat := 25
def spec_Reply : Nat := 26
def impl_Reply : Nat := 27
def spec_Carry : Nat := 28
def impl_Carry : Nat := 29
def spec_Fall : Nat := 30
def impl_Fall : Nat := 31
def laws_big : Nat := 32
def spec_DrawCertain : Nat := 33
def laws_likeTexts : Nat := 34
def spec_ChainOk : Nat := 35
def laws_pick : Nat := 36
def laws_begins : Nat := 37
def spec_DrawSubmit : Nat := 38
def spec_DrawCarry : Nat := 39
def spec_DrawNewChain : Nat := 40
def impl_NewChain : Nat := 41
def laws_likeChain : Nat := 42
def impl_ChainOk : Nat := 43
def spec_NewChain : Nat := 44
def spec_DrawTook : Nat := 45
def impl_Took : Nat := 46
def impl_Fresh : Nat := 47
def spec_Took : Nat := 48
def laws_likeWindow : Nat := 49
def spec_Fresh : Nat := 50
def impl_WindowOk : Nat := 51
def spec_WindowOk : Nat := 52
def laws_szServerS : Nat := 53
def laws_szStringSS : Nat := 54
def laws_szInt64SS : Nat := 55
def spec_l17Certain : Nat := 56
def laws_toServerS : Nat := 57
def laws_toStringSS : Nat := 58
def laws_toInt64SS : Nat := 59
def slices_Clone_string : Nat := 60
def laws_eqServerS : Nat := 61
def laws_eqStringSS : Nat := 62
def laws_eqInt64SS : Nat := 63
def laws_markServerS : Nat := 64
def laws_markStringSS : Nat := 65
def laws_markInt64SS : Nat := 66
def laws_markText : Nat := 67
def spec_l17Copy : Nat := 68
def spec_l17Extend : Nat := 69
def impl_changed : Nat := 70
def impl_Extend_1 : Nat := 71
def impl_Chain_last : Nat := 72
def laws_heldServerS : Nat := 73
def laws_heldStringSS : Nat := 74
def laws_heldInt64SS : Nat := 75
def spec_l17Submit : Nat := 76
def impl_Submit_1 : Nat := 77
def spec_l17Reply : Nat := 78
def impl_Reply_1 : Nat := 79
def impl_in : Nat := 80
def impl_Chain_tell : Nat := 81
def spec_l17Carry : Nat := 82
def impl_Carry_1 : Nat := 83
def spec_l17Fall : Nat := 84
def impl_Fall_1 : Nat := 85
def impl_Chain_fall : Nat := 86
def spec_DrawChainOk : Nat := 87
def spec_l1In : Nat := 88
def spec_l17Same : Nat := 89
def spec_l17Texts : Nat := 90
def spec_l1New : Nat := 91
def spec_l17DrawAny : Nat := 92
def spec_l1Once : Nat := 93
def spec_l1Below : Nat := 94
def spec_l1Max : Nat := 95
def spec_l1From : Nat := 96
def laws_likeInts : Nat := 97
def slices_ContainsFunc_impl_Server : Nat := 98
def impl_ChainOk_1 : Nat := 99
def impl_isServer : Nat := 100
def slices_Equal_string : Nat := 101
def slices_Concat_string : Nat := 102
def impl_areUp : Nat := 103
def spec_DrawFresh : Nat := 104
def slices_Clone_int64 : Nat := 105
def slices_Sort_int64 : Nat := 106
def slices_DeleteFunc_int64 : Nat := 107
def impl_Took_1 : Nat := 108
def slices_Contains_int64 : Nat := 109
def spec_l15Fresh : Nat := 110
def spec_l15Copy : Nat := 111
def laws_szServer : Nat := 112
def laws_szStringS : Nat := 113
def laws_szInt64S : Nat := 114
def laws_toServer : Nat := 115
def laws_toStringS : Nat := 116
def laws_toInt64S : Nat := 117
def laws_eqServer : Nat := 118
def laws_eqInt64S : Nat := 119
def laws_markInt64S : Nat := 120
def impl_Chain_copied : Nat := 121
def laws_heldInt64S : Nat := 122
def slices_Delete_impl_Server : Nat := 123
def slices_Delete_string_string : Nat := 124
def slices_Delete_int64_int64 : Nat := 125
def spec_l17Draw : Nat := 126
def spec_l1Byte : Nat := 127
def slices_IndexFunc_impl_Server : Nat := 128
def slices_ContainsFunc_string : Nat := 129
def impl_isServer_1 : Nat := 130
def slices_Grow_string : Nat := 131
def slices_IsSorted_int64 : Nat := 132
def slices_ContainsFunc_int64 : Nat := 133
def impl_areUp_1 : Nat := 134
def spec_l15Draw : Nat := 135
def spec_l1Min : Nat := 136
def spec_l14DrawCount : Nat := 137
def slices_pdqsortOrdered_int64 : Nat := 138
def math_bits_Len : Nat := 139
def slices_IndexFunc_int64 : Nat := 140
def slices_Index_int64 : Nat := 141
def slices_IndexFunc_string : Nat := 142
def cmp_Less_int64 : Nat := 143
def slices_insertionSortOrdered_int64 : Nat := 144
def slices_heapSortOrdered_int64 : Nat := 145
def slices_breakPatternsOrdered_int64 : Nat := 146
def slices_choosePivotOrdered_int64 : Nat := 147
def slices_reverseRangeOrdered_int64 : Nat := 148
def slices_partialInsertionSortOrdered_int64 : Nat := 149
def slices_partitionEqualOrdered_int64 : Nat := 150
def slices_partitionOrdered_int64 : Nat := 151
def math_bits_Len32 : Nat := 152
def math_bits_Len64 : Nat := 153
def cmp_isNaN_int64 : Nat := 154
def slices_siftDownOrdered_int64 : Nat := 155
def slices_nextPowerOfTwo : Nat := 156
def slices_xorshift_Next : Nat := 157
def slices_medianAdjacentOrdered_int64 : Nat := 158
def slices_medianOrdered_int64 : Nat := 159
def slices_order2Ordered_int64 : Nat := 160
def runtime_boundsError_Error : Nat := 161
def runtime_boundsError_RuntimeError : Nat := 162
def runtime_errorString_Error : Nat := 163
def runtime_errorString_RuntimeError : Nat := 164
def runtime_plainError_Error : Nat := 165
def runtime_plainError_RuntimeError : Nat := 166
def runtime_errorAddressString_Error : Nat := 167
def runtime_errorAddressString_RuntimeError : Nat := 168
def runtime_TypeAssertionError_Error : Nat := 169
def runtime_TypeAssertionError_RuntimeError : Nat := 170
def runtime_PanicNilError_Error : Nat := 171
def runtime_PanicNilError_RuntimeError : Nat := 172
def internal_abi_Type_Align : Nat := 173
def internal_runtime_maps_unhashableTypeError_Error : Nat := 174
def internal_runtime_maps_unhashableTypeError_RuntimeError : Nat := 175
def internal_abi_Kind_String : Nat := 176
end fn
namespace ty
def internal_abi_BoundsErrorCode : Nat := 6
def runtime_boundsError : Nat := 8
def runtime_errorString : Nat := 10
def runtime_plainError : Nat := 11
def runtime_errorAddressString : Nat := 14
def internal_runtime_maps_unhashableTypeError : Nat := 19
def laws_Chain : Nat := 26
def impl_Chain : Nat := 32
def impl_Server : Nat := 51
def impl_Window : Nat := 60
def laws_Server : Nat := 109
def spec_l1Cur : Nat := 118
def slices_sortedHint : Nat := 135
def slices_xorshift : Nat := 146
def runtime_TypeAssertionError : Nat := 157
def runtime_PanicNilError : Nat := 160
def internal_abi_TFlag : Nat := 162
def internal_abi_Kind : Nat := 163
def internal_abi_NameOff : Nat := 166
def internal_abi_TypeOff : Nat := 167
def internal_abi_Type : Nat := 169
end ty
noncomputable abbrev PP : Program := Try.prog
def cfg : Cfg := ⟨fun f => [18, 19, 64, 65, 66, 69, 71, 76, 77, 78, 79, 81, 82, 83, 84, 85, 86, 120, 131].any (Nat.beq f), fun _ => none, fun f => [105, 60].any (Nat.beq f), fun f => [29, 15, 121, 22, 31, 41, 27, 25, 70, 14, 117, 59, 115, 57, 116, 58, 105, 60, 68, 90].any (Nat.beq f)⟩
noncomputable def NN : NCall := nω PP cfg
noncomputable def HH : HCall := kω PP cfg
noncomputable def OO : FuncId → List GV → Nat → Option (GV × List (List GV)) := oω PP cfg
noncomputable def KC {R : Type} (k nt : Nat) (c : Code) (σ : GS) (h : Heap) (K : GX → GS → Heap → Option R) : Option R := kcode PP cfg NN HH k nt c σ h K
noncomputable def kval {R : Type} (f : GV) (args : List GV) (h : Heap) (K : GV → Heap → Option R) : Option R := match f with | .fn g caps => kcallee PP cfg NN HH g (args ++ caps) h K | _ => none
section
variable {R : Type} {k nt : Nat} {c a b : Code} {σ : GS} {h : Heap} {K : GX → GS → Heap → Option R}
theorem kseq {B : GS → Heap → Option R} (hc : c = .seq a b) (hb : ∀ σ h, KC k nt b σ h K = B σ h) :
    KC k nt c σ h K = KC k nt a σ h (fun x σ h => kx x (B σ h) (K x σ h)) := kseq_eq hc hb
theorem kcond_eq {v : GV} {o : Operand} (hc : c = .cond o a b) (hv : eval σ o = some v) : KC k nt c σ h K = kcond v (KC k nt a σ h K) (KC k nt b σ h K) := kcondP_eq hc hv
theorem kblock_eq {id : Nat} (hc : c = .block id a) : KC k nt c σ h K = KC k nt a σ h (fun x σ h => kb id x fun x => K x σ h) := kblockP_eq hc
theorem kloop_eq {B : GS → Heap → Option R} {r : Nat} (hb : ∀ σ h, kloop (fun σ h K => KC k nt a σ h K) r σ h K = B σ h) :
    kloop (fun σ h K => KC k nt a σ h K) (r + 1) σ h K = KC k nt a σ h (fun x σ h => kx x (B σ h) (K x σ h)) := kloop_eqP hb
theorem kloopc_eq (hc : c = .loop a) : KC k nt c σ h K = kloop (fun σ h K => KC k nt a σ h K) k σ h K := by subst hc; rfl
theorem kregion_eq {id : Nat} {ops : Array Oper} {draw : Bool} {gs : List (Option (Nat × Bool) × List Nat)} (hc : c = .region id ops draw) (hg : grp ops (List.range ops.size) = gs) (hk : (grpOk ops gs && (!draw || statOk cfg ops)) = true) :
    KC k nt c σ h K = kgroups PP cfg NN HH nt ops gs σ h (fun σ h => K .nrm σ h) := kregionP_eq hc hg hk
theorem kregionD_eq {id : Nat} {ops : Array Oper} {draw : Bool} {gs : List (Option (Nat × Bool) × List Nat)} {bad : List (Nat × Nat)} (hc : c = .region id ops draw) (hg : grp ops (List.range ops.size) = gs) (hs : (grpOk ops gs && (!draw || statOk cfg ops)) = false) (hk : (grpOk ops gs && dynOk cfg ops) = true) (hb : badOf cfg ops = bad) :
    KC k nt c σ h K = kgroupsD PP cfg NN HH nt ops bad gs [] σ h (fun rs σ h => bif chk bad rs then K .nrm σ h else none) := kregionPD_eq hc hg hs hk hb
theorem kfun_eq {f : FuncId} {args : List GV} {fn : Func} {fin : GV → Heap → Option R} {G : GX → GS → Heap → Option R} (hf : PP.funcs[f]? = some fn) (hb : fn.body = some c) (hn : max args.length fn.ntmps = nt)
    (hG : ∀ x σ h, (match x with | .ext _ => none | _ => kres PP σ h fn.results.toList [] fun v => fin v h) = G x σ h) :
    kfun PP cfg NN HH k f args h fin = KC k nt c (fun t => args.getD t .un) h G := kfunP_eq hf hb hn hG
end
end Go.Proofs.Ytopmnigfklgnkaa.G
