/- The functions of this seat by their names; which of them run in their caller's heap. -/
import Derived.Test.YtleeifecdjolhaaK6
import Derived.Test.YtleeifecdjolhaaProg
import Derived.KernelRfl
namespace Go.Proofs.Ytleeifecdjolhaa.G
open Go.RowKit
namespace fn
def main_main : Nat := 0
def gosem_cut : Nat := 1
def gosem_cut_init : Nat := 2
def laws_FnExactTorn : Nat := 3
def laws_FnExactSum : Nat := 4
def laws_FnExactEntryOk : Nat := 5
def laws_FnExactWindowOk : Nat := 6
def laws_FnExactFresh : Nat := 7
def laws_FnExactNewChain : Nat := 8
def laws_FnExactChainOk : Nat := 9
def laws_FnExactNewClient : Nat := 10
def laws_FnExactNewTerm : Nat := 11
def spec_Torn : Nat := 12
def impl_Torn : Nat := 13
def spec_Sum : Nat := 14
def impl_Sum : Nat := 15
def laws_szEntry : Nat := 16
def spec_EntryOk : Nat := 17
def laws_toEntry : Nat := 18
def impl_EntryOk : Nat := 19
def laws_szWindow : Nat := 20
def spec_WindowOk : Nat := 21
def laws_toWindow : Nat := 22
def impl_WindowOk : Nat := 23
def laws_eqWindow : Nat := 24
def spec_Fresh : Nat := 25
def impl_Fresh : Nat := 26
def spec_NewChain : Nat := 27
def impl_NewChain : Nat := 28
def laws_eqChain : Nat := 29
def laws_markChain : Nat := 30
def laws_heldChain : Nat := 31
def laws_szChain : Nat := 32
def spec_ChainOk : Nat := 33
def laws_toChain : Nat := 34
def impl_ChainOk : Nat := 35
def spec_NewClient : Nat := 36
def impl_NewClient : Nat := 37
def laws_eqClient : Nat := 38
def laws_markClient : Nat := 39
def laws_heldClient : Nat := 40
def spec_NewTerm : Nat := 41
def impl_NewTerm : Nat := 42
def laws_eqTerm : Nat := 43
def laws_markTerm : Nat := 44
def laws_heldTerm : Nat := 45
def spec_l16Cut : Nat := 46
def impl_first : Nat := 47
def spec_Mix : Nat := 48
def impl_Mix : Nat := 49
def spec_l1In : Nat := 50
def impl_in : Nat := 51
def impl_isKeys : Nat := 52
def laws_szInt64S : Nat := 53
def spec_l1Max : Nat := 54
def laws_toInt64S : Nat := 55
def laws_eqInt64S : Nat := 56
def spec_l15Fresh : Nat := 57
def slices_Contains_int64 : Nat := 58
def laws_eqServerS : Nat := 59
def laws_eqStringSS : Nat := 60
def laws_eqInt64SS : Nat := 61
def laws_markServerS : Nat := 62
def laws_markStringSS : Nat := 63
def laws_markInt64SS : Nat := 64
def laws_heldServerS : Nat := 65
def laws_heldStringSS : Nat := 66
def laws_heldInt64SS : Nat := 67
def laws_szServerS : Nat := 68
def laws_szStringSS : Nat := 69
def laws_szInt64SS : Nat := 70
def spec_l17Same : Nat := 71
def spec_l17Texts : Nat := 72
def laws_toServerS : Nat := 73
def laws_toStringSS : Nat := 74
def laws_toInt64SS : Nat := 75
def slices_ContainsFunc_impl_Server : Nat := 76
def impl_ChainOk_1 : Nat := 77
def impl_isServer : Nat := 78
def slices_Equal_string : Nat := 79
def slices_Concat_string : Nat := 80
def impl_areUp : Nat := 81
def spec_l19New : Nat := 82
def impl_NewGrid : Nat := 83
def laws_eqStringS : Nat := 84
def laws_eqGrid : Nat := 85
def laws_markStringS : Nat := 86
def laws_markGrid : Nat := 87
def laws_markWindow : Nat := 88
def laws_heldStringS : Nat := 89
def laws_heldGrid : Nat := 90
def laws_heldWindow : Nat := 91
def spec_NewGrid : Nat := 92
def spec_l7New : Nat := 93
def impl_newTerm : Nat := 94
def laws_eqStyle : Nat := 95
def laws_eqParser : Nat := 96
def laws_eqFeeder : Nat := 97
def laws_markInt64S : Nat := 98
def laws_markParser : Nat := 99
def laws_heldInt64S : Nat := 100
def laws_heldParser : Nat := 101
def spec_l1Min : Nat := 102
def slices_Index_int64 : Nat := 103
def laws_eqServer : Nat := 104
def laws_szServer : Nat := 105
def laws_szStringS : Nat := 106
def laws_toServer : Nat := 107
def laws_toStringS : Nat := 108
def slices_IndexFunc_impl_Server : Nat := 109
def slices_ContainsFunc_string : Nat := 110
def impl_isServer_1 : Nat := 111
def slices_Grow_string : Nat := 112
def slices_IsSorted_int64 : Nat := 113
def slices_ContainsFunc_int64 : Nat := 114
def impl_areUp_1 : Nat := 115
def spec_l5New : Nat := 116
def impl_Blank : Nat := 117
def laws_eqCellSS : Nat := 118
def laws_markText : Nat := 119
def laws_markCellSS : Nat := 120
def laws_heldCellSS : Nat := 121
def spec_l6State : Nat := 122
def impl_Grid_copied : Nat := 123
def slices_IndexFunc_string : Nat := 124
def cmp_Less_int64 : Nat := 125
def slices_IndexFunc_int64 : Nat := 126
def spec_l4Row : Nat := 127
def impl_StyleOk : Nat := 128
def slices_Repeat_impl_Cell : Nat := 129
def impl_blank : Nat := 130
def laws_eqCellS : Nat := 131
def laws_markCellS : Nat := 132
def laws_heldCellS : Nat := 133
def slices_Clone_impl_Cell : Nat := 134
def cmp_isNaN_int64 : Nat := 135
def spec_l4Blank : Nat := 136
def math_bits_Mul : Nat := 137
def laws_eqCell : Nat := 138
def math_bits_Mul32 : Nat := 139
def math_bits_Mul64 : Nat := 140
def runtime_boundsError_Error : Nat := 141
def runtime_boundsError_RuntimeError : Nat := 142
def runtime_errorString_Error : Nat := 143
def runtime_errorString_RuntimeError : Nat := 144
def runtime_plainError_Error : Nat := 145
def runtime_plainError_RuntimeError : Nat := 146
def runtime_errorAddressString_Error : Nat := 147
def runtime_errorAddressString_RuntimeError : Nat := 148
def runtime_TypeAssertionError_Error : Nat := 149
def runtime_TypeAssertionError_RuntimeError : Nat := 150
def runtime_PanicNilError_Error : Nat := 151
def runtime_PanicNilError_RuntimeError : Nat := 152
def internal_abi_Type_Align : Nat := 153
def internal_runtime_maps_unhashableTypeError_Error : Nat := 154
def internal_runtime_maps_unhashableTypeError_RuntimeError : Nat := 155
def impl_Chain_last : Nat := 156
def impl_Grid_last : Nat := 157
def impl_Client_copied : Nat := 158
def impl_Style_flags : Nat := 159
def impl_Parser_copied : Nat := 160
def impl_Term_copied : Nat := 161
def internal_abi_Kind_String : Nat := 162
end fn
namespace ty
def internal_abi_BoundsErrorCode : Nat := 6
def runtime_boundsError : Nat := 8
def runtime_errorString : Nat := 10
def runtime_plainError : Nat := 11
def runtime_errorAddressString : Nat := 14
def internal_runtime_maps_unhashableTypeError : Nat := 19
def laws_Entry : Nat := 27
def impl_Entry : Nat := 30
def laws_Window : Nat := 35
def impl_Window : Nat := 38
def impl_Chain : Nat := 48
def laws_Chain : Nat := 56
def impl_Grid : Nat := 64
def impl_Client : Nat := 66
def impl_Style : Nat := 72
def impl_Parser : Nat := 74
def impl_Feeder : Nat := 76
def impl_Term : Nat := 78
def impl_Server : Nat := 99
def laws_Server : Nat := 124
def impl_Cell : Nat := 144
def runtime_TypeAssertionError : Nat := 162
def runtime_PanicNilError : Nat := 165
def internal_abi_TFlag : Nat := 167
def internal_abi_Kind : Nat := 168
def internal_abi_NameOff : Nat := 171
def internal_abi_TypeOff : Nat := 172
def internal_abi_Type : Nat := 174
end ty
noncomputable abbrev PP : Program := Try.prog
def cfg : Cfg := ⟨fun f => [30, 39, 44, 62, 63, 64, 86, 87, 88, 98, 99, 112, 120, 132].any (Nat.beq f), fun _ => none, fun f => [134].any (Nat.beq f), fun f => [117, 123, 28, 37, 83, 42, 94, 34, 55, 75, 107, 73, 108, 74, 134, 129, 72, 82, 127, 116, 122, 93].any (Nat.beq f)⟩
noncomputable def NN : NCall := nω PP cfg
noncomputable def HH : HCall := kω PP cfg
noncomputable def OO : FuncId → List GV → Nat → Option (GV × List (List GV)) := oω PP cfg
noncomputable def KC {R : Type} (k nt : Nat) (c : Code) (σ : GS) (h : Heap) (K : GX → GS → Heap → Option R) : Option R := kcode PP cfg NN HH k nt c σ h K
noncomputable def kval {R : Type} (f : GV) (args : List GV) (h : Heap) (K : GV → Heap → Option R) : Option R := match f with | .fn g caps => kcallee PP cfg NN HH g (args ++ caps) h K | _ => none
section
variable {R : Type} {k nt : Nat} {c a b : Code} {σ : GS} {h : Heap} {K : GX → GS → Heap → Option R}
theorem kseq {B : GS → Heap → Option R} (hc : c = .seq a b) (hb : ∀ σ h, KC k nt b σ h K = B σ h) :
    KC k nt c σ h K = KC k nt a σ h (fun x σ h => kx x (B σ h) (K x σ h)) := kseq_eq hc hb
theorem kcond_eq {v : GV} {o : Operand} (hc : c = .cond o a b) (hv : eval σ o = some v) : KC k nt c σ h K = kcond v (KC k nt a σ h K) (KC k nt b σ h K) := kcondP_eq hc hv
theorem kblock_eq {id : Nat} (hc : c = .block id a) : KC k nt c σ h K = KC k nt a σ h (fun x σ h => kb id x fun x => K x σ h) := kblockP_eq hc
theorem kloop_eq {B : GS → Heap → Option R} {r : Nat} (hb : ∀ σ h, kloop (fun σ h K => KC k nt a σ h K) r σ h K = B σ h) :
    kloop (fun σ h K => KC k nt a σ h K) (r + 1) σ h K = KC k nt a σ h (fun x σ h => kx x (B σ h) (K x σ h)) := kloop_eqP hb
theorem kloopc_eq (hc : c = .loop a) : KC k nt c σ h K = kloop (fun σ h K => KC k nt a σ h K) k σ h K := by subst hc; rfl
theorem kregion_eq {id : Nat} {ops : Array Oper} {draw : Bool} {gs : List (Option (Nat × Bool) × List Nat)} (hc : c = .region id ops draw) (hg : grp ops (List.range ops.size) = gs) (hk : (grpOk ops gs && (!draw || statOk cfg ops)) = true) :
    KC k nt c σ h K = kgroups PP cfg NN HH nt ops gs σ h (fun σ h => K .nrm σ h) := kregionP_eq hc hg hk
theorem kregionD_eq {id : Nat} {ops : Array Oper} {draw : Bool} {gs : List (Option (Nat × Bool) × List Nat)} {bad : List (Nat × Nat)} (hc : c = .region id ops draw) (hg : grp ops (List.range ops.size) = gs) (hs : (grpOk ops gs && (!draw || statOk cfg ops)) = false) (hk : (grpOk ops gs && dynOk cfg ops) = true) (hb : badOf cfg ops = bad) :
    KC k nt c σ h K = kgroupsD PP cfg NN HH nt ops bad gs [] σ h (fun rs σ h => bif chk bad rs then K .nrm σ h else none) := kregionPD_eq hc hg hs hk hb
theorem kfun_eq {f : FuncId} {args : List GV} {fn : Func} {fin : GV → Heap → Option R} {G : GX → GS → Heap → Option R} (hf : PP.funcs[f]? = some fn) (hb : fn.body = some c) (hn : max args.length fn.ntmps = nt)
    (hG : ∀ x σ h, (match x with | .ext _ => none | _ => kres PP σ h fn.results.toList [] fun v => fin v h) = G x σ h) :
    kfun PP cfg NN HH k f args h fin = KC k nt c (fun t => args.getD t .un) h G := kfunP_eq hf hb hn hG
end
end Go.Proofs.Ytleeifecdjolhaa.G
