/- The functions of this seat by their names; which of them run in their caller's heap. -/
import Derived.Test.YtolhjndfplfjpaaK6
import Derived.Test.YtolhjndfplfjpaaProg
import Derived.KernelRfl
namespace Go.Proofs.Ytolhjndfplfjpaa.G
open Go.RowKit
set_option linter.unusedVariables false
namespace fn
def main_main : Nat := 0
def gosem_cut : Nat := 1
def gosem_cut_init : Nat := 2
def laws_FnExactNewSession : Nat := 3
def laws_FnExactNewWorld : Nat := 4
def spec_NewSession : Nat := 5
def impl_NewSession : Nat := 6
def laws_eqSession : Nat := 7
def laws_markSession : Nat := 8
def laws_heldSession : Nat := 9
def spec_NewWorld : Nat := 10
def impl_NewWorld : Nat := 11
def laws_eqWorld : Nat := 12
def laws_markWorld : Nat := 13
def laws_heldWorld : Nat := 14
def spec_l7New : Nat := 15
def impl_newTerm : Nat := 16
def laws_eqTerm : Nat := 17
def laws_eqInt64S : Nat := 18
def laws_markTerm : Nat := 19
def laws_markInt64S : Nat := 20
def laws_heldTerm : Nat := 21
def laws_heldInt64S : Nat := 22
def spec_NewChain : Nat := 23
def spec_l19New : Nat := 24
def impl_NewChain : Nat := 25
def impl_NewClient : Nat := 26
def laws_eqChain : Nat := 27
def laws_eqClientS : Nat := 28
def laws_eqStringS : Nat := 29
def laws_eqDatagramS : Nat := 30
def laws_markChain : Nat := 31
def laws_markClientS : Nat := 32
def laws_markStringS : Nat := 33
def laws_markDatagramS : Nat := 34
def laws_heldChain : Nat := 35
def laws_heldClientS : Nat := 36
def laws_heldStringS : Nat := 37
def laws_heldDatagramS : Nat := 38
def spec_l5New : Nat := 39
def spec_l6State : Nat := 40
def impl_NewGrid : Nat := 41
def impl_Grid_copied : Nat := 42
def laws_eqGrid : Nat := 43
def laws_eqStyle : Nat := 44
def laws_eqParser : Nat := 45
def laws_eqFeeder : Nat := 46
def laws_markGrid : Nat := 47
def laws_markParser : Nat := 48
def laws_heldGrid : Nat := 49
def laws_heldParser : Nat := 50
def spec_l1In : Nat := 51
def impl_in : Nat := 52
def laws_eqServerS : Nat := 53
def laws_eqStringSS : Nat := 54
def laws_eqInt64SS : Nat := 55
def laws_eqClient : Nat := 56
def laws_eqDatagram : Nat := 57
def laws_markServerS : Nat := 58
def laws_markStringSS : Nat := 59
def laws_markInt64SS : Nat := 60
def laws_markCellSS : Nat := 61
def laws_markText : Nat := 62
def laws_heldServerS : Nat := 63
def laws_heldStringSS : Nat := 64
def laws_heldInt64SS : Nat := 65
def laws_heldCellSS : Nat := 66
def spec_l4Row : Nat := 67
def impl_Blank : Nat := 68
def slices_Clone_impl_Cell : Nat := 69
def laws_eqCellSS : Nat := 70
def laws_eqServer : Nat := 71
def laws_eqWindow : Nat := 72
def laws_markCellS : Nat := 73
def laws_heldCellS : Nat := 74
def spec_l4Blank : Nat := 75
def impl_StyleOk : Nat := 76
def slices_Repeat_impl_Cell : Nat := 77
def impl_blank : Nat := 78
def laws_eqCellS : Nat := 79
def math_bits_Mul : Nat := 80
def laws_eqCell : Nat := 81
def math_bits_Mul32 : Nat := 82
def math_bits_Mul64 : Nat := 83
def runtime_boundsError_Error : Nat := 84
def runtime_boundsError_RuntimeError : Nat := 85
def runtime_errorString_Error : Nat := 86
def runtime_errorString_RuntimeError : Nat := 87
def runtime_plainError_Error : Nat := 88
def runtime_plainError_RuntimeError : Nat := 89
def runtime_errorAddressString_Error : Nat := 90
def runtime_errorAddressString_RuntimeError : Nat := 91
def runtime_TypeAssertionError_Error : Nat := 92
def runtime_TypeAssertionError_RuntimeError : Nat := 93
def runtime_PanicNilError_Error : Nat := 94
def runtime_PanicNilError_RuntimeError : Nat := 95
def internal_abi_Type_Align : Nat := 96
def internal_runtime_maps_unhashableTypeError_Error : Nat := 97
def internal_runtime_maps_unhashableTypeError_RuntimeError : Nat := 98
def impl_Grid_last : Nat := 99
def impl_Style_flags : Nat := 100
def impl_Parser_copied : Nat := 101
def impl_Term_copied : Nat := 102
def impl_Chain_last : Nat := 103
def impl_World_copied : Nat := 104
def impl_Client_copied : Nat := 105
def internal_abi_Kind_String : Nat := 106
end fn
namespace ty
def internal_abi_BoundsErrorCode : Nat := 6
def runtime_boundsError : Nat := 8
def runtime_errorString : Nat := 10
def runtime_plainError : Nat := 11
def runtime_errorAddressString : Nat := 14
def internal_runtime_maps_unhashableTypeError : Nat := 19
def impl_Grid : Nat := 24
def impl_Style : Nat := 26
def impl_Parser : Nat := 29
def impl_Feeder : Nat := 31
def impl_Term : Nat := 33
def impl_Session : Nat := 35
def impl_Chain : Nat := 44
def impl_World : Nat := 49
def impl_Window : Nat := 63
def impl_Client : Nat := 65
def impl_Datagram : Nat := 95
def impl_Cell : Nat := 105
def impl_Server : Nat := 109
def runtime_TypeAssertionError : Nat := 129
def runtime_PanicNilError : Nat := 132
def internal_abi_TFlag : Nat := 134
def internal_abi_Kind : Nat := 135
def internal_abi_NameOff : Nat := 138
def internal_abi_TypeOff : Nat := 139
def internal_abi_Type : Nat := 141
end ty
noncomputable abbrev PP : Program := Try.prog
def extOf (f : FuncId) : Option (List GV → Option GV) := none
def cfg : Cfg := ⟨fun f => [8, 13, 19, 20, 31, 33, 47, 48, 58, 59, 60, 61, 73].any (Nat.beq f), extOf, fun f => [69].any (Nat.beq f), fun f => [68, 42, 25, 26, 41, 6, 16, 69, 77, 24, 67, 39, 40, 15].any (Nat.beq f)⟩
theorem cfg_xr : XReach cfg := fun f e xs v h1 h2 => by
  replace h1 : extOf f = some e := h1
  unfold extOf at h1
  cases h1
instance : XR cfg := ⟨cfg_xr⟩
noncomputable def NN : NCall := nω PP cfg
noncomputable def HH : HCall := kω PP cfg
noncomputable def OO : FuncId → List GV → Nat → Option (GV × List (List GV)) := oω PP cfg
noncomputable def KC {R : Type} (k nt : Nat) (c : Code) (σ : GS) (h : Heap) (K : GX → GS → Heap → Option R) : Option R := kcode PP cfg NN HH k nt c σ h K
noncomputable def kval {R : Type} (f : GV) (args : List GV) (h : Heap) (K : GV → Heap → Option R) : Option R := match f with | .fn g caps => kcallee PP cfg NN HH g (args ++ caps) h K | _ => none
section
variable {R : Type} {k nt : Nat} {c a b : Code} {σ : GS} {h : Heap} {K : GX → GS → Heap → Option R}
theorem kseq {B : GS → Heap → Option R} (hc : c = .seq a b) (hb : ∀ σ h, KC k nt b σ h K = B σ h) :
    KC k nt c σ h K = KC k nt a σ h (fun x σ h => kx x (B σ h) (K x σ h)) := kseq_eq hc hb
theorem kcond_eq {v : GV} {o : Operand} (hc : c = .cond o a b) (hv : eval σ o = some v) : KC k nt c σ h K = kcond v (KC k nt a σ h K) (KC k nt b σ h K) := kcondP_eq hc hv
theorem kblock_eq {id : Nat} (hc : c = .block id a) : KC k nt c σ h K = KC k nt a σ h (fun x σ h => kb id x fun x => K x σ h) := kblockP_eq hc
theorem kloop_eq {B : GS → Heap → Option R} {r : Nat} (hb : ∀ σ h, kloop (fun σ h K => KC k nt a σ h K) r σ h K = B σ h) :
    kloop (fun σ h K => KC k nt a σ h K) (r + 1) σ h K = KC k nt a σ h (fun x σ h => kx x (B σ h) (K x σ h)) := kloop_eqP hb
theorem kloopc_eq (hc : c = .loop a) : KC k nt c σ h K = kloop (fun σ h K => KC k nt a σ h K) k σ h K := by subst hc; rfl
theorem kregion_eq {id : Nat} {ops : Array Oper} {draw : Bool} {gs : List (Option (Nat × Bool) × List Nat)} (hc : c = .region id ops draw) (hg : grp ops (List.range ops.size) = gs) (hk : (grpOk ops gs && (!draw || statOk cfg ops)) = true) :
    KC k nt c σ h K = kgroups PP cfg NN HH nt ops gs σ h (fun σ h => K .nrm σ h) := kregionP_eq hc hg hk
theorem kregionD_eq {id : Nat} {ops : Array Oper} {draw : Bool} {gs : List (Option (Nat × Bool) × List Nat)} {bad : List (Nat × Nat)} (hc : c = .region id ops draw) (hg : grp ops (List.range ops.size) = gs) (hs : (grpOk ops gs && (!draw || statOk cfg ops)) = false) (hk : (grpOk ops gs && dynOk cfg ops) = true) (hb : badOf cfg ops = bad) :
    KC k nt c σ h K = kgroupsD PP cfg NN HH nt ops bad gs [] σ h (fun rs σ h => bif chk bad rs then K .nrm σ h else none) := kregionPD_eq hc hg hs hk hb
theorem kfun_eq {f : FuncId} {args : List GV} {fn : Func} {fin : GV → Heap → Option R} {G : GX → GS → Heap → Option R} (hf : PP.funcs[f]? = some fn) (hb : fn.body = some c) (hn : max args.length fn.ntmps = nt)
    (hG : ∀ x σ h, (match x with | .ext _ => none | _ => kres PP σ h fn.results.toList [] fun v => fin v h) = G x σ h) :
    kfun PP cfg NN HH k f args h fin = KC k nt c (fun t => args.getD t .un) h G := kfunP_eq hf hb hn hG
end
end Go.Proofs.Ytolhjndfplfjpaa.G
