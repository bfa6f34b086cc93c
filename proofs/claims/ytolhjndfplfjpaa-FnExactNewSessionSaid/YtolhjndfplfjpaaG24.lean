/- A law that answers true in this machine answers true in the other one. -/
import Derived.Test.YtolhjndfplfjpaaG23
import Derived.Below
import Derived.KernelRfl
namespace Go.Proofs.Ytolhjndfplfjpaa.G
open Go.RowKit
set_option linter.unusedVariables false

def ansT : Option (GV × Heap × Lg) → Bool
  | some (.bool b, _, _) => b
  | _ => false

theorem ansT_some {x : Option (GV × Heap × Lg)} (h : ansT x = true) : ∃ h' lg, x = some (.bool true, h', lg) := by
  unfold ansT at h
  split at h
  · subst h; exact ⟨_, _, rfl⟩
  · cases h

theorem law_calls {P : Program} {C : Cfg} (hM : P.follows .mixedOrders = true) (hN : NameOk P) (hX : XSound P C) {k : Nat} {f : FuncId} {args : List GV} {us : List Value} {W : World} (e : ansT (gcall P C k f args []) = true)
    {Pp : Nat → Prop} (hpp : ∀ c, Pp c → c < W.heap.size) (hgl : GL W Pp) (hv : VRs W E0 Pp args (fun c => c < W.heap.size) us) : Calls P f us.toArray W fun e w' => e = .returned (.bool true) ∧ Below W.heap.size W w' := by
  obtain ⟨h', lg, he⟩ := ansT_some e
  have p : Pre (fun c => c < W.heap.size) W E0 Pp [] (fun _ => True) h'.length :=
    ⟨fun c hc => hc.elim (hpp c) id, fun i _ cs hcs => by simp at hcs, fun i j c _ _ _ ha => by obtain ⟨cs, loc, h1, _⟩ := ha; simp at h1, fun _ _ _ _ => rfl, hgl⟩
  refine Calls.mono (gcall_sound hM hN hX k f args [] _ h' lg us W E0 _ _ _ he hv p (fun _ _ => trivial)) fun en w' hen => ?_
  cases en with
  | returned u =>
    obtain ⟨ρ', Pp', hu, st⟩ := hen
    simp only [VR, VRi] at hu
    subst hu
    refine ⟨rfl, st.os, st.tape, st.output, st.size, fun c hc => st.kept c hc fun i _ ha => ?_⟩
    obtain ⟨cs, loc, h1, _⟩ := ha
    simp at h1
  | _ => exact hen.elim

theorem noExt {P : Program} {C : Cfg} (hx : ∀ f, C.ext f = none) : XSound P C := by
  intro f e args v us w Pp Pt h1
  rw [hx] at h1
  cases h1

theorem nameOk {P : Program} (h : (P.funcs.all fun fn => !(fn.name == "runtime.NumGoroutine")) = true) : NameOk P := by
  intro f fn hf
  have := Array.all_eq_true.1 h f (Array.getElem?_eq_some_iff.1 hf).1
  rw [(Array.getElem?_eq_some_iff.1 hf).2] at this
  simpa using this

end Go.Proofs.Ytolhjndfplfjpaa.G
