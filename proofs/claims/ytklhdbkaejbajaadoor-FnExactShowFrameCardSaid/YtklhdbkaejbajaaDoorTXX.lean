/- The library functions that are told by a rule answer so: out of the shelf's contracts. -/
import Derived.Test.YtklhdbkaejbajaaDoorT3D
import Derived.Test.YtklhdbkaejbajaaDoorShelf
namespace Go.Proofs.YtklhdbkaejbajaaDoor.G
open Go.RowKit
set_option linter.unusedVariables false

theorem pow10_g : PP.globalNamed "internal/strconv.uint64pow10" = some (5) := by kernel_rfl
theorem extOf_cases {f : FuncId} {e : List GV → Option GV} (h : extOf f = some e) : (f = fn.strconv_FormatInt ∧ e = rFormatInt) ∨ (f = fn.strings_Join ∧ e = rJoin) := by
  unfold extOf at h
  cases h1 : Nat.beq f fn.strconv_FormatInt with
  | true =>
    have e1 : Nat.beq f fn.strconv_FormatInt = true := h1
    have hf := Nat.eq_of_beq_eq_true e1
    subst hf
    exact .inl ⟨rfl, Option.some.inj (h.symm.trans rfl)⟩
  | false =>
    cases h2 : Nat.beq f fn.strings_Join with
    | true =>
      have hf := Nat.eq_of_beq_eq_true h2
      subst hf
      exact .inr ⟨rfl, Option.some.inj (h.symm.trans rfl)⟩
    | false =>
      exfalso
      have h1' : Nat.beq f (139) = false := h1
      have h2' : Nat.beq f (141) = false := h2
      rw [h1', h2'] at h
      cases h
theorem xsound : XSound PP cfg := by
  intro f e args v us w Pp Pt hf he hv hlt hgl
  rcases extOf_cases hf with ⟨rfl, rfl⟩ | ⟨rfl, rfl⟩
  · refine ruleFormatInt (P := PP) (f := fn.strconv_FormatInt) ?_ args v us w Pp Pt he hv hlt hgl
    intro n w Pp hgl h1 h2
    refine Calls.mono (Tryd.strconv_FormatInt_10 n h1 h2 w (hgl.tab pow10_g fun W hb => hb)) fun en w' ⟨h3, h4⟩ => ⟨h3, grow_below h4⟩
  · refine ruleJoin (P := PP) (f := fn.strings_Join) ?_ args v us w Pp Pt he hv hlt hgl
    exact ⟨fun a c sep w => Tryd.strings_Join_none a c sep w, fun bk o c xs sep w h1 h2 h3 h4 h5 => Tryd.strings_Join bk o c xs sep w h1 h2 h3 h4 h5⟩
end Go.Proofs.YtklhdbkaejbajaaDoor.G
