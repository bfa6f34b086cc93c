/- An operation, whichever it is. -/
import Derived.Test.YtolhjndfplfjpaaG14
namespace Go.Proofs.Ytolhjndfplfjpaa.G
open Go.RowKit
set_option linter.unusedVariables false
set_option linter.unusedSimpArgs false

section
variable {P : Program} {Pt Pp : Nat → Prop} {w : World} {ρ : Map} {h : Heap} {a : Act} {o : Oper} {σ : GS} {C : Cfg} {call : GCall} {F : Nat → Prop} {N : Nat}

theorem op_sound (hN : NameOk P) (hC : CSound P call) (hX : XSound P C) {v : GV} {h' : Heap} {lg : Lg} (e : gop P C call (eval σ) o h = some (v, h', lg)) (hev : ∀ x, x ∈ o.op.operands.toList → EV w ρ Pp Pt σ a x)
    (p : Pre Pt w ρ Pp h F h'.length) (hF : ∀ i, i ∈ lg.r ∨ i ∈ lg.w → F i) : OpTo P o a w (After Pt w ρ Pp h lg h' v) := by
  cases ho : o.op with
  | move x => exact op_move ho (hev x (by simp [ho, Op.operands])) e
  | assign x => exact op_assign ho (hev x (by simp [ho, Op.operands])) e
  | pick c x y => exact op_pick ho (hev c (by simp [ho, Op.operands])) (hev x (by simp [ho, Op.operands])) (hev y (by simp [ho, Op.operands])) e
  | alloc t => exact op_alloc ho e p
  | box t x => exact op_box ho (hev x (by simp [ho, Op.operands])) e p
  | build t ps => exact op_build ho (fun q hq => hev q.2 (by simp only [ho, Op.operands]; simp only [List.mem_map]; exact ⟨q, hq, rfl⟩)) e
  | buildSlice t n ps => exact op_buildSlice ho (fun q hq => hev q.2 (by simp only [ho, Op.operands]; simp only [List.mem_map]; exact ⟨q, hq, rfl⟩)) e p
  | load t x => exact op_load ho (hev x (by simp [ho, Op.operands])) e (fun i hi => p.hb i (hF i (.inl hi)))
  | store t x y => exact op_store ho (hev x (by simp [ho, Op.operands])) (hev y (by simp [ho, Op.operands])) e p (fun i hi => hF i (.inr hi))
  | nilCheck x => exact op_nilCheck ho (hev x (by simp [ho, Op.operands])) e
  | binOp b t x y t' => exact op_binOp ho (hev x (by simp [ho, Op.operands])) (hev y (by simp [ho, Op.operands])) e
  | unOp b t x => exact op_unOp ho (hev x (by simp [ho, Op.operands])) e
  | convert s d x => exact op_convert ho (hev x (by simp [ho, Op.operands])) e p (fun i hi => hF i (.inl hi))
  | makeInterface t x => exact op_makeInterface ho e
  | makeFunc f first caps =>
    cases f with
    | func f => exact op_makeFunc ho (fun x hx => hev x (by simp only [ho, Op.operands]; simp; exact .inr (by simpa using hx))) e
    | _ => simp only [gop, ho] at e; cases e
  | makeSlice t x y => exact op_makeSlice ho (hev x (by simp [ho, Op.operands])) (hev y (by simp [ho, Op.operands])) e p
  | slice t x lo hi mx =>
    exact op_slice ho (hev x (by simp [ho, Op.operands])) (fun y hy => hev y (by subst hy; simp [ho, Op.operands])) (fun y hy => hev y (by subst hy; simp [ho, Op.operands])) (fun y hy => hev y (by subst hy; simp [ho, Op.operands])) e
  | fieldAddr t x f => exact op_fieldAddr ho (hev x (by simp [ho, Op.operands])) e
  | field t x f => exact op_field ho (hev x (by simp [ho, Op.operands])) e
  | indexAddr t x y => exact op_indexAddr ho (hev x (by simp [ho, Op.operands])) (hev y (by simp [ho, Op.operands])) e
  | index t x y => exact op_index ho (hev x (by simp [ho, Op.operands])) (hev y (by simp [ho, Op.operands])) e
  | extract x i => exact op_extract ho (hev x (by simp [ho, Op.operands])) e
  | call c =>
    have hargs : ∀ x, x ∈ c.args.toList → EV w ρ Pp Pt σ a x := fun x hx => hev x (by
      simp only [ho, Op.operands, Call.operands]
      cases c.callee <;> simp_all)
    cases hc : c.callee with
    | builtin b =>
      by_cases hb : b = .append ∨ b = .copy ∨ b = .clear
      · exact op_append ho hc hb hargs e p hF
      · refine op_quiet ho hc ?_ hargs e
        cases b <;> first
          | (simp at hb; done)
          | (simp; done)
          | (simp only [gop, ho, hc, Option.bind_eq_bind, Option.bind_eq_some_iff, gbuiltin] at e
             obtain ⟨_, _, e⟩ := e
             cases e)
    | value f =>
      refine op_call hN hC hX ho hc (hev f ?_) hargs e p hF
      simp [ho, Op.operands, Call.operands, hc]
    | invoke r m => simp only [gop, ho, hc] at e; cases e
  | _ => simp only [gop, ho] at e; cases e
end

end Go.Proofs.Ytolhjndfplfjpaa.G
