/- The operations that change nothing, one by one. -/
import Derived.Test.YtolhjndfplfjpaaG5
namespace Go.Proofs.Ytolhjndfplfjpaa.G
open Go.RowKit
set_option linter.unusedVariables false
set_option linter.unusedSimpArgs false

/-- What operation o does from w on. -/
def OpTo (P : Program) (o : Oper) (a : Act) (w : World) (R : Value → World → Prop) : Prop :=
  ∀ (K : Act → World → Prop) (Q : Exit → Act → World → Prop), (∀ u w', R u w' → K (a.put o.dst u) w') → o.wp P a w K Q

/-- The other machine's value and memory after a step of this one. -/
def After (Pt : Nat → Prop) (w : World) (ρ : Map) (Pp : Nat → Prop) (h : Heap) (lg : Lg) (h' : Heap) (v : GV) (u : Value) (w' : World) : Prop :=
  ∃ ρ' Pp', VR w' ρ' Pp' v Pt u ∧ Step Pt w ρ Pp h lg w' ρ' Pp' h'

section
variable {P : Program} {Pt Pp : Nat → Prop} {w : World} {ρ : Map} {h : Heap} {a : Act} {o : Oper} {σ : GS} {C : Cfg} {call : GCall}

theorem OpTo.value {R : Value → World → Prop} {u : Value} {w' : World} (e : (execOp a.eval o).run P w = .ok (.value u) w') (r : R u w') : OpTo P o a w R :=
  fun K Q hk => by unfold Oper.wp; rw [e]; exact hk u w' r
theorem OpTo.skip {R : Value → World → Prop} {w' : World} (e : (execOp a.eval o).run P w = .ok .skip w') (r : R undef w') : OpTo P o a w R :=
  fun K Q hk => by unfold Oper.wp; rw [e]; exact hk undef w' r
theorem OpTo.same {v : GV} {r : List Nat} {u : Value} (e : (execOp a.eval o).run P w = .ok (.value u) w) (hv : VR w ρ Pp v Pt u) : OpTo P o a w (After Pt w ρ Pp h ⟨r, []⟩ h v) :=
  .value e ⟨ρ, Pp, hv, Step.none ..⟩

/-- An operand is told. -/
def EV (w : World) (ρ : Map) (Pp Pt : Nat → Prop) (σ : GS) (a : Act) (x : Operand) : Prop := ∀ g, eval σ x = some g → VR w ρ Pp g Pt (a.eval x)

theorem op_move {x : Operand} {v : GV} {h' : Heap} {lg : Lg} (ho : o.op = .move x) (hx : EV w ρ Pp Pt σ a x) (e : gop P C call (eval σ) o h = some (v, h', lg)) :
    OpTo P o a w (After Pt w ρ Pp h lg h' v) := by
  simp only [gop, ho, Option.bind_eq_bind, Option.bind_eq_some_iff, Option.some.injEq, Prod.mk.injEq] at e
  obtain ⟨g, h1, rfl, rfl, rfl⟩ := e
  exact .same (by simp [execOp, ho]) (hx _ h1)
theorem op_assign {x : Operand} {v : GV} {h' : Heap} {lg : Lg} (ho : o.op = .assign x) (hx : EV w ρ Pp Pt σ a x) (e : gop P C call (eval σ) o h = some (v, h', lg)) :
    OpTo P o a w (After Pt w ρ Pp h lg h' v) := by
  simp only [gop, ho, Option.bind_eq_bind, Option.bind_eq_some_iff, Option.some.injEq, Prod.mk.injEq] at e
  obtain ⟨g, h1, rfl, rfl, rfl⟩ := e
  exact .same (by simp [execOp, ho]) (hx _ h1)
theorem op_pick {c x y : Operand} {v : GV} {h' : Heap} {lg : Lg} (ho : o.op = .pick c x y) (hc : EV w ρ Pp Pt σ a c) (hx : EV w ρ Pp Pt σ a x) (hy : EV w ρ Pp Pt σ a y) (e : gop P C call (eval σ) o h = some (v, h', lg)) :
    OpTo P o a w (After Pt w ρ Pp h lg h' v) := by
  simp only [gop, ho, Option.bind_eq_bind, Option.bind_eq_some_iff] at e
  obtain ⟨g, h1, e⟩ := e
  split at e
  · simp only [Option.bind_eq_some_iff, Option.some.injEq, Prod.mk.injEq] at e
    obtain ⟨gx, h2, gy, h3, rfl, rfl, rfl⟩ := e
    rename_i t
    have h4 := hc _ h1
    simp only [VR, VRi] at h4
    cases t with
    | true => exact .same (u := a.eval x) (by simp [execOp, ho, h4, asBool]) (hx _ h2)
    | false => exact .same (u := a.eval y) (by simp [execOp, ho, h4, asBool]) (hy _ h3)
  · cases e
theorem op_load {t : TypeId} {x : Operand} {v : GV} {h' : Heap} {lg : Lg} (ho : o.op = .load t x) (hx : EV w ρ Pp Pt σ a x) (e : gop P C call (eval σ) o h = some (v, h', lg))
    (hb : ∀ i, i ∈ lg.r → HB w ρ Pp Pt h i) : OpTo P o a w (After Pt w ρ Pp h lg h' v) := by
  simp only [gop, ho, Option.bind_eq_bind, Option.bind_eq_some_iff, Option.some.injEq, Prod.mk.injEq] at e
  obtain ⟨g, h1, ⟨v', r⟩, h2, rfl, rfl, rfl⟩ := e
  obtain ⟨u, h3, h4⟩ := gload_run h2 (hx _ h1) hb
  exact .same (by simp [execOp, ho, h3]) h4
theorem op_nilCheck {x : Operand} {v : GV} {h' : Heap} {lg : Lg} (ho : o.op = .nilCheck x) (hx : EV w ρ Pp Pt σ a x) (e : gop P C call (eval σ) o h = some (v, h', lg)) :
    OpTo P o a w (After Pt w ρ Pp h lg h' v) := by
  simp only [gop, ho, Option.bind_eq_bind, Option.bind_eq_some_iff] at e
  obtain ⟨g, h1, e⟩ := e
  have h4 := hx _ h1
  split at e
  · simp only [Option.some.injEq, Prod.mk.injEq] at e
    obtain ⟨rfl, rfl, rfl⟩ := e
    have h5 := h4
    obtain ⟨c, sh, _, h6⟩ := h4
    exact .same (u := a.eval x) (by simp [execOp, ho, h6]) h5
  · simp only [Option.some.injEq, Prod.mk.injEq] at e
    obtain ⟨rfl, rfl, rfl⟩ := e
    have h5 := h4
    obtain ⟨A, h6, _⟩ := h4
    exact .same (u := a.eval x) (by simp [execOp, ho, h6]) h5
  · simp only [Option.some.injEq, Prod.mk.injEq] at e
    obtain ⟨rfl, rfl, rfl⟩ := e
    have h5 := h4
    obtain ⟨us, h6, _⟩ := h4
    exact .same (u := a.eval x) (by simp [execOp, ho, h6]) h5
  · cases e
theorem op_binOp {b : BinOp} {t t' : TypeId} {x y : Operand} {v : GV} {h' : Heap} {lg : Lg} (ho : o.op = .binOp b t x y t') (hx : EV w ρ Pp Pt σ a x) (hy : EV w ρ Pp Pt σ a y) (e : gop P C call (eval σ) o h = some (v, h', lg)) :
    OpTo P o a w (After Pt w ρ Pp h lg h' v) := by
  simp only [gop, ho, Option.bind_eq_bind, Option.bind_eq_some_iff, Option.some.injEq, Prod.mk.injEq] at e
  obtain ⟨g, h1, g', h2, r, h3, rfl, rfl, rfl⟩ := e
  obtain ⟨z, h4, h5⟩ := gbinop_run x y h3 (hx _ h1) (hy _ h2)
  refine .same (u := z) ?_ h5
  simp only [execOp, ho]
  rw [Sem.run_bind, h4]
  rfl
theorem op_unOp {b : UnOp} {t : TypeId} {x : Operand} {v : GV} {h' : Heap} {lg : Lg} (ho : o.op = .unOp b t x) (hx : EV w ρ Pp Pt σ a x) (e : gop P C call (eval σ) o h = some (v, h', lg)) :
    OpTo P o a w (After Pt w ρ Pp h lg h' v) := by
  simp only [gop, ho, Option.bind_eq_bind, Option.bind_eq_some_iff] at e
  obtain ⟨g, h1, e⟩ := e
  have h4 := hx _ h1
  split at e
  · simp only [Option.some.injEq, Prod.mk.injEq] at e
    obtain ⟨rfl, rfl, rfl⟩ := e
    simp only [VR, VRi] at h4
    exact .same (by simp [execOp, ho, h4, Op.unary, Op.intArith]) rfl
  · simp only [Option.some.injEq, Prod.mk.injEq] at e
    obtain ⟨rfl, rfl, rfl⟩ := e
    simp only [VR, VRi] at h4
    exact .same (by simp [execOp, ho, h4, Op.unary]) rfl
  · cases e
theorem op_makeInterface {t : TypeId} {x : Operand} {v : GV} {h' : Heap} {lg : Lg} (ho : o.op = .makeInterface t x) (e : gop P C call (eval σ) o h = some (v, h', lg)) :
    OpTo P o a w (After Pt w ρ Pp h lg h' v) := by
  simp only [gop, ho, Option.bind_eq_bind, Option.bind_eq_some_iff] at e
  obtain ⟨g, h1, e⟩ := e
  split at e
  · cases e
  · rename_i d hn hu
    simp only [Option.some.injEq, Prod.mk.injEq] at e
    obtain ⟨rfl, rfl, rfl⟩ := e
    refine .same (u := .iface t (a.eval x)) ?_ ⟨_, _, rfl⟩
    simp only [execOp, ho, Instr.makeInterface, Sem.run_bind, run_underlying hu, Result.andThen_ok]
    cases d <;> first
      | exact absurd hu (hn _)
      | simp
  · cases e
theorem op_makeFunc {f : FuncId} {first caps : Array Operand} {v : GV} {h' : Heap} {lg : Lg} (ho : o.op = .makeFunc (.func f) first caps) (hx : ∀ x, x ∈ caps.toList → EV w ρ Pp Pt σ a x) (e : gop P C call (eval σ) o h = some (v, h', lg)) :
    OpTo P o a w (After Pt w ρ Pp h lg h' v) := by
  simp only [gop, ho, Option.bind_eq_bind, Option.bind_eq_some_iff] at e
  obtain ⟨cs, h1, e⟩ := e
  split at e
  · rename_i hf
    simp only [Option.some.injEq, Prod.mk.injEq] at e
    obtain ⟨rfl, rfl, rfl⟩ := e
    have hf' : first = #[] := Array.eq_empty_of_size_eq_zero hf
    subst hf'
    refine .same (u := .func (.func f) #[] (caps.map a.eval)) (by simp [execOp, ho, Instr.makeFunc]) ⟨_, rfl, ?_⟩
    rw [Array.toList_map]
    generalize caps.toList = l at h1 hx
    induction l generalizing cs with
    | nil => simp at h1; subst h1; simp [VRs, VRsi]
    | cons x l ih =>
      simp only [List.mapM_cons, Option.bind_eq_bind, Option.bind_eq_some_iff, Option.pure_def, Option.some.injEq] at h1
      obtain ⟨g, h1, gs', h2, rfl⟩ := h1
      exact ⟨_, _, rfl, hx x (by simp) _ h1, ih _ h2 (fun y hy => hx y (by simp [hy]))⟩
  · cases e
theorem op_field {t : TypeId} {x : Operand} {f : Nat} {v : GV} {h' : Heap} {lg : Lg} (ho : o.op = .field t x f) (hx : EV w ρ Pp Pt σ a x) (e : gop P C call (eval σ) o h = some (v, h', lg)) :
    OpTo P o a w (After Pt w ρ Pp h lg h' v) := by
  simp only [gop, ho, Option.bind_eq_bind, Option.bind_eq_some_iff] at e
  obtain ⟨d, hu, e⟩ := e
  split at e
  · simp only [Option.bind_eq_some_iff] at e
    obtain ⟨fd, hf, g, h1, e⟩ := e
    split at e
    · simp only [Option.bind_eq_some_iff, Option.some.injEq, Prod.mk.injEq] at e
      obtain ⟨g', h2, rfl, rfl, rfl⟩ := e
      obtain ⟨us, h3, h4⟩ := hx _ h1
      obtain ⟨z, h5, h6⟩ := gpart_run h2 h4
      exact .same (u := z) (by simp [execOp, ho, Instr.field, run_underlying hu, hf, h3, asAgg, h5]) h6
    · cases e
  · cases e
theorem op_extract {x : Operand} {i : Nat} {v : GV} {h' : Heap} {lg : Lg} (ho : o.op = .extract x i) (hx : EV w ρ Pp Pt σ a x) (e : gop P C call (eval σ) o h = some (v, h', lg)) :
    OpTo P o a w (After Pt w ρ Pp h lg h' v) := by
  simp only [gop, ho, Option.bind_eq_bind, Option.bind_eq_some_iff] at e
  obtain ⟨g, h1, e⟩ := e
  split at e
  · simp only [Option.bind_eq_some_iff, Option.some.injEq, Prod.mk.injEq] at e
    obtain ⟨g', h2, rfl, rfl, rfl⟩ := e
    obtain ⟨us, h3, h4⟩ := hx _ h1
    obtain ⟨z, h5, h6⟩ := VRs_get h4 i _ h2
    have h7 : us[i]? = some z := by simpa using h5
    exact .same (u := z) (by simp [execOp, ho, Instr.extract, h3, h7]) h6
  · cases e

theorem add_add (A : Addr) (i j : Nat) : (A.add i).add j = A.add (i + j) := by
  unfold Addr.add
  by_cases hi : i = 0
  · subst hi; simp
  · by_cases hj : j = 0
    · subst hj; simp
    · rw [if_neg hi, if_neg hj, if_neg (by omega)]
      simp; omega

theorem op_fieldAddr {t : TypeId} {x : Operand} {f : Nat} {v : GV} {h' : Heap} {lg : Lg} (ho : o.op = .fieldAddr t x f) (hx : EV w ρ Pp Pt σ a x) (e : gop P C call (eval σ) o h = some (v, h', lg)) :
    OpTo P o a w (After Pt w ρ Pp h lg h' v) := by
  simp only [gop, ho, Option.bind_eq_bind, Option.bind_eq_some_iff] at e
  obtain ⟨d, hu, e⟩ := e
  split at e
  · simp only [Option.bind_eq_some_iff] at e
    obtain ⟨fd, hf, n, hn, e⟩ := e
    split at e
    · cases e
    · rename_i hn0
      simp only [Option.bind_eq_some_iff] at e
      obtain ⟨g, h1, e⟩ := e
      have h4 := hx _ h1
      have run : ∀ A, a.eval x = .pointer (some A) → (execOp a.eval o).run P w = .ok (.value (.pointer (some (A.add fd.offset)))) w := by
        intro A hA
        simp [execOp, ho, Instr.fieldAt, run_underlying hu, hf, hA, Instr.sureAddr, fieldPlace, run_sizeOf hn, hn0]
      split at e
      · simp only [Option.some.injEq, Prod.mk.injEq] at e
        obtain ⟨rfl, rfl, rfl⟩ := e
        obtain ⟨c, sh, h5, h6⟩ := h4
        exact .same (run _ h6) ⟨c, sh, h5, by rw [addr_add]; simp; omega⟩
      · rename_i tg cells
        simp only [Option.some.injEq, Prod.mk.injEq] at e
        obtain ⟨rfl, rfl, rfl⟩ := e
        obtain ⟨A, h6, h7⟩ := h4
        refine .same (run _ h6) ⟨_, rfl, fun hc => ?_⟩
        obtain ⟨h8, us, h9, h10⟩ := h7 (fun e => hc (by simp [e]))
        refine ⟨by rw [add_block]; exact h8, us.drop fd.offset, VRs_drop _ h9, fun j u hj => ?_⟩
        rw [List.getElem?_drop] at hj
        rw [add_add]
        exact h10 _ _ hj
      · cases e
  · cases e

theorem op_indexAddr {t : TypeId} {x y : Operand} {v : GV} {h' : Heap} {lg : Lg} (ho : o.op = .indexAddr t x y) (hx : EV w ρ Pp Pt σ a x) (hy : EV w ρ Pp Pt σ a y) (e : gop P C call (eval σ) o h = some (v, h', lg)) :
    OpTo P o a w (After Pt w ρ Pp h lg h' v) := by
  simp only [gop, ho, Option.bind_eq_bind, Option.bind_eq_some_iff] at e
  obtain ⟨g, h1, gi, h2, e⟩ := e
  have h4 := hx _ h1
  split at e
  · rename_i k i
    have h5 := hy _ h2
    simp only [VR, VRi] at h5
    split at e
    · rename_i e' b off len cap es hu
      split at e
      · rename_i hc
        obtain ⟨hs, hi0, hi⟩ := hc
        simp only [Option.some.injEq, Prod.mk.injEq] at e
        obtain ⟨rfl, rfl, rfl⟩ := e
        obtain ⟨c, sh, A, cap', h6, h7, h8, h9, h10⟩ := h4
        refine .same (u := .pointer (some (A.add (i.toNat * es)))) ?_ ⟨c, sh, h6, ?_⟩
        · simp [execOp, ho, Instr.indexAt, h5, h7, asIntOf, run_underlying hu, run_sizeOf hs, hi0, hi]
        · rcases h10 with h10 | ⟨rfl, _⟩
          · omega
          · rw [addr_add]; simp; omega
      · cases e
    · rename_i e' tg n es cells hu
      split at e
      · rename_i hc
        obtain ⟨hs, hi0, hi⟩ := hc
        simp only [Option.some.injEq, Prod.mk.injEq] at e
        obtain ⟨rfl, rfl, rfl⟩ := e
        obtain ⟨A, cap', h7, h8, h9, h10⟩ := h4.resolve_left (by rintro ⟨hz, _⟩; omega)
        refine .same (u := .pointer (some (A.add (i.toNat * es)))) ?_ ⟨_, rfl, fun hc => ?_⟩
        · simp [execOp, ho, Instr.indexAt, h5, h7, asIntOf, run_underlying hu, run_sizeOf hs, hi0, hi]
        · obtain ⟨h8, us, h9, h10⟩ := h10 (fun e => hc (by simp [e]))
          refine ⟨by rw [add_block]; exact h8, us.drop (i.toNat * es), VRs_drop _ h9, fun j u hj => ?_⟩
          rw [List.getElem?_drop] at hj
          rw [add_add]
          exact h10 _ _ hj
      · cases e
    · cases e
  · cases e

theorem op_index {t : TypeId} {x y : Operand} {v : GV} {h' : Heap} {lg : Lg} (ho : o.op = .index t x y) (hx : EV w ρ Pp Pt σ a x) (hy : EV w ρ Pp Pt σ a y) (e : gop P C call (eval σ) o h = some (v, h', lg)) :
    OpTo P o a w (After Pt w ρ Pp h lg h' v) := by
  simp only [gop, ho, Option.bind_eq_bind, Option.bind_eq_some_iff] at e
  obtain ⟨g, h1, gi, h2, e⟩ := e
  have h4 := hx _ h1
  split at e
  · rename_i k i
    have h5 := hy _ h2
    simp only [VR, VRi] at h5
    split at e
    · rename_i s hu
      split at e
      · rename_i hi
        split at e
        · rename_i hi0
          simp only [Option.some.injEq, Prod.mk.injEq] at e
          obtain ⟨rfl, rfl, rfl⟩ := e
          simp only [VR, VRi] at h4
          refine .same (u := .int .u8 (s[i.toNat]'hi).toNat) ?_ (by simp [VR, VRi])
          simp [execOp, ho, Instr.index, h5, h4, asIntOf, run_underlying hu, hi0, hi]
        · cases e
      · cases e
    · rename_i len e' cs hu
      simp only [Option.bind_eq_some_iff] at e
      obtain ⟨n, hn, e⟩ := e
      split at e
      · rename_i hc
        simp only [Option.bind_eq_some_iff, Option.some.injEq, Prod.mk.injEq] at e
        obtain ⟨g', h6, rfl, rfl, rfl⟩ := e
        obtain ⟨us, h7, h8⟩ := h4
        obtain ⟨z, h9, h10⟩ := gpart_run h6 h8
        refine .same (u := z) ?_ h10
        simp [execOp, ho, Instr.index, h5, h7, asIntOf, run_underlying hu, hc, run_sizeOf hn, h9]
      · cases e
    · cases e
  · cases e
end

end Go.Proofs.Ytolhjndfplfjpaa.G
