/- Code and calls: what this machine leaves. -/
import Derived.Test.YtolhjndfplfjpaaG21
namespace Go.Proofs.Ytolhjndfplfjpaa.G
open Go.RowKit
set_option linter.unusedVariables false
set_option linter.unusedSimpArgs false

section
variable {P : Program} {C : Cfg} {call : GCall} {nt k : Nat} {ops : Array Oper}

theorem gops_frame (hfr : CFrame call) : ∀ (l : List Nat) (σ : GS) (h : Heap) (σ' : GS) (h' : Heap) (recs : List Rec), gops P C call nt ops l σ h = some (σ', h', recs) → FR h (logOf recs) h'
  | [], σ, h, σ', h', recs, e => by
    simp only [gops, Option.some.injEq, Prod.mk.injEq] at e
    obtain ⟨rfl, rfl, rfl⟩ := e
    exact FR.same _ _
  | j :: rest, σ, h, σ', h', recs, e => by
    unfold gops at e
    cases hj : ops[j]? with
    | none => rw [hj] at e; cases e
    | some o =>
      rw [hj] at e
      simp only at e
      split at e
      · split at e
        · simp only [Option.bind_eq_bind, Option.bind_eq_some_iff, Option.some.injEq, Prod.mk.injEq] at e
          obtain ⟨⟨v, h1, lg⟩, he, ⟨σ2, h2, recs2⟩, hr, rfl, rfl, rfl⟩ := e
          exact (gop_frame hfr he).trans (gops_frame hfr rest _ _ _ _ _ hr)
        · simp only [Option.bind_eq_bind, Option.bind_eq_some_iff, Option.some.injEq, Prod.mk.injEq] at e
          obtain ⟨⟨σ2, h2, recs2⟩, hr, rfl, rfl, rfl⟩ := e
          exact (FR.same h .nil).trans (gops_frame hfr rest _ _ _ _ _ hr)
      · cases e

theorem gregion_frame (hfr : CFrame call) {draw : Bool} {σ σ' : GS} {h h' : Heap} {lg : Lg} (e : gregion P C call nt ops draw σ h = some (σ', h', lg)) : FR h lg h' := by
  unfold gregion at e
  simp only [Option.bind_eq_bind, Option.bind_eq_some_iff] at e
  obtain ⟨⟨σ1, h1, l⟩, hr, e⟩ := e
  have := gops_frame hfr _ _ _ _ _ _ hr
  split at e
  · split at e
    · simp only [Option.some.injEq, Prod.mk.injEq] at e
      obtain ⟨rfl, rfl, rfl⟩ := e
      exact this
    · cases e
  · simp only [Option.some.injEq, Prod.mk.injEq] at e
    obtain ⟨rfl, rfl, rfl⟩ := e
    exact this

theorem gloop_frame {body : GS → Heap → GR} (hb : ∀ σ h x σ' h' lg, body σ h = some (x, σ', h', lg) → FR h lg h') : ∀ (k : Nat) (σ : GS) (h : Heap) (x : GX) (σ' : GS) (h' : Heap) (lg : Lg), gloop body k σ h = some (x, σ', h', lg) → FR h lg h'
  | 0, σ, h, x, σ', h', lg, e => by cases e
  | k + 1, σ, h, x, σ', h', lg, e => by
    unfold gloop at e
    split at e
    · rename_i σ1 h1 l1 h0
      obtain ⟨⟨x2, σ2, h2, l2⟩, hr, e⟩ := Option.map_eq_some_iff.1 e
      simp only [Prod.mk.injEq] at e
      obtain ⟨rfl, rfl, rfl, rfl⟩ := e
      exact (hb _ _ _ _ _ _ h0).trans (gloop_frame hb k _ _ _ _ _ _ hr)
    · exact hb _ _ _ _ _ _ e

theorem gcode_frame (hfr : CFrame call) : ∀ (c : Code) (σ : GS) (h : Heap) (x : GX) (σ' : GS) (h' : Heap) (lg : Lg), gcode P C call k nt c σ h = some (x, σ', h', lg) → FR h lg h'
  | .skip, σ, h, x, σ', h', lg, e => by
    simp only [gcode, Option.some.injEq, Prod.mk.injEq] at e
    obtain ⟨rfl, rfl, rfl, rfl⟩ := e
    exact FR.same _ _
  | .region id ops draw, σ, h, x, σ', h', lg, e => by
    simp only [gcode] at e
    obtain ⟨⟨σ2, h2, l2⟩, hr, e⟩ := Option.map_eq_some_iff.1 e
    simp only [Prod.mk.injEq] at e
    obtain ⟨rfl, rfl, rfl, rfl⟩ := e
    exact gregion_frame hfr hr
  | .seq a b, σ, h, x, σ', h', lg, e => by
    simp only [gcode] at e
    split at e
    · rename_i σ1 h1 l1 h0
      obtain ⟨⟨x2, σ2, h2, l2⟩, hr, e⟩ := Option.map_eq_some_iff.1 e
      simp only [Prod.mk.injEq] at e
      obtain ⟨rfl, rfl, rfl, rfl⟩ := e
      exact (gcode_frame hfr a _ _ _ _ _ _ h0).trans (gcode_frame hfr b _ _ _ _ _ _ hr)
    · exact gcode_frame hfr a _ _ _ _ _ _ e
  | .cond c a b, σ, h, x, σ', h', lg, e => by
    simp only [gcode] at e
    split at e
    · rename_i t ht
      cases t with
      | true => exact gcode_frame hfr a _ _ _ _ _ _ e
      | false => exact gcode_frame hfr b _ _ _ _ _ _ e
    · cases e
  | .block id c, σ, h, x, σ', h', lg, e => by
    simp only [gcode] at e
    split at e
    · rename_i id' σ1 h1 l1 h0
      split at e
      · simp only [Option.some.injEq, Prod.mk.injEq] at e
        obtain ⟨rfl, rfl, rfl, rfl⟩ := e
        exact gcode_frame hfr c _ _ _ _ _ _ h0
      · simp only [Option.some.injEq, Prod.mk.injEq] at e
        obtain ⟨rfl, rfl, rfl, rfl⟩ := e
        exact gcode_frame hfr c _ _ _ _ _ _ h0
    · exact gcode_frame hfr c _ _ _ _ _ _ e
  | .loop c, σ, h, x, σ', h', lg, e => by
    simp only [gcode] at e
    exact gloop_frame (fun σ h x σ' h' lg e => gcode_frame hfr c σ h x σ' h' lg e) _ _ _ _ _ _ _ e
  | .exit id, σ, h, x, σ', h', lg, e => by
    simp only [gcode, Option.some.injEq, Prod.mk.injEq] at e
    obtain ⟨rfl, rfl, rfl, rfl⟩ := e
    exact FR.same _ _
  | .ret, σ, h, x, σ', h', lg, e => by
    simp only [gcode, Option.some.injEq, Prod.mk.injEq] at e
    obtain ⟨rfl, rfl, rfl, rfl⟩ := e
    exact FR.same _ _
  | .label l, σ, h, x, σ', h', lg, e => by
    simp only [gcode, Option.some.injEq, Prod.mk.injEq] at e
    obtain ⟨rfl, rfl, rfl, rfl⟩ := e
    exact FR.same _ _
  | .goto l, σ, h, x, σ', h', lg, e => by simp only [gcode] at e; cases e
  | .scope c, σ, h, x, σ', h', lg, e => by simp only [gcode] at e; cases e
  | .rangeFunc .., σ, h, x, σ', h', lg, e => by simp only [gcode] at e; cases e

theorem gcall_frame : ∀ k, CFrame (gcall P C k)
  | 0, f, args, h, v, h', lg, e => by cases e
  | k + 1, f, args, h, v, h', lg, e => by
    unfold gcall at e
    split at e
    · cases e
    · split at e
      · cases e
      · split at e
        · cases e
        · rename_i x σ2 h2 l2 hx h0
          obtain ⟨⟨v', r⟩, hr, e⟩ := Option.map_eq_some_iff.1 e
          simp only [Prod.mk.injEq] at e
          obtain ⟨rfl, rfl, rfl⟩ := e
          exact (gcode_frame (gcall_frame k) _ _ _ _ _ _ _ h0).more r
        · cases e
end

end Go.Proofs.Ytolhjndfplfjpaa.G
