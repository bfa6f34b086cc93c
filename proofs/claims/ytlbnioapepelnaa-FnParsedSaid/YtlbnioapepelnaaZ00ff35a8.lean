/- What an operation of this machine leaves as it is. Regions in the order of the text. Regions in any order: what is in order, what is apart. Regions in -/
import Derived.Test.YtlbnioapepelnaaZ58f329c4
import Derived.Below
import Derived.KernelRfl
set_option linter.unusedSimpArgs false
set_option linter.unusedVariables false
namespace Go.Proofs.Ytlbnioapepelnaa.G
open Go.RowKit

structure FR (h : Heap) (lg : Lg) (h' : Heap) : Prop where
  len : h.length ≤ h'.length
  keep : ∀ i, i < h.length → i ∉ lg.w → h'[i]? = h[i]?

theorem FR.same (h : Heap) (lg : Lg) : FR h lg h := ⟨Nat.le_refl _, fun _ _ _ => rfl⟩
theorem FR.app (h : Heap) (lg : Lg) (cs : List GV) : FR h lg (h ++ [cs]) := ⟨by simp, fun i hi _ => by rw [List.getElem?_append_left hi]⟩
theorem FR.apps (h : Heap) (lg : Lg) (bl : List (List GV)) : FR h lg (h ++ bl) := ⟨by simp, fun i hi _ => by rw [List.getElem?_append_left hi]⟩
theorem FR.set {h : Heap} {lg : Lg} {i : Nat} (hi : i ∈ lg.w) (cs : List GV) : FR h lg (h.set i cs) := ⟨by simp, fun k _ hk => by rw [List.getElem?_set_ne (by rintro rfl; exact hk hi)]⟩
theorem FR.trans {h h1 h2 : Heap} {a b : Lg} (x : FR h a h1) (y : FR h1 b h2) : FR h (a.add b) h2 :=
  ⟨Nat.le_trans x.len y.len, fun i hi hn => by
    have h1 : i ∉ a.w := fun e => hn (by simp [Lg.add, e])
    have h2 : i ∉ b.w := fun e => hn (by simp [Lg.add, e])
    rw [y.keep i (Nat.lt_of_lt_of_le hi x.len) h2, x.keep i hi h1]⟩
theorem FR.more {h h' : Heap} {a : Lg} (x : FR h a h') (r : List Nat) : FR h (a.add ⟨r, []⟩) h' := x.trans (FR.same _ _)

def CFrame (call : GCall) : Prop := ∀ f args h v h' lg, call f args h = some (v, h', lg) → FR h lg h'

section
variable {P : Program} {h h' : Heap} {lg : Lg} {v : GV} {ev : Operand → Option GV} {o : Oper} {C : Cfg} {call : GCall}

theorem gcallee_frame (hC : CFrame call) {g : FuncId} {args : List GV} (e : gcallee P C call g args h = some (v, h', lg)) : FR h lg h' := by
  unfold gcallee at e
  split at e
  · cases e
  · split at e
    · split at e
      · simp only [Option.bind_eq_bind, obsi, Option.some.injEq, Prod.mk.injEq] at e
        obtain ⟨_, _, _, _, _, rfl, rfl⟩ := e
        exact FR.same _ _
      · split at e
        · split at e
          · split at e
            · simp only [Option.some.injEq, Prod.mk.injEq] at e
              obtain ⟨_, rfl, rfl⟩ := e
              exact FR.same _ _
            · cases e
          · exact hC _ _ _ _ _ _ e
        · split at e
          · simp only [Option.bind_eq_bind, obsi] at e
            obtain ⟨_, _, e⟩ := e
            split at e
            · split at e
              · simp only [Option.some.injEq, Prod.mk.injEq] at e
                obtain ⟨_, rfl, rfl⟩ := e
                exact FR.same _ _
              · cases e
            simp only [obsi] at e
            obtain ⟨⟨_, _, _⟩, _, ⟨_, _, _⟩, _, e⟩ := e
            split at e
            · simp only [Option.some.injEq, Prod.mk.injEq] at e
              obtain ⟨_, rfl, rfl⟩ := e
              exact FR.apps _ _ _
            · cases e
          simp only [Option.bind_eq_bind, obsi, Option.some.injEq, Prod.mk.injEq] at e
          obtain ⟨_, _, ⟨_, _, _⟩, _, ⟨_, _⟩, _, _, rfl, rfl⟩ := e
          exact FR.same _ _
    · cases e

theorem gappz_frame {t : TypeId} {s x : GV} (e : gappz P h t s x = some (v, h', lg)) : FR h lg h' := by
  unfold gappz at e
  simp only [Option.bind_eq_bind, obsi] at e
  obtain ⟨dd, hu, e⟩ := e
  split at e
  · simp only [obsi] at e
    obtain ⟨info, hi, z, hz, e⟩ := e
    split at e
    · split at e
      · split at e <;> (simp only [Option.some.injEq, Prod.mk.injEq] at e; obtain ⟨rfl, rfl, rfl⟩ := e; first | exact FR.same _ _ | exact FR.app _ _ _)
      · cases e
    · cases e
  · cases e

theorem gappend_frame {t : TypeId} {s x : GV} (e : gappend P h t s x = some (v, h', lg)) : FR h lg h' := by
  unfold gappend at e
  simp only [Option.bind_eq_bind, obsi] at e
  obtain ⟨dd, hu, e⟩ := e
  split at e
  · simp only [obsi] at e
    obtain ⟨info, hi, ⟨n, new, r⟩, hc, z, hz, e⟩ := e
    split at e
    · split at e
      · split at e <;> (simp only [Option.some.injEq, Prod.mk.injEq] at e; obtain ⟨rfl, rfl, rfl⟩ := e; first | exact FR.same _ _ | exact FR.app _ _ _)
      · split at e <;> (simp only [Option.some.injEq, Prod.mk.injEq] at e; obtain ⟨rfl, rfl, rfl⟩ := e; first | exact FR.same _ _ | exact FR.app _ _ _)
      · simp only [obsi] at e
        obtain ⟨cs, hcs, e⟩ := e
        split at e
        · split at e
          · simp only [Option.some.injEq, Prod.mk.injEq] at e
            obtain ⟨rfl, rfl, rfl⟩ := e
            exact FR.set (by simp) _
          · split at e
            · simp only [Option.some.injEq, Prod.mk.injEq] at e
              obtain ⟨rfl, rfl, rfl⟩ := e
              exact FR.set (by simp) _
            · cases e
        · cases e
      · cases e
    · cases e
  · cases e

theorem gcopy_frame {t : TypeId} {s x : GV} (e : gcopy P h t s x = some (v, h', lg)) : FR h lg h' := by
  unfold gcopy at e
  simp only [Option.bind_eq_bind, obsi] at e
  obtain ⟨dd, hu, e⟩ := e
  split at e
  · simp only [obsi] at e
    obtain ⟨es, hi, ⟨n, new, r⟩, hc, e⟩ := e
    split at e
    · split at e
      · simp only [Option.some.injEq, Prod.mk.injEq] at e; obtain ⟨rfl, rfl, rfl⟩ := e; exact FR.same _ _
      · simp only [Option.some.injEq, Prod.mk.injEq] at e; obtain ⟨rfl, rfl, rfl⟩ := e; exact FR.same _ _
      · simp only [obsi] at e
        obtain ⟨cs, hcs, e⟩ := e
        split at e
        · simp only [Option.some.injEq, Prod.mk.injEq] at e
          obtain ⟨rfl, rfl, rfl⟩ := e
          exact FR.set (by simp) _
        · cases e
      · cases e
    · cases e
  · cases e

theorem gclear_frame {t : TypeId} {s : GV} (e : gclear P h t s = some (v, h', lg)) : FR h lg h' := by
  unfold gclear at e
  simp only [Option.bind_eq_bind, obsi] at e
  obtain ⟨dd, hu, e⟩ := e
  split at e
  · simp only [obsi] at e
    obtain ⟨z, hi, e⟩ := e
    split at e
    · simp only [Option.some.injEq, Prod.mk.injEq] at e; obtain ⟨rfl, rfl, rfl⟩ := e; exact FR.same _ _
    · simp only [Option.some.injEq, Prod.mk.injEq] at e; obtain ⟨rfl, rfl, rfl⟩ := e; exact FR.same _ _
    · simp only [obsi] at e
      obtain ⟨cs, hcs, e⟩ := e
      split at e
      · simp only [Option.some.injEq, Prod.mk.injEq] at e
        obtain ⟨rfl, rfl, rfl⟩ := e
        exact FR.set (by simp) _
      · cases e
    · cases e
  · cases e

theorem gbuiltin_frame {b : Builtin} {ts : Array TypeId} {args : List GV} (e : gbuiltin P b ts args h = some (v, h', lg)) : FR h lg h' := by
  unfold gbuiltin at e
  split at e
  · simp only [Option.bind_eq_bind, obsi] at e
    obtain ⟨t, ht, e⟩ := e
    split at e
    · simp only [Option.some.injEq, Prod.mk.injEq] at e; obtain ⟨rfl, rfl, rfl⟩ := e; exact FR.same _ _
    · split at e
      · cases e
      · simp only [obsi, Option.some.injEq, Prod.mk.injEq] at e
        obtain ⟨_, _, rfl, rfl, rfl⟩ := e
        exact FR.same _ _
    · simp only [Option.some.injEq, Prod.mk.injEq] at e; obtain ⟨rfl, rfl, rfl⟩ := e; exact FR.same _ _
    · cases e
  · simp only [Option.bind_eq_bind, obsi] at e
    obtain ⟨t, ht, e⟩ := e
    split at e
    · simp only [Option.some.injEq, Prod.mk.injEq] at e; obtain ⟨rfl, rfl, rfl⟩ := e; exact FR.same _ _
    · simp only [Option.some.injEq, Prod.mk.injEq] at e; obtain ⟨rfl, rfl, rfl⟩ := e; exact FR.same _ _
    · cases e
  · simp only [Option.bind_eq_bind, obsi, Option.some.injEq, Prod.mk.injEq] at e
    obtain ⟨_, _, _, rfl, rfl⟩ := e
    exact FR.same _ _
  · simp only [Option.bind_eq_bind, obsi, Option.some.injEq, Prod.mk.injEq] at e
    obtain ⟨_, _, _, rfl, rfl⟩ := e
    exact FR.same _ _
  · simp only [Option.bind_eq_bind, obsi] at e
    obtain ⟨t, ht, t', ht', e⟩ := e
    split at e
    · exact gappz_frame e
    · exact gappend_frame e
    · cases e
  · simp only [Option.bind_eq_bind, obsi] at e
    obtain ⟨t, ht, e⟩ := e
    exact gcopy_frame e
  · simp only [Option.bind_eq_bind, obsi] at e
    obtain ⟨t, ht, e⟩ := e
    exact gclear_frame e
  · cases e

theorem gconvert_frame {s d : TypeId} {x : GV} (e : gconvert P s d x h = some (v, h', lg)) : FR h lg h' := by
  unfold gconvert at e
  split at e
  · simp only [Option.some.injEq, Prod.mk.injEq] at e; obtain ⟨rfl, rfl, rfl⟩ := e; exact FR.same _ _
  · simp only [Option.some.injEq, Prod.mk.injEq] at e; obtain ⟨rfl, rfl, rfl⟩ := e; exact FR.same _ _
  · split at e
    · simp only [Option.some.injEq, Prod.mk.injEq] at e; obtain ⟨rfl, rfl, rfl⟩ := e; exact FR.app _ _ _
    · cases e
  · split at e
    · split at e
      · cases e
      · cases e
      · simp only [Option.bind_eq_bind, obsi] at e
        obtain ⟨⟨n, cs, r⟩, hc, ns, hns, e⟩ := e
        split at e
        · simp only [Option.some.injEq, Prod.mk.injEq] at e; obtain ⟨rfl, rfl, rfl⟩ := e; exact FR.same _ _
        · cases e
    · cases e
  · cases e

theorem gstore_frame {t : TypeId} {a x : GV} {i : Nat} (e : gstore P h t a x = some (h', i)) : FR h ⟨[], [i]⟩ h' := by
  unfold gstore at e
  simp only [Option.bind_eq_bind, obsi] at e
  obtain ⟨n, hn, e⟩ := e
  split at e
  · split at e
    · simp only [obsi] at e
      obtain ⟨cs, hcs, e⟩ := e
      split at e
      · simp only [Option.some.injEq, Prod.mk.injEq] at e
        obtain ⟨rfl, rfl⟩ := e
        exact FR.set (by simp) _
      · cases e
    · cases e
  · cases e

theorem gop_frame (hC : CFrame call) (e : gop P C call ev o h = some (v, h', lg)) : FR h lg h' := by
  unfold gop at e
  split at e
  · simp only [Option.bind_eq_bind, obsi, Option.some.injEq, Prod.mk.injEq] at e
    obtain ⟨_, _, _, rfl, rfl⟩ := e; exact FR.same _ _
  · simp only [Option.bind_eq_bind, obsi, Option.some.injEq, Prod.mk.injEq] at e
    obtain ⟨_, _, _, rfl, rfl⟩ := e; exact FR.same _ _
  · simp only [Option.bind_eq_bind, obsi] at e
    obtain ⟨_, _, e⟩ := e
    split at e
    · simp only [obsi, Option.some.injEq, Prod.mk.injEq] at e
      obtain ⟨_, _, _, _, _, rfl, rfl⟩ := e; exact FR.same _ _
    · cases e
  · simp only [Option.bind_eq_bind, obsi, Option.some.injEq, Prod.mk.injEq] at e
    obtain ⟨_, _, _, rfl, rfl⟩ := e; exact FR.app _ _ _
  · simp only [Option.bind_eq_bind, obsi, Option.some.injEq, Prod.mk.injEq] at e
    obtain ⟨_, _, _, rfl, rfl⟩ := e; exact FR.app _ _ _
  · simp only [Option.bind_eq_bind, obsi] at e
    obtain ⟨_, _, _, _, e⟩ := e
    split at e
    · simp only [obsi, Option.some.injEq, Prod.mk.injEq] at e
      obtain ⟨_, _, _, _, _, rfl, rfl⟩ := e; exact FR.same _ _
    · simp only [obsi, Option.some.injEq, Prod.mk.injEq] at e
      obtain ⟨_, _, _, _, _, rfl, rfl⟩ := e; exact FR.same _ _
    · cases e
  · simp only [Option.bind_eq_bind, obsi] at e
    obtain ⟨_, _, e⟩ := e
    split at e
    · simp only [obsi] at e
      obtain ⟨_, _, _, _, _, _, e⟩ := e
      split at e
      · simp only [obsi] at e
        obtain ⟨_, _, e⟩ := e
        split at e
        · simp only [Option.some.injEq, Prod.mk.injEq] at e
          obtain ⟨_, rfl, rfl⟩ := e; exact FR.same _ _
        · simp only [Option.some.injEq, Prod.mk.injEq] at e
          obtain ⟨_, rfl, rfl⟩ := e; exact FR.app _ _ _
      · cases e
    · cases e
  · simp only [Option.bind_eq_bind, obsi, Option.some.injEq, Prod.mk.injEq] at e
    obtain ⟨_, _, ⟨_, _⟩, _, _, rfl, rfl⟩ := e; exact FR.same _ _
  · simp only [Option.bind_eq_bind, obsi, Option.some.injEq, Prod.mk.injEq] at e
    obtain ⟨_, _, _, _, ⟨_, _⟩, hs, _, rfl, rfl⟩ := e
    exact gstore_frame hs
  · simp only [Option.bind_eq_bind, obsi] at e
    obtain ⟨_, _, e⟩ := e
    split at e <;> first
      | (simp only [Option.some.injEq, Prod.mk.injEq] at e; obtain ⟨_, rfl, rfl⟩ := e; exact FR.same _ _)
      | cases e
  · simp only [Option.bind_eq_bind, obsi, Option.some.injEq, Prod.mk.injEq] at e
    obtain ⟨_, _, _, _, _, _, _, rfl, rfl⟩ := e; exact FR.same _ _
  · simp only [Option.bind_eq_bind, obsi] at e
    obtain ⟨_, _, e⟩ := e
    split at e <;> first
      | (simp only [Option.some.injEq, Prod.mk.injEq] at e; obtain ⟨_, rfl, rfl⟩ := e; exact FR.same _ _)
      | cases e
  · simp only [Option.bind_eq_bind, obsi] at e
    obtain ⟨_, _, e⟩ := e
    exact gconvert_frame e
  · simp only [Option.bind_eq_bind, obsi] at e
    obtain ⟨_, _, e⟩ := e
    split at e <;> first
      | (simp only [Option.some.injEq, Prod.mk.injEq] at e; obtain ⟨_, rfl, rfl⟩ := e; exact FR.same _ _)
      | cases e
  · simp only [Option.bind_eq_bind, obsi] at e
    obtain ⟨_, _, e⟩ := e
    split at e
    · simp only [Option.some.injEq, Prod.mk.injEq] at e; obtain ⟨_, rfl, rfl⟩ := e; exact FR.same _ _
    · cases e
  · simp only [Option.bind_eq_bind, obsi] at e
    obtain ⟨_, _, e⟩ := e
    split at e
    · simp only [obsi] at e
      obtain ⟨_, _, _, _, _, _, e⟩ := e
      split at e
      · simp only [obsi] at e
        obtain ⟨_, _, e⟩ := e
        split at e
        · split at e
          · simp only [Option.some.injEq, Prod.mk.injEq] at e; obtain ⟨_, rfl, rfl⟩ := e; exact FR.app _ _ _
          · cases e
        · cases e
      · cases e
    · cases e
  · simp only [Option.bind_eq_bind, obsi] at e
    obtain ⟨_, _, _, _, _, _, _, _, e⟩ := e
    split at e
    · simp only [obsi, Option.some.injEq, Prod.mk.injEq] at e
      obtain ⟨_, _, _, rfl, rfl⟩ := e; exact FR.same _ _
    · split at e
      · simp only [obsi, Option.some.injEq, Prod.mk.injEq] at e
        obtain ⟨_, _, _, rfl, rfl⟩ := e; exact FR.same _ _
      · cases e
    · split at e
      · simp only [obsi, Option.some.injEq, Prod.mk.injEq] at e
        obtain ⟨_, _, _, rfl, rfl⟩ := e; exact FR.same _ _
      · cases e
    · simp only [obsi, Option.some.injEq, Prod.mk.injEq] at e
      obtain ⟨_, _, _, _, _, rfl, rfl⟩ := e; exact FR.same _ _
    · simp only [obsi, Option.some.injEq, Prod.mk.injEq] at e
      obtain ⟨_, _, _, _, _, rfl, rfl⟩ := e; exact FR.same _ _
    · cases e
  · simp only [Option.bind_eq_bind, obsi] at e
    obtain ⟨_, _, e⟩ := e
    split at e
    · simp only [obsi] at e
      obtain ⟨_, _, _, _, e⟩ := e
      split at e
      · cases e
      · simp only [obsi] at e
        obtain ⟨_, _, e⟩ := e
        split at e <;> first
          | (simp only [Option.some.injEq, Prod.mk.injEq] at e; obtain ⟨_, rfl, rfl⟩ := e; exact FR.same _ _)
          | cases e
    · cases e
  · simp only [Option.bind_eq_bind, obsi] at e
    obtain ⟨_, _, e⟩ := e
    split at e
    · simp only [obsi] at e
      obtain ⟨_, _, _, _, e⟩ := e
      split at e
      · simp only [obsi, Option.some.injEq, Prod.mk.injEq] at e
        obtain ⟨_, _, _, rfl, rfl⟩ := e; exact FR.same _ _
      · cases e
    · cases e
  · simp only [Option.bind_eq_bind, obsi] at e
    obtain ⟨_, _, _, _, e⟩ := e
    split at e
    · split at e
      · split at e
        · simp only [Option.some.injEq, Prod.mk.injEq] at e; obtain ⟨_, rfl, rfl⟩ := e; exact FR.same _ _
        · cases e
      · split at e
        · simp only [Option.some.injEq, Prod.mk.injEq] at e; obtain ⟨_, rfl, rfl⟩ := e; exact FR.same _ _
        · cases e
      · obtain ⟨_, _, e⟩ := obsi.1 e
        split at e
        · simp only [Option.some.injEq, Prod.mk.injEq] at e; obtain ⟨_, rfl, rfl⟩ := e; exact FR.same _ _
        · cases e
      · obtain ⟨_, _, e⟩ := obsi.1 e
        split at e
        · simp only [Option.some.injEq, Prod.mk.injEq] at e; obtain ⟨_, rfl, rfl⟩ := e; exact FR.same _ _
        · cases e
      · cases e
    · cases e
  · simp only [Option.bind_eq_bind, obsi] at e
    obtain ⟨_, _, _, _, e⟩ := e
    split at e
    · split at e
      · split at e
        · split at e
          · simp only [Option.some.injEq, Prod.mk.injEq] at e; obtain ⟨_, rfl, rfl⟩ := e; exact FR.same _ _
          · cases e
        · cases e
      · simp only [obsi] at e
        obtain ⟨_, _, e⟩ := e
        split at e
        · simp only [obsi, Option.some.injEq, Prod.mk.injEq] at e
          obtain ⟨_, _, _, rfl, rfl⟩ := e; exact FR.same _ _
        · cases e
      · cases e
    · cases e
  · simp only [Option.bind_eq_bind, obsi] at e
    obtain ⟨_, _, e⟩ := e
    split at e
    · simp only [obsi, Option.some.injEq, Prod.mk.injEq] at e
      obtain ⟨_, _, _, rfl, rfl⟩ := e; exact FR.same _ _
    · cases e
  · split at e
    · simp only [Option.bind_eq_bind, obsi] at e
      obtain ⟨_, _, e⟩ := e
      exact gbuiltin_frame e
    · simp only [Option.bind_eq_bind, obsi] at e
      obtain ⟨_, _, e⟩ := e
      split at e
      · simp only [obsi] at e
        obtain ⟨_, _, e⟩ := e
        exact gcallee_frame hC e
      · cases e
    · cases e
  · cases e
end

end Go.Proofs.Ytlbnioapepelnaa.G

namespace Go.Proofs.Ytlbnioapepelnaa.G
open Go.RowKit

structure TR (w : World) (ρ : Map) (Pp Pt : Nat → Prop) (nt : Nat) (σ : GS) (a : Act) : Prop where
  size : a.tmps.size = nt
  val : ∀ t, VR w ρ Pp (σ t) Pt (a.tmps.getD t undef)
  defers : a.defers = []

section
variable {P : Program} {Pt Pp : Nat → Prop} {w : World} {ρ : Map} {h : Heap} {a : Act} {o : Oper} {σ : GS} {C : Cfg} {call : GCall} {F : Nat → Prop} {N nt : Nat} {ops : Array Oper}

theorem eval_EV {x : Operand} (hgl : GL w Pp) (hv : ∀ t, x = .tmp t → VR w ρ Pp (σ t) Pt (a.tmps.getD t undef)) : EV w ρ Pp Pt σ a x := by
  intro g e
  cases x with
  | tmp t =>
    simp only [eval, Option.some.injEq] at e
    subst e
    exact hv t rfl
  | const v => exact VR_ofV e
  | func f =>
    simp only [eval, Option.some.injEq] at e
    subst e
    exact ⟨#[], rfl, rfl⟩
  | global k =>
    simp only [eval, Option.map_eq_some_iff] at e
    obtain ⟨cells, h1, rfl⟩ := e
    obtain ⟨A, h2, h3⟩ := (hgl.gl k cells h1).2
    exact ⟨A, h2, h3⟩

theorem VR_bool {x : GV} {b : Bool} (h : VR w ρ Pp x Pt (.bool b)) : x = .bool b := by
  cases x <;> simp [VR, VRi, undef] at h <;> first | (subst h; rfl) | skip

theorem yield_eq {j : Nat} (hv : ∀ d, (ops[j]?).bind (·.dst) = some d → VR w ρ Pp (σ d) Pt (a.tmps.getD d undef)) : yielded ops a.tmps j = gyield ops σ j := by
  unfold yielded gyield
  cases hd : (ops[j]?).bind (·.dst) with
  | none => simp
  | some d =>
    have hh := hv d hd
    simp only [Option.bind_some]
    cases ht : a.tmps[d]? with
    | none =>
      have e0 : a.tmps.getD d undef = undef := by simp [ht]
      rw [e0] at hh
      cases hs : σ d <;> rw [hs] at hh <;> simp [VR, VRi, undef] at hh ⊢
    | some v =>
      have e0 : a.tmps.getD d undef = v := by simp [ht]
      rw [e0] at hh
      cases v with
      | bool b => rw [VR_bool hh]
      | _ => cases hs : σ d <;> rw [hs] at hh <;> simp [VR, VRi, undef] at hh ⊢

theorem wanted_eq {o : Oper} (hv : ∀ j want d, o.guard = some (j, want) → (ops[j]?).bind (·.dst) = some d → VR w ρ Pp (σ d) Pt (a.tmps.getD d undef)) : Region.wanted o (yielded ops a.tmps) = Region.wanted o (gyield ops σ) := by
  unfold Region.wanted
  cases hg : o.guard with
  | none => rfl
  | some p =>
    obtain ⟨j, want⟩ := p
    simp only
    rw [yield_eq (fun d hd => hv j want d hg hd)]

theorem getD_put {dst : Option Tmp} {u : Value} {t : Nat} (hd : dstOk a.tmps.size dst = true) : (a.put dst u).tmps.getD t undef = if dst = some t then u else a.tmps.getD t undef := by
  cases dst with
  | none => simp [Act.put]
  | some d =>
    simp only [dstOk] at hd
    have hd' : d < a.tmps.size := by simpa using hd
    by_cases hdt : d = t
    · subst hdt
      simp [Act.put, hd']
    · simp only [Act.put, Option.some.injEq, hdt, if_false]
      simp [Array.getElem?_setIfInBounds, hdt]

theorem upd_eq {dst : Option Tmp} {v : GV} {t : Nat} : upd σ dst v t = if dst = some t then v else σ t := by
  cases dst with
  | none => simp [upd]
  | some d =>
    simp only [upd, Option.some.injEq]
    by_cases hdt : d = t
    · subst hdt; simp
    · have : Nat.beq t d = false := by
        cases hb : Nat.beq t d with
        | false => rfl
        | true => exact absurd (Nat.eq_of_beq_eq_true hb).symm hdt
      simp [hdt, this]

theorem put_size {dst : Option Tmp} {u : Value} : (a.put dst u).tmps.size = a.tmps.size := by
  cases dst <;> simp [Act.put]
theorem put_defers {dst : Option Tmp} {u : Value} : (a.put dst u).defers = a.defers := by
  cases dst <;> simp [Act.put]

theorem TR.put {w' : World} {ρ' : Map} {Pp' : Nat → Prop} {dst : Option Tmp} {v : GV} {u : Value} (tr : TR w ρ Pp Pt nt σ a) (hd : dstOk nt dst = true) (hv : VR w' ρ' Pp' v Pt u)
    (hm : ∀ t, VR w ρ Pp (σ t) Pt (a.tmps.getD t undef) → VR w' ρ' Pp' (σ t) Pt (a.tmps.getD t undef)) : TR w' ρ' Pp' Pt nt (upd σ dst v) (a.put dst u) := by
  refine ⟨by rw [put_size]; exact tr.size, fun t => ?_, by rw [put_defers]; exact tr.defers⟩
  rw [getD_put (by rw [tr.size]; exact hd), upd_eq]
  split
  · exact hv
  · exact hm t (tr.val t)

theorem ops_seq (hN : NameOk P) (hC : CSound P call) (hX : XSound P C) {Q : Exit → Act → World → Prop} : ∀ (l : List Nat) (σ : GS) (h : Heap) (a : Act) (w : World) (ρ : Map) (Pp : Nat → Prop) (σ' : GS) (h' : Heap) (recs : List Rec),
    gops P C call nt ops l σ h = some (σ', h', recs) → TR w ρ Pp Pt nt σ a → Pre Pt w ρ Pp h F N → h'.length ≤ N → (∀ i, i ∈ (logOf recs).r ∨ i ∈ (logOf recs).w → F i) →
    (h.length ≤ h'.length) → (CFrame call) →
    (∀ a' w' ρ' Pp', TR w' ρ' Pp' Pt nt σ' a' → Step Pt w ρ Pp h (logOf recs) w' ρ' Pp' h' → Q .normal a' w') → wpOps P ops Q l a w
  | [], σ, h, a, w, ρ, Pp, σ', h', recs, e, tr, p, hn, hF, hle, hfr, hQ => by
    simp only [gops, Option.some.injEq, Prod.mk.injEq] at e
    obtain ⟨rfl, rfl, rfl⟩ := e
    exact hQ a w ρ Pp tr (Step.none ..)
  | j :: rest, σ, h, a, w, ρ, Pp, σ', h', recs, e, tr, p, hn, hF, hle, hfr, hQ => by
    unfold gops at e
    unfold wpOps
    cases hj : ops[j]? with
    | none => rw [hj] at e; cases e
    | some o =>
      rw [hj] at e
      simp only at e ⊢
      rw [wanted_eq (σ := σ) (fun _ _ d _ _ => tr.val d)]
      split at e
      · rename_i hd
        by_cases hw : Region.wanted o (gyield ops σ) = true
        · rw [if_pos hw] at e ⊢
          simp only [Option.bind_eq_bind, obsi, Option.some.injEq, Prod.mk.injEq] at e
          obtain ⟨⟨v, h1, lg⟩, he, ⟨σ2, h2, recs2⟩, hr, rfl, rfl, rfl⟩ := e
          have fr := gop_frame hfr he
          have fr2 := gops_len hfr rest _ _ _ _ _ hr
          left
          refine op_sound hN hC hX he (fun x _ => eval_EV p.gl fun t _ => tr.val t) (p.less (N' := h1.length) (Nat.le_trans fr2 hn)) (fun i hi => hF i (by simp only [logOf, Lg.add]; rcases hi with hi | hi <;> simp [hi])) _ _ fun u w' ⟨ρ', Pp', hv, st⟩ => ?_
          have hFw : ∀ i, i ∈ lg.w → F i := fun i hi => hF i (by simp only [logOf, Lg.add]; simp [hi])
          refine ops_seq hN hC hX rest _ h1 _ w' ρ' Pp' σ2 h2 recs2 hr (tr.put hd hv fun t ht => st.val p hFw ht) (st.after p hFw) hn (fun i hi => hF i (by simp only [logOf, Lg.add]; rcases hi with hi | hi <;> simp [hi])) fr2 hfr fun a' w2 ρ2 P2 tr2 st2 => ?_
          exact hQ a' w2 ρ2 P2 tr2 (st.trans st2 p hFw (fun i hi => .inl (hF i (by simp only [logOf, Lg.add]; simp [hi]))))
        · rw [if_neg hw] at e ⊢
          simp only [Option.bind_eq_bind, obsi, Option.some.injEq, Prod.mk.injEq] at e
          obtain ⟨⟨σ2, h2, recs2⟩, hr, rfl, rfl, rfl⟩ := e
          have el : logOf (⟨j, h.length, h.length, .nil⟩ :: recs2) = logOf recs2 := by simp [logOf, Lg.add, Lg.nil]
          rw [el] at hF hQ
          exact ops_seq hN hC hX rest _ h _ w ρ Pp σ2 h2 recs2 hr (tr.put hd (by simp [VR, VRi]) fun t ht => ht) p hn hF hle hfr hQ
      · cases e
where gops_len (hfr : CFrame call) : ∀ (l : List Nat) (σ : GS) (h : Heap) (σ' : GS) (h' : Heap) (recs : List Rec), gops P C call nt ops l σ h = some (σ', h', recs) → h.length ≤ h'.length
        | [], σ, h, σ', h', recs, e => by
          simp only [gops, Option.some.injEq, Prod.mk.injEq] at e
          obtain ⟨rfl, rfl, rfl⟩ := e
          exact Nat.le_refl _
        | j :: rest, σ, h, σ', h', recs, e => by
          unfold gops at e
          cases hj : ops[j]? with
          | none => rw [hj] at e; cases e
          | some o =>
            rw [hj] at e
            simp only at e
            split at e
            · split at e
              · simp only [Option.bind_eq_bind, obsi, Option.some.injEq, Prod.mk.injEq] at e
                obtain ⟨⟨v, h1, lg⟩, he, ⟨σ2, h2, recs2⟩, hr, rfl, rfl, rfl⟩ := e
                exact Nat.le_trans (gop_frame hfr he).len (gops_len hfr rest _ _ _ _ _ hr)
              · simp only [Option.bind_eq_bind, obsi, Option.some.injEq, Prod.mk.injEq] at e
                obtain ⟨⟨σ2, h2, recs2⟩, hr, rfl, rfl, rfl⟩ := e
                exact gops_len hfr rest _ _ _ _ _ hr
            · cases e
end

end Go.Proofs.Ytlbnioapepelnaa.G

namespace Go.Proofs.Ytlbnioapepelnaa.G
open Go.RowKit

/-! Masks. -/
theorem masks_spec (ops : Array Oper) (he : edgesOk ops = true) (i : Nat) (o : Oper) (ho : ops[i]? = some o) (k : Nat) (hk : ((masks ops).getD i 0).testBit k = true) :
    ∃ e, e ∈ o.after.toList ∧ Region.binds .any e = true ∧ e.on < i ∧ (k = e.on ∨ ((masks ops).getD e.on 0).testBit k = true) := by
  have hi : i < ops.size := (Array.getElem?_eq_some_iff.1 ho).1
  let f : List Nat → Oper → List Nat := fun acc o => acc ++ [maskOf acc o]
  have hlen : ∀ (l : List Oper) (acc : List Nat), (l.foldl f acc).length = acc.length + l.length := by
    intro l
    induction l with
    | nil => simp
    | cons x l ih => intro acc; rw [List.foldl_cons, ih]; simp [f]; omega
  have hpre : ∀ (l : List Oper) (acc : List Nat), (l.foldl f acc).take acc.length = acc := by
    intro l
    induction l with
    | nil => simp
    | cons x l ih =>
      intro acc
      rw [List.foldl_cons]
      have := ih (f acc x)
      have h2 : ((l.foldl f (f acc x)).take (f acc x).length).take acc.length = (l.foldl f (f acc x)).take acc.length := by
        rw [List.take_take]; congr 1; simp [f]
      rw [← h2, this]
      simp [f]
  have hget : ∀ (l : List Oper) (acc : List Nat) (j : Nat) (x : Oper), l[j]? = some x → (l.foldl f acc)[acc.length + j]? = some (maskOf ((l.foldl f acc).take (acc.length + j)) x) := by
    intro l
    induction l with
    | nil => intro acc j x hx; simp at hx
    | cons y l ih =>
      intro acc j x hx
      rw [List.foldl_cons]
      cases j with
      | zero =>
        simp at hx
        subst hx
        have h1 := hpre l (f acc y)
        have h2 : (l.foldl f (f acc y)).take acc.length = acc := by
          have h2 : ((l.foldl f (f acc y)).take (f acc y).length).take acc.length = (l.foldl f (f acc y)).take acc.length := by
            rw [List.take_take]; congr 1; simp [f]
          rw [← h2, h1]
          simp [f]
        rw [Nat.add_zero, h2]
        have h3 : (f acc y)[acc.length]? = some (maskOf acc y) := by simp [f]
        rw [← h1, List.getElem?_take] at h3
        rw [if_pos (by simp [f])] at h3
        exact h3
      | succ j =>
        have := ih (f acc y) j x (by simpa using hx)
        have hfl : (f acc y).length = acc.length + 1 := by simp [f]
        rw [hfl] at this
        rw [show acc.length + (j + 1) = acc.length + 1 + j by omega]
        exact this
  have hm : (masks ops)[i]? = some (maskOf ((masks ops).take i) o) := by
    have := hget ops.toList [] i o (by simpa using ho)
    simp only [List.length_nil, Nat.zero_add] at this
    exact this
  have hd : (masks ops).getD i 0 = maskOf ((masks ops).take i) o := by simp [List.getD, hm]
  rw [hd] at hk
  have hfold : ∀ (l : List Edge) (s : Nat), (l.foldl (fun s e => if Region.binds .any e then s ||| (2 ^ e.on ||| ((masks ops).take i).getD e.on 0) else s) s).testBit k = true →
      s.testBit k = true ∨ ∃ e, e ∈ l ∧ Region.binds .any e = true ∧ (k = e.on ∨ (((masks ops).take i).getD e.on 0).testBit k = true) := by
    intro l
    induction l with
    | nil => intro s h; exact .inl h
    | cons e l ih =>
      intro s h
      rw [List.foldl_cons] at h
      rcases ih _ h with h1 | ⟨e', h1, h2⟩
      · by_cases hb : Region.binds .any e = true
        · rw [if_pos hb] at h1
          rw [Nat.testBit_or, Nat.testBit_or, Nat.testBit_two_pow] at h1
          simp only [Bool.or_eq_true, decide_eq_true_eq] at h1
          rcases h1 with h1 | h1 | h1
          · exact .inl h1
          · exact .inr ⟨e, by simp, hb, .inl h1.symm⟩
          · exact .inr ⟨e, by simp, hb, .inr h1⟩
        · rw [if_neg hb] at h1
          exact .inl h1
      · exact .inr ⟨e', by simp [h1], h2⟩
  rcases hfold _ _ hk with h1 | ⟨e, h1, h2, h3⟩
  · simp at h1
  · have he' := List.all_eq_true.1 he i (by simpa using hi)
    simp only [ho] at he'
    have he2 := List.all_eq_true.1 he' e h1
    simp only [h2, Bool.not_true, Bool.false_or, Nat.blt_eq] at he2
    refine ⟨e, h1, h2, he2, h3.imp id fun h => ?_⟩
    have : ((masks ops).take i).getD e.on 0 = (masks ops).getD e.on 0 := by
      simp [List.getD, List.getElem?_take, he2]
    rw [← this]
    exact h

theorem slots_pair {ops : Array Oper} {m : List Nat} (hs : slotsOk ops m = true) {i j : Nat} (hij : i < j) {a b : Oper} (ha : ops[i]? = some a) (hb : ops[j]? = some b) (hm : (m.getD j 0).testBit i = false) :
    (∀ d, a.dst = some d → d ∉ slotsOf ops b) ∧ (∀ d, b.dst = some d → d ∉ slotsOf ops a) := by
  have hj : j < ops.size := (Array.getElem?_eq_some_iff.1 hb).1
  have h1 := List.all_eq_true.1 hs j (by simpa using hj)
  have h2 := List.all_eq_true.1 h1 i (by simpa using hij)
  simp only [hm, Bool.false_or, ha, hb, Bool.and_eq_true] at h2
  obtain ⟨h3, h4⟩ := h2
  constructor
  · intro d hd
    rw [hd] at h3
    simpa using h3
  · intro d hd
    rw [hd] at h4
    simpa using h4

theorem recs_pair {m : List Nat} : ∀ {l : List Rec}, recsOk m l = true → ∀ {i j : Nat} {a b : Rec}, i < j → l[i]? = some a → l[j]? = some b → (m.getD b.j 0).testBit a.j = false → meets a b = false
  | [], _, i, j, a, b, _, ha, _, _ => by simp at ha
  | x :: l, h, i, j, a, b, hij, ha, hb, hm => by
    simp only [recsOk, Bool.and_eq_true] at h
    cases j with
    | zero => omega
    | succ j =>
      simp only [List.getElem?_cons_succ] at hb
      cases i with
      | zero =>
        simp at ha
        subst ha
        have := List.all_eq_true.1 h.1 b (List.mem_of_getElem? hb)
        rw [hm] at this
        simpa using this
      | succ i =>
        simp only [List.getElem?_cons_succ] at ha
        exact recs_pair h.2 (by omega) ha hb hm

structure Apart (a b : Rec) : Prop where
  ww : ∀ i, i ∈ a.lg.w → touches b i = false ∧ i ∉ b.lg.r
  ww' : ∀ i, i ∈ b.lg.w → touches a i = false ∧ i ∉ a.lg.r
  r : ∀ i, i ∈ b.lg.r → touches a i = false
  r' : ∀ i, i ∈ a.lg.r → touches b i = false

theorem apart_of {a b : Rec} (h : meets a b = false) : Apart a b := by
  simp only [meets, Bool.or_eq_false_iff] at h
  obtain ⟨⟨⟨h1, h2⟩, h3⟩, h4⟩ := h
  refine ⟨fun i hi => ?_, fun i hi => ?_, fun i hi => ?_, fun i hi => ?_⟩
  · have := List.any_eq_false.1 h1 i hi
    simp at this
    exact ⟨by simpa using this.2, this.1⟩
  · have := List.any_eq_false.1 h2 i hi
    simp at this
    exact ⟨by simpa using this.2, this.1⟩
  · have := List.any_eq_false.1 h3 i hi
    simpa using this
  · have := List.any_eq_false.1 h4 i hi
    simpa using this

section
variable {P : Program} {C : Cfg} {call : GCall} {nt : Nat} {ops : Array Oper}

structure StepAt (P : Program) (C : Cfg) (call : GCall) (nt : Nat) (ops : Array Oper) (σs : Nat → GS) (hs : Nat → Heap) (vs : Nat → GV) (lgs : Nat → Lg) (j : Nat) : Prop where
  ex : ∃ o, ops[j]? = some o ∧ dstOk nt o.dst = true ∧ σs (j + 1) = upd (σs j) o.dst (vs j) ∧
    ((Region.wanted o (gyield ops (σs j)) = true ∧ gop P C call (eval (σs j)) o (hs j) = some (vs j, hs (j + 1), lgs j)) ∨
     (Region.wanted o (gyield ops (σs j)) = false ∧ vs j = .un ∧ hs (j + 1) = hs j ∧ lgs j = .nil))

def recAt (hs : Nat → Heap) (lgs : Nat → Lg) (j : Nat) : Rec := ⟨j, (hs j).length, (hs (j + 1)).length, lgs j⟩

theorem gops_run : ∀ (m k : Nat) (σ : GS) (h : Heap) (σ' : GS) (h' : Heap) (recs : List Rec), gops P C call nt ops (List.range' k m) σ h = some (σ', h', recs) →
    ∃ σs hs vs lgs, σs k = σ ∧ hs k = h ∧ σs (k + m) = σ' ∧ hs (k + m) = h' ∧ (∀ j, k ≤ j → j < k + m → StepAt P C call nt ops σs hs vs lgs j) ∧ recs = (List.range' k m).map (recAt hs lgs)
  | 0, k, σ, h, σ', h', recs, e => by
    simp only [List.range'_zero, gops, Option.some.injEq, Prod.mk.injEq] at e
    obtain ⟨rfl, rfl, rfl⟩ := e
    exact ⟨fun _ => σ, fun _ => h, fun _ => .un, fun _ => .nil, rfl, rfl, rfl, rfl, fun j h1 h2 => by omega, rfl⟩
  | m + 1, k, σ, h, σ', h', recs, e => by
    rw [List.range'_succ] at e
    unfold gops at e
    cases hj : ops[k]? with
    | none => rw [hj] at e; cases e
    | some o =>
      rw [hj] at e
      simp only at e
      split at e
      · rename_i hd
        have fin : ∀ (v : GV) (h1 : Heap) (lg : Lg) (recs2 : List Rec), gops P C call nt ops (List.range' (k + 1) m) (upd σ o.dst v) h1 = some (σ', h', recs2) → recs = ⟨k, h.length, h1.length, lg⟩ :: recs2 →
            ((Region.wanted o (gyield ops σ) = true ∧ gop P C call (eval σ) o h = some (v, h1, lg)) ∨ (Region.wanted o (gyield ops σ) = false ∧ v = .un ∧ h1 = h ∧ lg = .nil)) →
            ∃ σs hs vs lgs, σs k = σ ∧ hs k = h ∧ σs (k + (m + 1)) = σ' ∧ hs (k + (m + 1)) = h' ∧ (∀ j, k ≤ j → j < k + (m + 1) → StepAt P C call nt ops σs hs vs lgs j) ∧ recs = (List.range' k (m + 1)).map (recAt hs lgs) := by
          intro v h1 lg recs2 hr hrec hst
          obtain ⟨σs, hs, vs, lgs, e1, e2, e3, e4, e5, e6⟩ := gops_run m (k + 1) _ _ _ _ _ hr
          refine ⟨fun j => if j = k then σ else σs j, fun j => if j = k then h else hs j, fun j => if j = k then v else vs j, fun j => if j = k then lg else lgs j, by simp, by simp, ?_, ?_, fun j h1 h2 => ?_, ?_⟩
          · simp only [show k + (m + 1) ≠ k by omega, if_false]
            rw [← e3]; congr 1; omega
          · simp only [show k + (m + 1) ≠ k by omega, if_false]
            rw [← e4]; congr 1; omega
          · by_cases hjk : j = k
            · subst hjk
              refine ⟨o, hj, hd, ?_, ?_⟩
              · simp [e1]
              · simpa [e2] using hst
            · obtain ⟨o', q1, q2, q3, q4⟩ := (e5 j (by omega) (by omega)).ex
              refine ⟨o', q1, q2, ?_, ?_⟩
              · simpa [hjk, show j + 1 ≠ k by omega] using q3
              · simpa [hjk, show j + 1 ≠ k by omega] using q4
          · rw [hrec, List.range'_succ, List.map_cons, e6]
            congr 1
            · simp [recAt, e2]
            · apply List.map_congr_left
              intro j hjm
              have := (List.mem_range'_1.1 hjm).1
              simp [recAt, show j ≠ k by omega, show j + 1 ≠ k by omega]
        by_cases hw : Region.wanted o (gyield ops σ) = true
        · rw [if_pos hw] at e
          simp only [Option.bind_eq_bind, obsi, Option.some.injEq, Prod.mk.injEq] at e
          obtain ⟨⟨v, h1, lg⟩, he, ⟨σ2, h2, recs2⟩, hr, rfl, rfl, rfl⟩ := e
          exact fin v h1 lg recs2 hr rfl (.inl ⟨hw, he⟩)
        · rw [if_neg hw] at e
          simp only [Option.bind_eq_bind, obsi, Option.some.injEq, Prod.mk.injEq] at e
          obtain ⟨⟨σ2, h2, recs2⟩, hr, rfl, rfl, rfl⟩ := e
          exact fin .un h .nil recs2 hr rfl (.inr ⟨by simpa using hw, rfl, rfl, rfl⟩)
      · cases e
end

end Go.Proofs.Ytlbnioapepelnaa.G

namespace Go.Proofs.Ytlbnioapepelnaa.G
open Go.RowKit

section
variable {P : Program} {C : Cfg} {call : GCall} {nt : Nat} {ops : Array Oper} {σs : Nat → GS} {hs : Nat → Heap} {vs : Nat → GV} {lgs : Nat → Lg}

def dstAt (ops : Array Oper) (j : Nat) : Option Tmp := (ops[j]?).bind (·.dst)

def cur (ops : Array Oper) (σs : Nat → GS) (vs : Nat → GV) (S : Nat → Bool) : Nat → GS
  | 0, t => σs 0 t
  | m + 1, t => if S m = true ∧ dstAt ops m = some t then vs m else cur ops σs vs S m t

def cont (hs : Nat → Heap) (lgs : Nat → Lg) (S : Nat → Bool) : Nat → Nat → Option (List GV)
  | 0, i => (hs 0)[i]?
  | m + 1, i => if S m = true ∧ touches (recAt hs lgs m) i = true then (hs (m + 1))[i]? else cont hs lgs S m i

theorem cur_below {S : Nat → Bool} {t : Tmp} : ∀ {m : Nat}, (∀ j, j < m → StepAt P C call nt ops σs hs vs lgs j) → (∀ k, k < m → dstAt ops k = some t → S k = true) → cur ops σs vs S m t = σs m t
  | 0, _, _ => rfl
  | m + 1, hst, hb => by
    obtain ⟨o, q1, q2, q3, q4⟩ := (hst m (by omega)).ex
    have hd : dstAt ops m = o.dst := by simp [dstAt, q1]
    unfold cur
    rw [q3, upd_eq]
    by_cases h : o.dst = some t
    · rw [if_pos ⟨hb m (by omega) (by rw [hd]; exact h), by rw [hd]; exact h⟩, if_pos h]
    · rw [if_neg (by rw [hd]; exact fun e => h e.2), if_neg h]
      exact cur_below (fun j hj => hst j (by omega)) (fun k hk => hb k (by omega))
theorem cur_above {S : Nat → Bool} {t : Tmp} {m : Nat} : ∀ {n : Nat}, m ≤ n → (∀ k, m ≤ k → k < n → dstAt ops k = some t → S k = false) → cur ops σs vs S n t = cur ops σs vs S m t
  | n, hmn, hb => by
    by_cases h : m = n
    · subst h; rfl
    · cases n with
      | zero => omega
      | succ n =>
        rw [show cur ops σs vs S (n + 1) t = if S n = true ∧ dstAt ops n = some t then vs n else cur ops σs vs S n t from rfl, if_neg]
        · exact cur_above (by omega) (fun k h1 h2 => hb k h1 (by omega))
        · rintro ⟨h1, h2⟩
          rw [hb n (by omega) (by omega) h2] at h1
          cases h1
theorem cur_congr {S S' : Nat → Bool} {t : Tmp} : ∀ {m : Nat}, (∀ k, k < m → dstAt ops k = some t → S k = S' k) → cur ops σs vs S m t = cur ops σs vs S' m t
  | 0, _ => rfl
  | m + 1, h => by
    have ih := cur_congr (m := m) (fun k hk => h k (by omega))
    unfold cur
    rw [ih]
    by_cases hd : dstAt ops m = some t
    · rw [h m (by omega) hd]
    · rw [if_neg (fun e => hd e.2), if_neg (fun e => hd e.2)]

theorem hs_frame (hfr : CFrame call) {j : Nat} (hst : StepAt P C call nt ops σs hs vs lgs j) : FR (hs j) (lgs j) (hs (j + 1)) := by
  obtain ⟨o, q1, q2, q3, ⟨_, q4⟩ | ⟨_, _, q4, _⟩⟩ := hst.ex
  · exact gop_frame hfr q4
  · rw [q4]; exact FR.same _ _

theorem hs_mono (hfr : CFrame call) {n : Nat} (hst : ∀ j, j < n → StepAt P C call nt ops σs hs vs lgs j) {j : Nat} : ∀ {k : Nat}, j ≤ k → k ≤ n → (hs j).length ≤ (hs k).length
  | k, hjk, hk => by
    by_cases h : j = k
    · subst h; exact Nat.le_refl _
    · cases k with
      | zero => omega
      | succ k => exact Nat.le_trans (hs_mono hfr hst (by omega) (by omega)) (hs_frame hfr (hst k (by omega))).len

theorem touches_iff {j i : Nat} : touches (recAt hs lgs j) i = true ↔ i ∈ (lgs j).w ∨ ((hs j).length ≤ i ∧ i < (hs (j + 1)).length) := by
  simp [touches, recAt]

theorem untouched (hfr : CFrame call) {j i : Nat} (hst : StepAt P C call nt ops σs hs vs lgs j) (h : touches (recAt hs lgs j) i = false) : (hs (j + 1))[i]? = (hs j)[i]? := by
  have hf := hs_frame hfr hst
  have h' : ¬ (i ∈ (lgs j).w ∨ ((hs j).length ≤ i ∧ i < (hs (j + 1)).length)) := by
    rw [← touches_iff, h]; simp
  by_cases hi : i < (hs j).length
  · exact hf.keep i hi (fun e => h' (.inl e))
  · have h2 : (hs (j + 1)).length ≤ i := by
      rcases Nat.lt_or_ge i (hs (j + 1)).length with h1 | h1
      · exact absurd (.inr ⟨by omega, h1⟩) h'
      · exact h1
    rw [List.getElem?_eq_none h2, List.getElem?_eq_none (by omega : (hs j).length ≤ i)]

theorem cont_below (hfr : CFrame call) {S : Nat → Bool} {i : Nat} : ∀ {m : Nat}, (∀ j, j < m → StepAt P C call nt ops σs hs vs lgs j) → (∀ k, k < m → touches (recAt hs lgs k) i = true → S k = true) → cont hs lgs S m i = (hs m)[i]?
  | 0, _, _ => rfl
  | m + 1, hst, hb => by
    unfold cont
    cases ht : touches (recAt hs lgs m) i with
    | true => rw [if_pos ⟨hb m (by omega) ht, rfl⟩]
    | false =>
      rw [if_neg (by simp), untouched hfr (hst m (by omega)) ht]
      exact cont_below hfr (fun j hj => hst j (by omega)) (fun k hk => hb k (by omega))
theorem cont_above {S : Nat → Bool} {i m : Nat} : ∀ {n : Nat}, m ≤ n → (∀ k, m ≤ k → k < n → touches (recAt hs lgs k) i = true → S k = false) → cont hs lgs S n i = cont hs lgs S m i
  | n, hmn, hb => by
    by_cases h : m = n
    · subst h; rfl
    · cases n with
      | zero => omega
      | succ n =>
        rw [show cont hs lgs S (n + 1) i = if S n = true ∧ touches (recAt hs lgs n) i = true then (hs (n + 1))[i]? else cont hs lgs S n i from rfl, if_neg]
        · exact cont_above (by omega) (fun k h1 h2 => hb k h1 (by omega))
        · rintro ⟨h1, h2⟩
          rw [hb n (by omega) (by omega) h2] at h1
          cases h1
theorem cont_congr {S S' : Nat → Bool} {i : Nat} : ∀ {m : Nat}, (∀ k, k < m → touches (recAt hs lgs k) i = true → S k = S' k) → cont hs lgs S m i = cont hs lgs S' m i
  | 0, _ => rfl
  | m + 1, h => by
    have ih := cont_congr (m := m) (fun k hk => h k (by omega))
    unfold cont
    rw [ih]
    cases hd : touches (recAt hs lgs m) i with
    | true => rw [h m (by omega) hd]
    | false => simp

def unl (S : Nat → Bool) : Nat → Nat
  | 0 => 0
  | m + 1 => unl S m + (if S m = true then 0 else 1)
theorem unl_zero {S : Nat → Bool} : ∀ {m : Nat}, unl S m = 0 → ∀ k, k < m → S k = true
  | 0, _, k, hk => by omega
  | m + 1, h, k, hk => by
    unfold unl at h
    by_cases hkm : k = m
    · subst hkm
      by_cases hs : S k = true
      · exact hs
      · rw [if_neg hs] at h; omega
    · exact unl_zero (m := m) (by omega) k (by omega)
theorem unl_same {S S' : Nat → Bool} : ∀ {m : Nat}, (∀ k, k < m → S k = S' k) → unl S m = unl S' m
  | 0, _ => rfl
  | m + 1, h => by
    unfold unl
    rw [unl_same (m := m) (fun k hk => h k (by omega)), h m (by omega)]
theorem unl_set {S S' : Nat → Bool} {j : Nat} (hj : S j = false) (hj' : S' j = true) (ho : ∀ k, k ≠ j → S k = S' k) : ∀ {m : Nat}, j < m → unl S m = unl S' m + 1
  | 0, h => by omega
  | m + 1, h => by
    unfold unl
    by_cases hjm : j = m
    · subst hjm
      rw [hj, hj', unl_same (m := j) (fun k hk => ho k (by omega))]
      simp
    · rw [unl_set hj hj' ho (m := m) (by omega), ho m (by omega)]
      omega
end

def HBc (w : World) (ρ : Map) (Pp Pt : Nat → Prop) (c : Option (List GV)) (i : Nat) : Prop :=
  ∀ cs, c = some cs → (∃ loc, ρ i cs.length = some loc ∧ BR w ρ Pp Pt cs loc ∧ ¬ Pp loc.1 ∧ ¬ Pt loc.1) ∧ ∀ m, cs.length < m → ρ i m = none
def Atc (ρ : Map) (c : Option (List GV)) (i : Nat) (k : Nat) : Prop := ∃ cs loc, c = some cs ∧ ρ i cs.length = some loc ∧ loc.1 = k

theorem Atc.lt {w : World} {ρ : Map} {Pp Pt : Nat → Prop} {c : Option (List GV)} {i k : Nat} (hb : HBc w ρ Pp Pt c i) (ha : Atc ρ c i k) : k < w.heap.size ∧ ¬ Pp k ∧ ¬ Pt k := by
  obtain ⟨cs, loc, h1, h2, rfl⟩ := ha
  obtain ⟨⟨loc', h3, ⟨rc, ty, lo, hi, h4, _⟩, h5, h6⟩, _⟩ := hb cs h1
  rw [h2] at h3
  cases h3
  exact ⟨(Array.getElem?_eq_some_iff.1 h4).1, h5, h6⟩

structure Inv (ops : Array Oper) (σs : Nat → GS) (hs : Nat → Heap) (vs : Nat → GV) (lgs : Nat → Lg) (n nt : Nat) (F : Nat → Prop) (L : Lg) (Pt : Nat → Prop) (w0 : World) (ρ0 : Map) (P0 : Nat → Prop)
    (S : Nat → Bool) (a : Act) (w : World) (ρ : Map) (Pp : Nat → Prop) : Prop where
  size : a.tmps.size = nt
  defers : a.defers = []
  val : ∀ t, VR w ρ Pp (cur ops σs vs S n t) Pt (a.tmps.getD t undef)
  lt : ∀ c, Pp c ∨ Pt c → c < w.heap.size
  gl : GL w Pp
  hb : ∀ i, F i → HBc w ρ Pp Pt (cont hs lgs S n i) i
  inj : ∀ i j c, F i → F j → i ≠ j → Atc ρ (cont hs lgs S n i) i c → ¬ Atc ρ (cont hs lgs S n j) j c
  nw : ∀ k i m, k < n → S k = false → (hs k).length ≤ i → i < (hs (k + 1)).length → ρ i m = none
  os : w.os = w0.os
  tape : w.tape = w0.tape
  output : w.output = w0.output
  wsize : w0.heap.size ≤ w.heap.size
  keep : Keep w0 ρ0 P0 w ρ Pp
  kept : ∀ c, c < w0.heap.size → (∀ i, i ∈ L.w → ¬ At ρ0 (hs 0) i c) → w.heap[c]? = w0.heap[c]?
  ppnew : ∀ c, Pp c → P0 c ∨ (w0.heap.size ≤ c ∧ c < w.heap.size)
  rhoold : ∀ i m, (i < (hs 0).length ∧ i ∉ L.w) ∨ (hs n).length ≤ i → ρ i m = ρ0 i m
  fresh : ∀ i c, (i ∈ L.w ∨ ((hs 0).length ≤ i ∧ i < (hs n).length)) → Atc ρ (cont hs lgs S n i) i c → (w0.heap.size ≤ c ∧ c < w.heap.size) ∨ At ρ0 (hs 0) i c

end Go.Proofs.Ytlbnioapepelnaa.G

namespace Go.Proofs.Ytlbnioapepelnaa.G
open Go.RowKit

section
variable {P : Program} {C : Cfg} {call : GCall} {nt n : Nat} {ops : Array Oper} {σs : Nat → GS} {hs : Nat → Heap} {vs : Nat → GV} {lgs : Nat → Lg} {F : Nat → Prop} {L : Lg}
  {Pt : Nat → Prop} {w0 : World} {ρ0 : Map} {P0 : Nat → Prop}

structure Chk (ops : Array Oper) (hs : Nat → Heap) (lgs : Nat → Lg) (n : Nat) : Prop where
  slots : slotsOk ops (masks ops) = true
  edges : edgesOk ops = true
  recs : ∀ i j, i < j → j < n → ((masks ops).getD j 0).testBit i = false → Apart (recAt hs lgs i) (recAt hs lgs j)

def setAt (S : Nat → Bool) (j : Nat) : Nat → Bool := fun k => if k = j then true else S k

theorem inv_put (hfr : CFrame call) (hn : n = ops.size) (hst : ∀ j, j < n → StepAt P C call nt ops σs hs vs lgs j) (ck : Chk ops hs lgs n) (hF : ∀ j, j < n → ∀ i, i ∈ (lgs j).r ∨ i ∈ (lgs j).w → F i) (hL : ∀ j, j < n → ∀ i, i ∈ (lgs j).w → i ∈ L.w)
    {S : Nat → Bool} {a : Act} {w : World} {ρ : Map} {Pp : Nat → Prop} (iv : Inv ops σs hs vs lgs n nt F L Pt w0 ρ0 P0 S a w ρ Pp) (hcl : ∀ j, j < n → S j = true → ∀ k, ((masks ops).getD j 0).testBit k = true → S k = true)
    {j : Nat} (hj : j < n) (hS : S j = false) (hanc : ∀ k, ((masks ops).getD j 0).testBit k = true → S k = true) {o : Oper} (ho : ops[j]? = some o) (hd : dstOk nt o.dst = true)
    (A3 : ∀ i, i ∈ (lgs j).r ∨ i ∈ (lgs j).w → cont hs lgs S n i = (hs j)[i]?)
    {u : Value} {w' : World} {ρ' : Map} {Pp' : Nat → Prop} (hu : VR w' ρ' Pp' (vs j) Pt u) (st : Step Pt w ρ Pp (hs j) (lgs j) w' ρ' Pp' (hs (j + 1))) :
    Inv ops σs hs vs lgs n nt F L Pt w0 ρ0 P0 (setAt S j) (a.put o.dst u) w' ρ' Pp' := by
  have hdj : dstAt ops j = o.dst := by simp [dstAt, ho]
  have bit : ∀ k, k < n → S k = true → ((masks ops).getD k 0).testBit j = false := by
    intro k hk hSk
    cases hb : ((masks ops).getD k 0).testBit j with
    | false => rfl
    | true => rw [hcl k hk hSk j hb] at hS; cases hS
  have bit' : ∀ k, S k = false → ((masks ops).getD j 0).testBit k = false := by
    intro k hk
    cases hb : ((masks ops).getD j 0).testBit k with
    | false => rfl
    | true => rw [hanc k hb] at hk; cases hk
  have apUp : ∀ k, j < k → k < n → S k = true → Apart (recAt hs lgs j) (recAt hs lgs k) := fun k h1 h2 h3 => ck.recs j k h1 h2 (bit k h2 h3)
  have apDn : ∀ k, k < j → S k = false → Apart (recAt hs lgs k) (recAt hs lgs j) := fun k h1 h3 => ck.recs k j h1 hj (bit' k h3)
  have fr := hs_frame hfr (hst j hj)
  have atc : ∀ i c, i ∈ (lgs j).w → At ρ (hs j) i c → Atc ρ (cont hs lgs S n i) i c := fun i c hi ha => by rw [A3 i (.inr hi)]; exact ha
  have stays : ∀ c, Pp c ∨ Pt c → w'.heap[c]? = w.heap[c]? := fun c hc => st.kept c (iv.lt c hc) fun i hi ha => by
    have := (Atc.lt (iv.hb i (hF j hj i (.inr hi))) (atc i c hi ha)).2
    rcases hc with hc | hc
    · exact this.1 hc
    · exact this.2 hc
  have mono : ∀ {g : GV} {v : Value}, VR w ρ Pp g Pt v → VR w' ρ' Pp' g Pt v := fun {g v} hv => VR_mono st.keep g Pt Pt v (fun _ h => .inl h) stays hv
  have hm1 : (hs (j + 1)).length ≤ (hs n).length := hs_mono hfr hst (by omega) (Nat.le_refl _)
  have hm0 : (hs 0).length ≤ (hs j).length := hs_mono hfr hst (by omega) (by omega)
  -- contents after
  have contT : ∀ i, touches (recAt hs lgs j) i = true → cont hs lgs (setAt S j) n i = (hs (j + 1))[i]? := by
    intro i ht
    rw [cont_above (m := j + 1) (by omega) (fun k h1 h2 h3 => ?_)]
    · unfold cont
      rw [if_pos ⟨by simp [setAt], ht⟩]
    · have hkj : k ≠ j := by omega
      simp only [setAt, hkj, if_false]
      cases hSk : S k with
      | false => rfl
      | true =>
        have ap := apUp k (by omega) h2 hSk
        rcases touches_iff.1 ht with h4 | ⟨h4, h5⟩
        · have := (ap.ww i h4).1
          rw [h3] at this; cases this
        · rcases touches_iff.1 h3 with h6 | ⟨h6, h7⟩
          · have := (ap.ww' i h6).1
            rw [ht] at this; cases this
          · have := hs_mono hfr hst (j := j + 1) (k := k) (by omega) (by omega)
            omega
  have contN : ∀ i, touches (recAt hs lgs j) i = false → cont hs lgs (setAt S j) n i = cont hs lgs S n i := by
    intro i ht
    refine cont_congr fun k hk hkt => ?_
    have hkj : k ≠ j := by rintro rfl; rw [ht] at hkt; cases hkt
    simp [setAt, hkj]
  have notT : ∀ i, touches (recAt hs lgs j) i = false → i ∉ (lgs j).w ∧ (i < (hs j).length ∨ (hs (j + 1)).length ≤ i) := by
    intro i ht
    have h' : ¬ (i ∈ (lgs j).w ∨ ((hs j).length ≤ i ∧ i < (hs (j + 1)).length)) := by rw [← touches_iff, ht]; simp
    refine ⟨fun e => h' (.inl e), ?_⟩
    rcases Nat.lt_or_ge i (hs j).length with h1 | h1
    · exact .inl h1
    · rcases Nat.lt_or_ge i (hs (j + 1)).length with h2 | h2
      · exact absurd (.inr ⟨h1, h2⟩) h'
      · exact .inr h2
  have rhoN : ∀ i m, touches (recAt hs lgs j) i = false → ρ' i m = ρ i m := fun i m ht => by
    obtain ⟨h1, h2⟩ := notT i ht
    exact st.rhoold i m (h2.imp (fun h => ⟨h, h1⟩) id)
  have key : ∀ i c, Atc ρ' (cont hs lgs (setAt S j) n i) i c → Atc ρ (cont hs lgs S n i) i c ∨ (w.heap.size ≤ c ∧ c < w'.heap.size ∧ touches (recAt hs lgs j) i = true) := by
    intro i c ha
    cases ht : touches (recAt hs lgs j) i with
    | true =>
      rw [contT i ht] at ha
      have hti := touches_iff.1 ht
      rcases st.fresh i c hti ha with h | h
      · exact .inr ⟨h.1, h.2, rfl⟩
      · have hb := h.bound
        rcases hti with h4 | ⟨h4, _⟩
        · exact .inl (atc i c h4 h)
        · omega
    | false =>
      rw [contN i ht] at ha
      obtain ⟨cs, loc, h1, h2, h3⟩ := ha
      exact .inl ⟨cs, loc, h1, by rw [← rhoN i _ ht]; exact h2, h3⟩
  refine ⟨by rw [put_size]; exact iv.size, by rw [put_defers]; exact iv.defers, fun t => ?_, fun c hc => ?_, iv.gl.mono st.keep st.os st.tape st.output st.size fun c hc => stays c (.inl hc), fun i hFi => ?_, fun i k c hi hk hne ha hb => ?_, fun k i m hk hSk h1 h2 => ?_, st.os.trans iv.os, st.tape.trans iv.tape, st.output.trans iv.output,
    Nat.le_trans iv.wsize st.size, iv.keep.trans st.keep, fun c hc hno => ?_, fun c hc => ?_, fun i m hi => ?_, fun i c hi ha => ?_⟩
  · rw [getD_put (by rw [iv.size]; exact hd)]
    by_cases hdt : o.dst = some t
    · rw [if_pos hdt]
      have : cur ops σs vs (setAt S j) n t = vs j := by
        rw [cur_above (m := j + 1) (by omega) (fun k h1 h2 h3 => ?_)]
        · unfold cur
          rw [if_pos ⟨by simp [setAt], by rw [hdj]; exact hdt⟩]
        · have hkj : k ≠ j := by omega
          simp only [setAt, hkj, if_false]
          cases hSk : S k with
          | false => rfl
          | true =>
            cases hok : ops[k]? with
            | none => simp [dstAt, hok] at h3
            | some ok =>
              simp only [dstAt, hok, Option.bind_some] at h3
              have := (slots_pair ck.slots (by omega : j < k) ho hok (bit k h2 hSk)).2 t h3
              exact absurd (by simp [slotsOf, hdt]) this
      rw [this]
      exact hu
    · rw [if_neg hdt]
      have : cur ops σs vs (setAt S j) n t = cur ops σs vs S n t := cur_congr fun k hk hkt => by
        have hkj : k ≠ j := by rintro rfl; rw [hdj] at hkt; exact hdt hkt
        simp [setAt, hkj]
      rw [this]
      exact mono (iv.val t)
  · have := st.size
    rcases hc with hc | hc
    · rcases st.ppnew c hc with h | h
      · have := iv.lt c (.inl h); omega
      · exact h.2
    · have := iv.lt c (.inr hc); omega
  · cases ht : touches (recAt hs lgs j) i with
    | true =>
      rw [contT i ht]
      exact st.blocks i (touches_iff.1 ht)
    | false =>
      rw [contN i ht]
      intro cs hcs
      obtain ⟨⟨loc, h1, ⟨rc, ty, lo, hi', h4, h5, h6, h7⟩, h8, h9⟩, h10⟩ := iv.hb i hFi cs hcs
      have hc : loc.1 < w.heap.size := (Array.getElem?_eq_some_iff.1 h4).1
      refine ⟨⟨loc, by rw [rhoN i _ ht]; exact h1, ⟨rc, ty, lo, hi', ?_, h5, h6, fun q g hg => ?_⟩, fun hp => ?_, h9⟩, fun m hm => by rw [rhoN i _ ht]; exact h10 m hm⟩
      · rw [st.kept loc.1 hc fun k hk ha => ?_]
        · exact h4
        · have hki : i ≠ k := by
            rintro rfl
            exact (notT i ht).1 hk
          exact iv.inj i k loc.1 hFi (hF j hj k (.inr hk)) hki ⟨cs, loc, hcs, h1, rfl⟩ (atc k _ hk ha)
      · obtain ⟨u, h11, h12⟩ := h7 q g hg
        exact ⟨u, h11, mono h12⟩
      · rcases st.ppnew _ hp with h | h
        · exact h8 h
        · omega
  · rcases key i c ha with h1 | ⟨h1, _, h1'⟩
    · rcases key k c hb with h2 | ⟨h2, _, _⟩
      · exact iv.inj i k c hi hk hne h1 h2
      · have := (Atc.lt (iv.hb i hi) h1).1
        omega
    · rcases key k c hb with h2 | ⟨h2, _, h2'⟩
      · have := (Atc.lt (iv.hb k hk) h2).1
        omega
      · rw [contT i h1'] at ha
        rw [contT k h2'] at hb
        have := st.inj i k c (touches_iff.1 h1').symm (touches_iff.1 h2').symm hne ha hb
        omega
  · have hkj : k ≠ j := by rintro rfl; simp [setAt] at hSk
    have hSk' : S k = false := by simpa [setAt, hkj] using hSk
    have hold := iv.nw k i m hk hSk' h1 h2
    rw [← hold]
    refine st.rhoold i m ?_
    rcases Nat.lt_or_ge k j with hlt | hge
    · have h3 := hs_mono hfr hst (j := k + 1) (k := j) (by omega) (by omega)
      refine .inl ⟨by omega, fun hw => ?_⟩
      have := ((apDn k hlt hSk').ww' i hw).1
      rw [touches_iff.2 (.inr ⟨h1, h2⟩)] at this
      cases this
    · have h3 := hs_mono hfr hst (j := j + 1) (k := k) (by omega) (by omega)
      exact .inr (by omega)
  · rw [st.kept c (Nat.lt_of_lt_of_le hc iv.wsize) fun i hi ha => ?_]
    · exact iv.kept c hc hno
    · rcases iv.fresh i c (.inl (hL j hj i hi)) (atc i c hi ha) with h | h
      · omega
      · exact hno i (hL j hj i hi) h
  · have := st.size
    have := iv.wsize
    rcases st.ppnew c hc with h | h
    · rcases iv.ppnew c h with h | h
      · exact .inl h
      · exact .inr ⟨h.1, by omega⟩
    · exact .inr ⟨by omega, h.2⟩
  · rw [← iv.rhoold i m hi]
    refine st.rhoold i m ?_
    rcases hi with ⟨h1, h2⟩ | h1
    · exact .inl ⟨by omega, fun h => h2 (hL j hj i h)⟩
    · exact .inr (by omega)
  · have := st.size
    have := iv.wsize
    rcases key i c ha with h | ⟨h1, h2, _⟩
    · rcases iv.fresh i c hi h with h | h
      · exact .inl ⟨h.1, by omega⟩
      · exact .inr h
    · exact .inl ⟨by omega, h2⟩

theorem inv_step (hN : NameOk P) (hC : CSound P call) (hX : XSound P C) (hfr : CFrame call) (hn : n = ops.size) (hst : ∀ j, j < n → StepAt P C call nt ops σs hs vs lgs j) (ck : Chk ops hs lgs n) (hF : ∀ j, j < n → ∀ i, i ∈ (lgs j).r ∨ i ∈ (lgs j).w → F i) (hL : ∀ j, j < n → ∀ i, i ∈ (lgs j).w → i ∈ L.w)
    {S : Nat → Bool} {a : Act} {w : World} {ρ : Map} {Pp : Nat → Prop} (iv : Inv ops σs hs vs lgs n nt F L Pt w0 ρ0 P0 S a w ρ Pp) (hcl : ∀ j, j < n → S j = true → ∀ k, ((masks ops).getD j 0).testBit k = true → S k = true)
    {j : Nat} (hj : j < n) (hS : S j = false) (hanc : ∀ k, ((masks ops).getD j 0).testBit k = true → S k = true) {K : Act → World → Prop} {Q : Exit → Act → World → Prop}
    (hK : ∀ a' w' ρ' Pp', Inv ops σs hs vs lgs n nt F L Pt w0 ρ0 P0 (setAt S j) a' w' ρ' Pp' → K a' w') : wpOp P ops Q j K a w := by
  obtain ⟨o, ho, hd, hσ, hop⟩ := (hst j hj).ex
  have bit : ∀ k, k < n → S k = true → ((masks ops).getD k 0).testBit j = false := by
    intro k hk hSk
    cases hb : ((masks ops).getD k 0).testBit j with
    | false => rfl
    | true => rw [hcl k hk hSk j hb] at hS; cases hS
  have bit' : ∀ k, S k = false → ((masks ops).getD j 0).testBit k = false := by
    intro k hk
    cases hb : ((masks ops).getD j 0).testBit k with
    | false => rfl
    | true => rw [hanc k hb] at hk; cases hk
  have A1 : ∀ t, t ∈ slotsOf ops o → cur ops σs vs S n t = σs j t := by
    intro t ht
    rw [cur_above (m := j) (by omega) (fun k h1 h2 h3 => ?_)]
    · refine cur_below (fun k hk => hst k (by omega)) fun k hk hkt => ?_
      cases hSk : S k with
      | true => rfl
      | false =>
        cases hok : ops[k]? with
        | none => simp [dstAt, hok] at hkt
        | some ok =>
          simp only [dstAt, hok, Option.bind_some] at hkt
          exact absurd ht ((slots_pair ck.slots hk hok ho (bit' k hSk)).1 t hkt)
    · by_cases hkj : k = j
      · subst hkj; exact hS
      · cases hSk : S k with
        | false => rfl
        | true =>
          cases hok : ops[k]? with
          | none => simp [dstAt, hok] at h3
          | some ok =>
            simp only [dstAt, hok, Option.bind_some] at h3
            exact absurd ht ((slots_pair ck.slots (by omega : j < k) ho hok (bit k h2 hSk)).2 t h3)
  have A3 : ∀ i, i ∈ (lgs j).r ∨ i ∈ (lgs j).w → cont hs lgs S n i = (hs j)[i]? := by
    intro i hi
    rw [cont_above (m := j) (by omega) (fun k h1 h2 h3 => ?_)]
    · refine cont_below hfr (fun k hk => hst k (by omega)) fun k hk hkt => ?_
      cases hSk : S k with
      | true => rfl
      | false =>
        have ap := ck.recs k j hk hj (bit' k hSk)
        rcases hi with hi | hi
        · have := ap.r i hi
          rw [hkt] at this; cases this
        · have := (ap.ww' i hi).1
          rw [hkt] at this; cases this
    · by_cases hkj : k = j
      · subst hkj; exact hS
      · cases hSk : S k with
        | false => rfl
        | true =>
          have ap := ck.recs j k (by omega) h2 (bit k h2 hSk)
          rcases hi with hi | hi
          · have := ap.r' i hi
            rw [h3] at this; cases this
          · have := (ap.ww i hi).1
            rw [h3] at this; cases this
  have A1v : ∀ t, t ∈ slotsOf ops o → VR w ρ Pp (σs j t) Pt (a.tmps.getD t undef) := fun t ht => by
    rw [← A1 t ht]
    exact iv.val t
  unfold wpOp
  simp only [ho]
  have hw : Region.wanted o (yielded ops a.tmps) = Region.wanted o (gyield ops (σs j)) := wanted_eq fun q want d hg hq => A1v d (by
    simp only [slotsOf, hg, hq]
    simp)
  rw [hw]
  rcases hop with ⟨h1, h2⟩ | ⟨h1, h2, h3, h4⟩
  · rw [if_pos h1]
    left
    have p : Pre Pt w ρ Pp (hs j) (fun i => i ∈ (lgs j).r ∨ i ∈ (lgs j).w) (hs (j + 1)).length := by
      refine ⟨iv.lt, fun i hi => ?_, fun i k c hi hk hne ha hb => ?_, fun i m q1 q2 => iv.nw j i m hj hS q1 q2, iv.gl⟩
      · have := iv.hb i (hF j hj i hi)
        rw [A3 i hi] at this
        exact this
      · have := iv.inj i k c (hF j hj i hi) (hF j hj k hk) hne
        rw [A3 i hi, A3 k hk] at this
        exact this ha hb
    refine op_sound hN hC hX h2 (fun x hx => eval_EV iv.gl fun t ht => A1v t ?_) p (fun i hi => hi) _ _ fun u w' ⟨ρ', Pp', hv, st⟩ => ?_
    · subst ht
      simp only [slotsOf, List.mem_append, List.mem_filterMap]
      exact .inl (.inr ⟨_, hx, rfl⟩)
    · exact hK _ _ ρ' Pp' (inv_put hfr hn hst ck hF hL iv hcl hj hS hanc ho hd A3 hv st)
  · rw [if_neg (by rw [h1]; simp)]
    refine hK _ _ ρ Pp (inv_put hfr hn hst ck hF hL iv hcl hj hS hanc ho hd A3 (u := undef) (by rw [h2]; simp [VR, VRi]) ?_)
    rw [h3, h4]
    exact Step.none ..
end

end Go.Proofs.Ytlbnioapepelnaa.G

namespace Go.Proofs.Ytlbnioapepelnaa.G
open Go.RowKit

section
variable {P : Program} {C : Cfg} {call : GCall} {nt n : Nat} {ops : Array Oper} {σs : Nat → GS} {hs : Nat → Heap} {vs : Nat → GV} {lgs : Nat → Lg} {F : Nat → Prop} {L : Lg}
  {Pt : Nat → Prop} {w0 : World} {ρ0 : Map} {P0 : Nat → Prop}

theorem mem_ready {listed : Array Bool} {i : Nat} : i ∈ Region.ready .any ops listed ↔ i < ops.size ∧ listed.getD i true = false ∧ ∃ o, ops[i]? = some o ∧ ∀ e, e ∈ o.after.toList → Region.binds .any e = true → listed.getD e.on false = true := by
  unfold Region.ready
  rw [List.mem_filter, List.mem_range]
  constructor
  · rintro ⟨h1, h2⟩
    simp only [Bool.and_eq_true, Bool.not_eq_true'] at h2
    obtain ⟨h2, h3⟩ := h2
    cases ho : ops[i]? with
    | none => rw [ho] at h3; cases h3
    | some o =>
      rw [ho] at h3
      simp only [Option.map_some, Option.getD_some] at h3
      refine ⟨h1, h2, o, rfl, fun e he hb => ?_⟩
      have h4 := (Array.all_eq_true_iff_forall_mem.1 h3) e (by simpa using he)
      simpa [hb] using h4
  · rintro ⟨h1, h2, o, ho, h3⟩
    refine ⟨h1, ?_⟩
    rw [ho, h2]
    simp only [Option.map_some, Option.getD_some, Bool.not_false, Bool.true_and]
    refine Array.all_eq_true_iff_forall_mem.2 fun e he => ?_
    cases hb : Region.binds .any e with
    | false => simp
    | true => simp [h3 e (by simpa using he) hb]

def listedOf (listed : Array Bool) : Nat → Bool := fun k => listed.getD k false

theorem any_sound (hN : NameOk P) (hC : CSound P call) (hX : XSound P C) (hfr : CFrame call) (hn : n = ops.size) (hst : ∀ j, j < n → StepAt P C call nt ops σs hs vs lgs j) (ck : Chk ops hs lgs n) (hF : ∀ j, j < n → ∀ i, i ∈ (lgs j).r ∨ i ∈ (lgs j).w → F i) (hL : ∀ j, j < n → ∀ i, i ∈ (lgs j).w → i ∈ L.w)
    {Q : Exit → Act → World → Prop} (hQ : ∀ S a w ρ Pp, (∀ k, k < n → S k = true) → Inv ops σs hs vs lgs n nt F L Pt w0 ρ0 P0 S a w ρ Pp → Q .normal a w) :
    ∀ (fuel : Nat) (listed : Array Bool) (a : Act) (w : World) (ρ : Map) (Pp : Nat → Prop), listed.size = n → unl (listedOf listed) n ≤ fuel → (∀ j, j < n → listedOf listed j = true → ∀ k, ((masks ops).getD j 0).testBit k = true → listedOf listed k = true) →
      Inv ops σs hs vs lgs n nt F L Pt w0 ρ0 P0 (listedOf listed) a w ρ Pp → wpAny P .any ops Q fuel listed a w
  | 0, listed, a, w, ρ, Pp, hsz, hu, hcl, iv => by
    have hall := unl_zero (S := listedOf listed) (m := n) (by omega)
    refine ⟨List.eq_nil_iff_forall_not_mem.2 fun i hi => ?_, hQ _ a w ρ Pp hall iv⟩
    obtain ⟨h1, h2, _⟩ := mem_ready.1 hi
    have := hall i (by omega)
    simp only [listedOf] at this
    have hlt : i < listed.size := by omega
    simp [hlt] at h2 this
    rw [this] at h2
    cases h2
  | fuel + 1, listed, a, w, ρ, Pp, hsz, hu, hcl, iv => by
    refine ⟨fun hr => hQ _ a w ρ Pp (fun k => ?_) iv, fun i hi => ?_⟩
    · induction k using Nat.strongRecOn with
      | _ k ih =>
        intro hk
        cases hl : listedOf listed k with
        | true => rfl
        | false =>
          exfalso
          obtain ⟨o, ho⟩ : ∃ o, ops[k]? = some o := ⟨ops[k]'(by omega), by simp⟩
          have : k ∈ Region.ready .any ops listed := by
            refine mem_ready.2 ⟨by omega, ?_, o, ho, fun e he hb => ?_⟩
            · simp only [listedOf] at hl
              have hlt : k < listed.size := by omega
              simp [hlt] at hl ⊢
              exact hl
            · have he' := List.all_eq_true.1 ck.edges k (by simp; omega)
              simp only [ho] at he'
              have he2 := List.all_eq_true.1 he' e he
              simp only [hb, Bool.not_true, Bool.false_or, Nat.blt_eq] at he2
              exact ih e.on he2 (by omega)
          rw [hr] at this
          cases this
    · obtain ⟨h1, h2, o, ho, h3⟩ := mem_ready.1 hi
      have hi' : i < n := by omega
      have hlt : i < listed.size := by omega
      have hS : listedOf listed i = false := by
        simp only [listedOf]
        simp [hlt] at h2 ⊢
        exact h2
      have hanc : ∀ k, ((masks ops).getD i 0).testBit k = true → listedOf listed k = true := by
        intro k hk
        obtain ⟨e, q1, q2, q3, q4⟩ := masks_spec ops ck.edges i o ho k hk
        have q5 := h3 e q1 q2
        rcases q4 with rfl | q4
        · exact q5
        · exact hcl e.on (by omega) q5 k q4
      have hset : listedOf (listed.setIfInBounds i true) = setAt (listedOf listed) i := by
        funext k
        simp only [listedOf, setAt]
        by_cases hk : k = i
        · subst hk
          simp [hlt]
        · rw [if_neg hk]
          simp [Array.getElem?_setIfInBounds, Ne.symm hk]
      refine inv_step hN hC hX hfr hn hst ck hF hL iv hcl hi' hS hanc fun a' w' ρ' Pp' iv' => ?_
      refine any_sound hN hC hX hfr hn hst ck hF hL hQ fuel _ a' w' ρ' Pp' (by simp [hsz]) ?_ ?_ (by rw [hset]; exact iv')
      · rw [hset]
        have := unl_set (S := listedOf listed) (S' := setAt (listedOf listed) i) (j := i) hS (by simp [setAt]) (fun k hk => by simp [setAt, hk]) (m := n) hi'
        omega
      · rw [hset]
        intro j hj hSj k hk
        by_cases hji : j = i
        · subst hji
          by_cases hki : k = j
          · simp [setAt, hki]
          · simp only [setAt, hki, if_false]
            exact hanc k hk
        · have hSj' : listedOf listed j = true := by simpa [setAt, hji] using hSj
          by_cases hki : k = i
          · simp [setAt, hki]
          · simp only [setAt, hki, if_false]
            exact hcl j hj hSj' k hk

theorem logOf_w {l : List Rec} {i : Nat} : i ∈ (logOf l).w ↔ ∃ r, r ∈ l ∧ i ∈ r.lg.w := by
  induction l with
  | nil => simp [logOf, Lg.nil]
  | cons a l ih => simp [logOf, Lg.add, ih]
theorem logOf_r {l : List Rec} {i : Nat} : i ∈ (logOf l).r ↔ ∃ r, r ∈ l ∧ i ∈ r.lg.r := by
  induction l with
  | nil => simp [logOf, Lg.nil]
  | cons a l ih => simp [logOf, Lg.add, ih]

variable {σ σ' : GS} {h h' : Heap} {lg : Lg} {a : Act} {w : World} {ρ : Map} {Pp : Nat → Prop} {N : Nat}

theorem gregion_len (hfr : CFrame call) {draw : Bool} (e : gregion P C call nt ops draw σ h = some (σ', h', lg)) : h.length ≤ h'.length := by
  unfold gregion at e
  simp only [Option.bind_eq_bind, obsi] at e
  obtain ⟨⟨σ1, h1, l⟩, hr, e⟩ := e
  have := ops_seq.gops_len hfr _ _ _ _ _ _ hr
  split at e
  · split at e
    · simp only [Option.some.injEq, Prod.mk.injEq] at e
      obtain ⟨rfl, rfl, rfl⟩ := e
      exact this
    · cases e
  · simp only [Option.some.injEq, Prod.mk.injEq] at e
    obtain ⟨rfl, rfl, rfl⟩ := e
    exact this

theorem region_sound (hM : P.follows .mixedOrders = true) (hN : NameOk P) (hC : CSound P call) (hX : XSound P C) (hfr : CFrame call) {id : Nat} {draw : Bool} {Q : Exit → Act → World → Prop} (e : gregion P C call nt ops draw σ h = some (σ', h', lg))
    (tr : TR w ρ Pp Pt nt σ a) (p : Pre Pt w ρ Pp h F N) (hNle : h'.length ≤ N) (hF : ∀ i, i ∈ lg.r ∨ i ∈ lg.w → F i) (hnew : ∀ i, h.length ≤ i → F i)
    (hQ : ∀ a' w' ρ' Pp', TR w' ρ' Pp' Pt nt σ' a' → Step Pt w ρ Pp h lg w' ρ' Pp' h' → Q .normal a' w') : (Code.region id ops draw).wp P Q a w := by
  have hlen := gregion_len hfr e
  unfold gregion at e
  simp only [Option.bind_eq_bind, obsi] at e
  obtain ⟨⟨σ1, h1, l⟩, hr, e⟩ := e
  dsimp only at e
  cases draw with
  | false =>
    simp only [Bool.false_eq_true, if_false, Option.some.injEq, Prod.mk.injEq] at e
    obtain ⟨rfl, rfl, rfl⟩ := e
    exact wp_region (ops_seq hN hC hX _ σ h a w ρ Pp σ1 h1 l hr tr p hNle hF hlen hfr hQ)
  | true =>
    simp only [if_true] at e
    split at e
    · rename_i hck
      obtain ⟨c1, c2, c3⟩ := hck
      simp only [Option.some.injEq, Prod.mk.injEq] at e
      obtain ⟨rfl, rfl, rfl⟩ := e
      rw [List.range_eq_range'] at hr
      obtain ⟨σs, hs, vs, lgs, e1, e2, e3, e4, e5, e6⟩ := gops_run _ _ _ _ _ _ _ hr
      rw [Nat.zero_add] at e3 e4
      have hst : ∀ j, j < ops.size → StepAt P C call nt ops σs hs vs lgs j := fun j hj => e5 j (by omega) (by omega)
      have hget : ∀ j, j < ops.size → l[j]? = some (recAt hs lgs j) := by
        intro j hj
        rw [e6, List.getElem?_map, List.getElem?_range' (by omega)]
        simp
      have hmem : ∀ j, j < ops.size → recAt hs lgs j ∈ l := fun j hj => List.mem_of_getElem? (hget j hj)
      have ck : Chk ops hs lgs ops.size := ⟨c1, c2, fun i j hij hj hb => apart_of (recs_pair c3 hij (hget i (by omega)) (hget j hj) (by simpa [recAt] using hb))⟩
      have hF' : ∀ j, j < ops.size → ∀ i, i ∈ (lgs j).r ∨ i ∈ (lgs j).w → F i := fun j hj i hi => hF i (hi.imp (fun h => logOf_r.2 ⟨_, hmem j hj, h⟩) (fun h => logOf_w.2 ⟨_, hmem j hj, h⟩))
      have hL : ∀ j, j < ops.size → ∀ i, i ∈ (lgs j).w → i ∈ (logOf l).w := fun j hj i hi => logOf_w.2 ⟨_, hmem j hj, hi⟩
      have hmono : ∀ {j k : Nat}, j ≤ k → k ≤ ops.size → (hs j).length ≤ (hs k).length := fun h1 h2 => hs_mono hfr hst h1 h2
      refine wp_region_any hM ?_
      have hcur0 : ∀ m t, m ≤ ops.size → cur ops σs vs (fun _ => false) m t = σs 0 t := fun m t _ => cur_above (m := 0) (by omega) (fun _ _ _ _ => rfl)
      have hcont0 : ∀ m i, m ≤ ops.size → cont hs lgs (fun _ => false) m i = (hs 0)[i]? := fun m i _ => cont_above (m := 0) (by omega) (fun _ _ _ _ => rfl)
      have hl0 : listedOf (Array.replicate ops.size false) = fun _ => false := by
        funext k
        simp only [listedOf]
        by_cases hk : k < ops.size
        · simp [hk]
        · simp [hk]
      refine any_sound (σs := σs) (hs := hs) (vs := vs) (lgs := lgs) (F := F) (L := logOf l) (Pt := Pt) (w0 := w) (ρ0 := ρ) (P0 := Pp) (n := ops.size) (nt := nt) hN hC hX hfr rfl hst ck hF' hL (fun S a' w' ρ' Pp' hall iv => ?_) ops.size _ a _ ρ Pp (by simp) ?_ ?_ ?_
      · -- the end
        have hcn : ∀ t, cur ops σs vs S ops.size t = σs ops.size t := fun t => cur_below hst (fun k hk _ => hall k hk)
        have hcc : ∀ i, cont hs lgs S ops.size i = (hs ops.size)[i]? := fun i => cont_below hfr hst (fun k hk _ => hall k hk)
        refine hQ a' w' ρ' Pp' ⟨iv.size, fun t => ?_, iv.defers⟩ ?_
        · rw [← e3, ← hcn t]
          exact iv.val t
        · rw [← e4, ← e2]
          have hFb : ∀ i, (i ∈ (logOf l).w ∨ ((hs 0).length ≤ i ∧ i < (hs ops.size).length)) → F i := fun i hi => hi.elim (fun h => hF i (.inr h)) (fun h' => hnew i (by rw [← e2]; exact h'.1))
          refine ⟨iv.os, iv.tape, iv.output, iv.wsize, iv.keep, iv.kept, iv.ppnew, iv.rhoold, hmono (by omega) (Nat.le_refl _), fun i hi hw => ?_, fun i hi => ?_, fun i c hi ha => ?_, fun i j c hi hj hne ha hb => ?_⟩
          · have key : ∀ m, m ≤ ops.size → (hs m)[i]? = (hs 0)[i]? := by
              intro m
              induction m with
              | zero => intro _; rfl
              | succ m ih =>
                intro hm
                have hf := hs_frame hfr (hst m (by omega))
                have := hmono (j := 0) (k := m) (by omega) (by omega)
                rw [hf.keep i (by omega) (fun h => hw (hL m (by omega) i h)), ih (by omega)]
            exact key _ (Nat.le_refl _)
          · have := iv.hb i (hFb i hi)
            rw [hcc i] at this
            exact this
          · exact iv.fresh i c hi (by rw [hcc i]; exact ha)
          · have := iv.inj i j c (hFb i hi.symm) (hFb j hj.symm) hne (by rw [hcc i]; exact ha)
            rw [hcc j] at this
            exact absurd hb this
      · rw [hl0]
        have : ∀ m, unl (fun _ => false) m = m := by
          intro m
          induction m with
          | zero => rfl
          | succ m ih => unfold unl; rw [ih]; simp
        rw [this]
        exact Nat.le_refl _
      · rw [hl0]
        intro j _ h
        cases h
      · rw [hl0]
        have st := Step.drew Pt w ρ Pp h [] (w.drawn + 1)
        have mono : ∀ {g : GV} {v : Value}, VR w ρ Pp g Pt v → VR { w with drawn := w.drawn + 1 } ρ Pp g Pt v := fun {g v} hv => VR_mono st.keep g Pt Pt v (fun _ h => .inl h) (fun _ _ => rfl) hv
        have p1 := st.after p (fun i hi => by simp at hi)
        refine ⟨tr.size, tr.defers, fun t => ?_, p1.lt, p1.gl, fun i hi => ?_, fun i j c hi hj hne ha hb => ?_, fun k i m hk _ q1 q2 => ?_, rfl, rfl, rfl, Nat.le_refl _, st.keep, fun _ _ _ => rfl, fun _ h => .inl h, fun _ _ _ => rfl, fun i c hi ha => ?_⟩
        · rw [hcur0 _ t (Nat.le_refl _), e1]
          exact mono (tr.val t)
        · rw [hcont0 _ i (Nat.le_refl _), e2]
          exact p1.hb i hi
        · rw [hcont0 _ _ (Nat.le_refl _), e2] at ha hb
          exact p1.inj i j c hi hj hne ha hb
        · have h3 := hmono (j := 0) (k := k) (by omega) (by omega)
          have h4 := hmono (j := k + 1) (k := ops.size) (by omega) (Nat.le_refl _)
          refine p.nw i m ?_ ?_
          · rw [← e2]; omega
          · rw [e4] at h4; omega
        · rw [hcont0 _ _ (Nat.le_refl _)] at ha
          exact .inr ha
    · cases e
end

end Go.Proofs.Ytlbnioapepelnaa.G

namespace Go.Proofs.Ytlbnioapepelnaa.G
open Go.RowKit

section
variable {P : Program} {C : Cfg} {call : GCall} {nt k : Nat} {ops : Array Oper}

theorem gops_frame (hfr : CFrame call) : ∀ (l : List Nat) (σ : GS) (h : Heap) (σ' : GS) (h' : Heap) (recs : List Rec), gops P C call nt ops l σ h = some (σ', h', recs) → FR h (logOf recs) h'
  | [], σ, h, σ', h', recs, e => by
    simp only [gops, Option.some.injEq, Prod.mk.injEq] at e
    obtain ⟨rfl, rfl, rfl⟩ := e
    exact FR.same _ _
  | j :: rest, σ, h, σ', h', recs, e => by
    unfold gops at e
    cases hj : ops[j]? with
    | none => rw [hj] at e; cases e
    | some o =>
      rw [hj] at e
      simp only at e
      split at e
      · split at e
        · simp only [Option.bind_eq_bind, obsi, Option.some.injEq, Prod.mk.injEq] at e
          obtain ⟨⟨v, h1, lg⟩, he, ⟨σ2, h2, recs2⟩, hr, rfl, rfl, rfl⟩ := e
          exact (gop_frame hfr he).trans (gops_frame hfr rest _ _ _ _ _ hr)
        · simp only [Option.bind_eq_bind, obsi, Option.some.injEq, Prod.mk.injEq] at e
          obtain ⟨⟨σ2, h2, recs2⟩, hr, rfl, rfl, rfl⟩ := e
          exact (FR.same h .nil).trans (gops_frame hfr rest _ _ _ _ _ hr)
      · cases e

theorem gregion_frame (hfr : CFrame call) {draw : Bool} {σ σ' : GS} {h h' : Heap} {lg : Lg} (e : gregion P C call nt ops draw σ h = some (σ', h', lg)) : FR h lg h' := by
  unfold gregion at e
  simp only [Option.bind_eq_bind, obsi] at e
  obtain ⟨⟨σ1, h1, l⟩, hr, e⟩ := e
  have := gops_frame hfr _ _ _ _ _ _ hr
  split at e
  · split at e
    · simp only [Option.some.injEq, Prod.mk.injEq] at e
      obtain ⟨rfl, rfl, rfl⟩ := e
      exact this
    · cases e
  · simp only [Option.some.injEq, Prod.mk.injEq] at e
    obtain ⟨rfl, rfl, rfl⟩ := e
    exact this

theorem gloop_frame {body : GS → Heap → GR} (hb : ∀ σ h x σ' h' lg, body σ h = some (x, σ', h', lg) → FR h lg h') : ∀ (k : Nat) (σ : GS) (h : Heap) (x : GX) (σ' : GS) (h' : Heap) (lg : Lg), gloop body k σ h = some (x, σ', h', lg) → FR h lg h'
  | 0, σ, h, x, σ', h', lg, e => by cases e
  | k + 1, σ, h, x, σ', h', lg, e => by
    unfold gloop at e
    split at e
    · rename_i σ1 h1 l1 h0
      obtain ⟨⟨x2, σ2, h2, l2⟩, hr, e⟩ := Option.map_eq_some_iff.1 e
      simp only [Prod.mk.injEq] at e
      obtain ⟨rfl, rfl, rfl, rfl⟩ := e
      exact (hb _ _ _ _ _ _ h0).trans (gloop_frame hb k _ _ _ _ _ _ hr)
    · exact hb _ _ _ _ _ _ e

theorem gcode_frame (hfr : CFrame call) : ∀ (c : Code) (σ : GS) (h : Heap) (x : GX) (σ' : GS) (h' : Heap) (lg : Lg), gcode P C call k nt c σ h = some (x, σ', h', lg) → FR h lg h'
  | .skip, σ, h, x, σ', h', lg, e => by
    simp only [gcode, Option.some.injEq, Prod.mk.injEq] at e
    obtain ⟨rfl, rfl, rfl, rfl⟩ := e
    exact FR.same _ _
  | .region id ops draw, σ, h, x, σ', h', lg, e => by
    simp only [gcode] at e
    obtain ⟨⟨σ2, h2, l2⟩, hr, e⟩ := Option.map_eq_some_iff.1 e
    simp only [Prod.mk.injEq] at e
    obtain ⟨rfl, rfl, rfl, rfl⟩ := e
    exact gregion_frame hfr hr
  | .seq a b, σ, h, x, σ', h', lg, e => by
    simp only [gcode] at e
    split at e
    · rename_i σ1 h1 l1 h0
      obtain ⟨⟨x2, σ2, h2, l2⟩, hr, e⟩ := Option.map_eq_some_iff.1 e
      simp only [Prod.mk.injEq] at e
      obtain ⟨rfl, rfl, rfl, rfl⟩ := e
      exact (gcode_frame hfr a _ _ _ _ _ _ h0).trans (gcode_frame hfr b _ _ _ _ _ _ hr)
    · exact gcode_frame hfr a _ _ _ _ _ _ e
  | .cond c a b, σ, h, x, σ', h', lg, e => by
    simp only [gcode] at e
    split at e
    · rename_i t ht
      cases t with
      | true => exact gcode_frame hfr a _ _ _ _ _ _ e
      | false => exact gcode_frame hfr b _ _ _ _ _ _ e
    · cases e
  | .block id c, σ, h, x, σ', h', lg, e => by
    simp only [gcode] at e
    split at e
    · rename_i id' σ1 h1 l1 h0
      split at e
      · simp only [Option.some.injEq, Prod.mk.injEq] at e
        obtain ⟨rfl, rfl, rfl, rfl⟩ := e
        exact gcode_frame hfr c _ _ _ _ _ _ h0
      · simp only [Option.some.injEq, Prod.mk.injEq] at e
        obtain ⟨rfl, rfl, rfl, rfl⟩ := e
        exact gcode_frame hfr c _ _ _ _ _ _ h0
    · exact gcode_frame hfr c _ _ _ _ _ _ e
  | .loop c, σ, h, x, σ', h', lg, e => by
    simp only [gcode] at e
    exact gloop_frame (fun σ h x σ' h' lg e => gcode_frame hfr c σ h x σ' h' lg e) _ _ _ _ _ _ _ e
  | .exit id, σ, h, x, σ', h', lg, e => by
    simp only [gcode, Option.some.injEq, Prod.mk.injEq] at e
    obtain ⟨rfl, rfl, rfl, rfl⟩ := e
    exact FR.same _ _
  | .ret, σ, h, x, σ', h', lg, e => by
    simp only [gcode, Option.some.injEq, Prod.mk.injEq] at e
    obtain ⟨rfl, rfl, rfl, rfl⟩ := e
    exact FR.same _ _
  | .label l, σ, h, x, σ', h', lg, e => by
    simp only [gcode, Option.some.injEq, Prod.mk.injEq] at e
    obtain ⟨rfl, rfl, rfl, rfl⟩ := e
    exact FR.same _ _
  | .goto l, σ, h, x, σ', h', lg, e => by simp only [gcode] at e; cases e
  | .scope c, σ, h, x, σ', h', lg, e => by simp only [gcode] at e; cases e
  | .rangeFunc .., σ, h, x, σ', h', lg, e => by simp only [gcode] at e; cases e

theorem gcall_frame : ∀ k, CFrame (gcall P C k)
  | 0, f, args, h, v, h', lg, e => by cases e
  | k + 1, f, args, h, v, h', lg, e => by
    unfold gcall at e
    split at e
    · cases e
    · split at e
      · cases e
      · split at e
        · cases e
        · rename_i x σ2 h2 l2 hx h0
          obtain ⟨⟨v', r⟩, hr, e⟩ := Option.map_eq_some_iff.1 e
          simp only [Prod.mk.injEq] at e
          obtain ⟨rfl, rfl, rfl⟩ := e
          exact (gcode_frame (gcall_frame k) _ _ _ _ _ _ _ h0).more r
        · cases e
end

end Go.Proofs.Ytlbnioapepelnaa.G

namespace Go.Proofs.Ytlbnioapepelnaa.G
open Go.RowKit

def GX.exit : GX → Exit
  | .nrm => .normal
  | .ext id => .exit id
  | .ret => .ret

section
variable {P : Program} {C : Cfg} {call : GCall} {nt k : Nat} {Pt F : Nat → Prop} {N : Nat}

theorem Step.relog {w : World} {ρ : Map} {Pp : Nat → Prop} {h : Heap} {lg lg2 : Lg} {w' : World} {ρ' : Map} {Pp' : Nat → Prop} {h' : Heap} (st : Step Pt w ρ Pp h lg w' ρ' Pp' h') (hw : lg2.w = lg.w) : Step Pt w ρ Pp h lg2 w' ρ' Pp' h' :=
  ⟨st.os, st.tape, st.output, st.size, st.keep, by rw [hw]; exact st.kept, st.ppnew, by rw [hw]; exact st.rhoold, st.hlen, by rw [hw]; exact st.hkeep, by rw [hw]; exact st.blocks, by rw [hw]; exact st.fresh, by rw [hw]; exact st.inj⟩

def CodeOk (P : Program) (nt : Nat) (Pt F : Nat → Prop) (N : Nat) (g : GS → Heap → GR) (c : Code) : Prop :=
  ∀ (σ : GS) (h : Heap) (x : GX) (σ' : GS) (h' : Heap) (lg : Lg) (a : Act) (w : World) (ρ : Map) (Pp : Nat → Prop) (Q : Exit → Act → World → Prop),
    g σ h = some (x, σ', h', lg) → TR w ρ Pp Pt nt σ a → Pre Pt w ρ Pp h F N → h'.length ≤ N → (∀ i, i ∈ lg.r ∨ i ∈ lg.w → F i) → (∀ i, h.length ≤ i → F i) →
    (∀ a' w' ρ' Pp', TR w' ρ' Pp' Pt nt σ' a' → Step Pt w ρ Pp h lg w' ρ' Pp' h' → Q x.exit a' w') → c.wp P Q a w

theorem loop_sound {body : GS → Heap → GR} {c : Code} (hb : CodeOk P nt Pt F N body c) (hfr : ∀ σ h x σ' h' lg, body σ h = some (x, σ', h', lg) → FR h lg h') :
    ∀ (k : Nat) (σ : GS) (h : Heap) (x : GX) (σ' : GS) (h' : Heap) (lg : Lg) (a : Act) (w : World) (ρ : Map) (Pp : Nat → Prop) (Q : Exit → Act → World → Prop),
    gloop body k σ h = some (x, σ', h', lg) → TR w ρ Pp Pt nt σ a → Pre Pt w ρ Pp h F N → h'.length ≤ N → (∀ i, i ∈ lg.r ∨ i ∈ lg.w → F i) → (∀ i, h.length ≤ i → F i) →
    (∀ a' w' ρ' Pp', TR w' ρ' Pp' Pt nt σ' a' → Step Pt w ρ Pp h lg w' ρ' Pp' h' → x ≠ .nrm → Q x.exit a' w') → Code.rounds P c Q k a w
  | 0, σ, h, x, σ', h', lg, a, w, ρ, Pp, Q, e, _, _, _, _, _, _ => by cases e
  | k + 1, σ, h, x, σ', h', lg, a, w, ρ, Pp, Q, e, tr, p, hN, hF, hnew, hQ => by
    rw [rounds_succ]
    unfold gloop at e
    split at e
    · rename_i σ1 h1 l1 h0
      obtain ⟨⟨x2, σ2, h2, l2⟩, hr, e⟩ := Option.map_eq_some_iff.1 e
      simp only [Prod.mk.injEq] at e
      obtain ⟨rfl, rfl, rfl, rfl⟩ := e
      have f1 := hfr _ _ _ _ _ _ h0
      have f2 := gloop_frame hfr k _ _ _ _ _ _ hr
      have hF1 : ∀ i, i ∈ l1.r ∨ i ∈ l1.w → F i := fun i hi => hF i (hi.imp (fun h => by simp [Lg.add, h]) (fun h => by simp [Lg.add, h]))
      have hF2 : ∀ i, i ∈ l2.r ∨ i ∈ l2.w → F i := fun i hi => hF i (hi.imp (fun h => by simp [Lg.add, h]) (fun h => by simp [Lg.add, h]))
      refine hb _ _ _ _ _ _ a w ρ Pp _ h0 tr p (Nat.le_trans f2.len hN) hF1 hnew fun a1 w1 ρ1 P1 tr1 st1 => ?_
      have p1 := st1.after p (fun i hi => hF1 i (.inr hi))
      refine loop_sound hb hfr k _ _ _ _ _ _ a1 w1 ρ1 P1 Q hr tr1 p1 hN hF2 (fun i hi => hnew i (Nat.le_trans f1.len hi)) fun a2 w2 ρ2 P2 tr2 st2 hx => ?_
      exact hQ a2 w2 ρ2 P2 tr2 (st1.trans st2 p (fun i hi => hF1 i (.inr hi)) (fun i hi => .inl (hF2 i (.inr hi)))) hx
    · rename_i hne
      refine hb _ _ _ _ _ _ a w ρ Pp _ e tr p hN hF hnew fun a1 w1 ρ1 P1 tr1 st1 => ?_
      cases x with
      | nrm => exact (hne _ _ _ e).elim
      | ext id => exact hQ a1 w1 ρ1 P1 tr1 st1 (by simp)
      | ret => exact hQ a1 w1 ρ1 P1 tr1 st1 (by simp)

theorem code_sound (hM : P.follows .mixedOrders = true) (hN : NameOk P) (hC : CSound P call) (hX : XSound P C) (hfr : CFrame call) : ∀ (c : Code), CodeOk P nt Pt F N (gcode P C call k nt c) c
  | .skip, σ, h, x, σ', h', lg, a, w, ρ, Pp, Q, e, tr, p, hNl, hF, hnew, hQ => by
    simp only [gcode, Option.some.injEq, Prod.mk.injEq] at e
    obtain ⟨rfl, rfl, rfl, rfl⟩ := e
    exact wp_skip (hQ a w ρ Pp tr (Step.none ..))
  | .region id ops draw, σ, h, x, σ', h', lg, a, w, ρ, Pp, Q, e, tr, p, hNl, hF, hnew, hQ => by
    simp only [gcode] at e
    obtain ⟨⟨σ2, h2, l2⟩, hr, e⟩ := Option.map_eq_some_iff.1 e
    simp only [Prod.mk.injEq] at e
    obtain ⟨rfl, rfl, rfl, rfl⟩ := e
    exact region_sound hM hN hC hX hfr hr tr p hNl hF hnew hQ
  | .seq c1 c2, σ, h, x, σ', h', lg, a, w, ρ, Pp, Q, e, tr, p, hNl, hF, hnew, hQ => by
    simp only [gcode] at e
    refine wp_seq ?_
    split at e
    · rename_i σ1 h1 l1 h0
      obtain ⟨⟨x2, σ2, h2, l2⟩, hr, e⟩ := Option.map_eq_some_iff.1 e
      simp only [Prod.mk.injEq] at e
      obtain ⟨rfl, rfl, rfl, rfl⟩ := e
      have f1 := gcode_frame hfr c1 _ _ _ _ _ _ h0
      have f2 := gcode_frame hfr c2 _ _ _ _ _ _ hr
      have hF1 : ∀ i, i ∈ l1.r ∨ i ∈ l1.w → F i := fun i hi => hF i (hi.imp (fun h => by simp [Lg.add, h]) (fun h => by simp [Lg.add, h]))
      have hF2 : ∀ i, i ∈ l2.r ∨ i ∈ l2.w → F i := fun i hi => hF i (hi.imp (fun h => by simp [Lg.add, h]) (fun h => by simp [Lg.add, h]))
      refine code_sound hM hN hC hX hfr c1 _ _ _ _ _ _ a w ρ Pp _ h0 tr p (Nat.le_trans f2.len hNl) hF1 hnew fun a1 w1 ρ1 P1 tr1 st1 => ?_
      have p1 := st1.after p (fun i hi => hF1 i (.inr hi))
      refine code_sound hM hN hC hX hfr c2 _ _ _ _ _ _ a1 w1 ρ1 P1 Q hr tr1 p1 hNl hF2 (fun i hi => hnew i (Nat.le_trans f1.len hi)) fun a2 w2 ρ2 P2 tr2 st2 => ?_
      exact hQ a2 w2 ρ2 P2 tr2 (st1.trans st2 p (fun i hi => hF1 i (.inr hi)) (fun i hi => .inl (hF2 i (.inr hi))))
    · rename_i hne
      refine code_sound hM hN hC hX hfr c1 _ _ _ _ _ _ a w ρ Pp _ e tr p hNl hF hnew fun a1 w1 ρ1 P1 tr1 st1 => ?_
      cases x with
      | nrm => exact (hne _ _ _ e).elim
      | ext id => exact hQ a1 w1 ρ1 P1 tr1 st1
      | ret => exact hQ a1 w1 ρ1 P1 tr1 st1
  | .cond o c1 c2, σ, h, x, σ', h', lg, a, w, ρ, Pp, Q, e, tr, p, hNl, hF, hnew, hQ => by
    simp only [gcode] at e
    split at e
    · rename_i t ht
      have hv := eval_EV (a := a) (x := o) p.gl (fun t _ => tr.val t) _ ht
      simp only [VR, VRi] at hv
      refine wp_cond hv ?_
      cases t with
      | true => exact code_sound hM hN hC hX hfr c1 _ _ _ _ _ _ a w ρ Pp Q e tr p hNl hF hnew hQ
      | false => exact code_sound hM hN hC hX hfr c2 _ _ _ _ _ _ a w ρ Pp Q e tr p hNl hF hnew hQ
    · cases e
  | .block id c, σ, h, x, σ', h', lg, a, w, ρ, Pp, Q, e, tr, p, hNl, hF, hnew, hQ => by
    simp only [gcode] at e
    refine wp_block ?_
    split at e
    · rename_i id' σ1 h1 l1 h0
      split at e
      · rename_i hid
        simp only [Option.some.injEq, Prod.mk.injEq] at e
        obtain ⟨rfl, rfl, rfl, rfl⟩ := e
        refine code_sound hM hN hC hX hfr c _ _ _ _ _ _ a w ρ Pp _ h0 tr p hNl hF hnew fun a1 w1 ρ1 P1 tr1 st1 => ?_
        show Exit.inBlock id Q (.exit id') a1 w1
        simp only [Exit.inBlock, hid, if_true]
        exact hQ a1 w1 ρ1 P1 tr1 st1
      · rename_i hid
        simp only [Option.some.injEq, Prod.mk.injEq] at e
        obtain ⟨rfl, rfl, rfl, rfl⟩ := e
        refine code_sound hM hN hC hX hfr c _ _ _ _ _ _ a w ρ Pp _ h0 tr p hNl hF hnew fun a1 w1 ρ1 P1 tr1 st1 => ?_
        show Exit.inBlock id Q (.exit id') a1 w1
        simp only [Exit.inBlock, hid, if_false]
        exact hQ a1 w1 ρ1 P1 tr1 st1
    · rename_i hne
      refine code_sound hM hN hC hX hfr c _ _ _ _ _ _ a w ρ Pp _ e tr p hNl hF hnew fun a1 w1 ρ1 P1 tr1 st1 => ?_
      cases x with
      | ext id => exact (hne _ _ _ _ e).elim
      | nrm => exact hQ a1 w1 ρ1 P1 tr1 st1
      | ret => exact hQ a1 w1 ρ1 P1 tr1 st1
  | .loop c, σ, h, x, σ', h', lg, a, w, ρ, Pp, Q, e, tr, p, hNl, hF, hnew, hQ => by
    simp only [gcode] at e
    exact wp_loop_rounds k (loop_sound (code_sound hM hN hC hX hfr c) (fun σ h x σ' h' lg e => gcode_frame hfr c σ h x σ' h' lg e) _ _ _ _ _ _ _ a w ρ Pp Q e tr p hNl hF hnew fun a1 w1 ρ1 P1 tr1 st1 _ => hQ a1 w1 ρ1 P1 tr1 st1)
  | .exit id, σ, h, x, σ', h', lg, a, w, ρ, Pp, Q, e, tr, p, hNl, hF, hnew, hQ => by
    simp only [gcode, Option.some.injEq, Prod.mk.injEq] at e
    obtain ⟨rfl, rfl, rfl, rfl⟩ := e
    exact wp_exit (hQ a w ρ Pp tr (Step.none ..))
  | .ret, σ, h, x, σ', h', lg, a, w, ρ, Pp, Q, e, tr, p, hNl, hF, hnew, hQ => by
    simp only [gcode, Option.some.injEq, Prod.mk.injEq] at e
    obtain ⟨rfl, rfl, rfl, rfl⟩ := e
    exact wp_ret (hQ a w ρ Pp tr (Step.none ..))
  | .label l, σ, h, x, σ', h', lg, a, w, ρ, Pp, Q, e, tr, p, hNl, hF, hnew, hQ => by
    simp only [gcode, Option.some.injEq, Prod.mk.injEq] at e
    obtain ⟨rfl, rfl, rfl, rfl⟩ := e
    exact wp_label (hQ a w ρ Pp tr (Step.none ..))
  | .goto l, σ, h, x, σ', h', lg, a, w, ρ, Pp, Q, e, tr, p, hNl, hF, hnew, hQ => by simp only [gcode] at e; cases e
  | .scope c, σ, h, x, σ', h', lg, a, w, ρ, Pp, Q, e, tr, p, hNl, hF, hnew, hQ => by simp only [gcode] at e; cases e
  | .rangeFunc .., σ, h, x, σ', h', lg, a, w, ρ, Pp, Q, e, tr, p, hNl, hF, hnew, hQ => by simp only [gcode] at e; cases e

def resOne (tmps : Array Value) : ResultVar → Sem Value
  | .tmp t => pure (tmps.getD t undef)
  | .cell b t => do loadVar t (← asAddr (tmps.getD b undef))

theorem results_eq (fn : Func) (tmps : Array Value) : results fn tmps = (do let vs ← fn.results.mapM (resOne tmps); pure (if h : vs.size = 1 then vs[0] else .tuple vs)) := rfl

theorem result_run {w : World} {ρ : Map} {Pp : Nat → Prop} {h : Heap} {σ : GS} {a : Act} (tr : TR w ρ Pp Pt nt σ a) {rv : ResultVar} {v : GV} {r : List Nat} (e : gresult P σ h rv = some (v, r)) (hb : ∀ i, i ∈ r → HB w ρ Pp Pt h i) :
    ∃ u, (resOne a.tmps rv).run P w = .ok u w ∧ VR w ρ Pp v Pt u := by
  cases rv with
  | tmp t =>
    simp only [gresult, Option.some.injEq, Prod.mk.injEq] at e
    obtain ⟨rfl, rfl⟩ := e
    exact ⟨_, rfl, tr.val t⟩
  | cell b t =>
    simp only [gresult] at e
    obtain ⟨u, h1, h2⟩ := gload_run e (tr.val b) hb
    refine ⟨u, ?_, h2⟩
    simp only [resOne]
    generalize a.tmps.getD b undef = x at h1 ⊢
    cases x with
    | pointer o =>
      cases o with
      | none => simp [Instr.loadAt, Instr.sureAddr] at h1
      | some A =>
        simp only [Instr.loadAt, Instr.sureAddr, Sem.run_bind, Sem.run_pure, Result.andThen_ok] at h1
        simp only [asAddr, Sem.run_bind, Sem.run_pure, Result.andThen_ok]
        exact h1
    | _ => simp [Instr.loadAt, Instr.sureAddr] at h1

theorem results_run {w : World} {ρ : Map} {Pp : Nat → Prop} {h : Heap} {σ : GS} {a : Act} (tr : TR w ρ Pp Pt nt σ a) {fn : Func} {v : GV} {r : List Nat} (e : gresults P fn σ h = some (v, r)) (hb : ∀ i, i ∈ r → HB w ρ Pp Pt h i) :
    ∃ u, (results fn a.tmps).run P w = .ok u w ∧ VR w ρ Pp v Pt u := by
  unfold gresults at e
  simp only [Option.bind_eq_bind, obsi] at e
  obtain ⟨vs, hvs, e⟩ := e
  have hr : ∀ i, i ∈ (vs.map (·.2)).flatten → i ∈ r := by
    intro i hi
    split at e
    · simp only [Option.some.injEq] at e
      subst e
      simpa using hi
    · simp only [Option.some.injEq, Prod.mk.injEq] at e
      rw [← e.2]
      exact hi
  have key : ∀ (l : List ResultVar) (vs : List (GV × List Nat)), l.mapM (gresult P σ h) = some vs → (∀ i, i ∈ (vs.map (·.2)).flatten → HB w ρ Pp Pt h i) →
      ∃ us : List Value, (l.mapM (resOne a.tmps)).run P w = .ok us w ∧ VRs w ρ Pp (vs.map (·.1)) Pt us := by
    intro l
    induction l with
    | nil => intro vs hvs _; simp at hvs; subst hvs; exact ⟨[], rfl, rfl⟩
    | cons rv l ih =>
      intro vs hvs hb
      simp only [List.mapM_cons, Option.bind_eq_bind, obsi, Option.pure_def, Option.some.injEq] at hvs
      obtain ⟨⟨v0, r0⟩, h1, vs', h2, rfl⟩ := hvs
      obtain ⟨u, h3, h4⟩ := result_run tr h1 (fun i hi => hb i (by simp [hi]))
      obtain ⟨us, h5, h6⟩ := ih vs' h2 (fun i hi => hb i (by simp at hi ⊢; exact .inr hi))
      refine ⟨u :: us, ?_, ⟨u, us, rfl, h4, h6⟩⟩
      simp only [List.mapM_cons, Sem.run_bind]
      rw [h3]
      simp only [Result.andThen_ok]
      rw [h5]
      rfl
  obtain ⟨us, h1, h2⟩ := key _ vs hvs (fun i hi => hb i (hr i hi))
  have hl := VRs_len h2
  have hm : (results fn a.tmps).run P w = .ok (if h : us.toArray.size = 1 then us.toArray[0] else .tuple us.toArray) w := by
    rw [results_eq, Array.mapM_eq_mapM_toList]
    simp only [Sem.run_bind, Sem.run_map, h1, Result.andThen_ok, Sem.run_pure]
  split at e
  · rename_i v0
    simp only [Option.some.injEq] at e
    subst e
    obtain ⟨u, us', rfl, h3, h4⟩ := h2
    simp only [List.map_nil, VRsi] at h4
    subst h4
    exact ⟨u, hm, h3⟩
  · rename_i hne
    simp only [Option.some.injEq, Prod.mk.injEq] at e
    obtain ⟨rfl, rfl⟩ := e
    refine ⟨.tuple us.toArray, ?_, ⟨us.toArray, rfl, h2⟩⟩
    rw [hm, dif_neg]
    intro h1
    simp at h1
    rw [h1] at hl
    simp at hl
    obtain ⟨x, hx⟩ := List.length_eq_one_iff.1 hl.symm
    exact hne x hx

theorem gcall_sound (hM : P.follows .mixedOrders = true) (hN : NameOk P) (hX : XSound P C) : ∀ k, CSound P (gcall P C k)
  | 0, f, args, h, v, h', lg, us, w, ρ, Pp, Pt, F, e, _, _, _ => by cases e
  | k + 1, f, args, h, v, h', lg, us, w, ρ, Pp, Pt, F, e, hv, p, hF => by
    have ih := gcall_sound hM hN hX k
    unfold gcall at e
    split at e
    · cases e
    · rename_i fn hfn
      split at e
      · cases e
      · rename_i c hc
        split at e
        · cases e
        · rename_i x σ2 h2 l2 hne h0
          obtain ⟨⟨v', r⟩, hr, e⟩ := Option.map_eq_some_iff.1 e
          simp only [Prod.mk.injEq] at e
          obtain ⟨rfl, rfl, rfl⟩ := e
          have hl := VRs_len hv
          refine calls_of_wp hfn hc ?_
          have tr : TR w ρ Pp Pt (max args.length fn.ntmps) (fun t => args.getD t .un) { tmps := us.toArray ++ Array.replicate (fn.ntmps - us.toArray.size) undef, defers := [] } := by
            refine ⟨by simp [hl]; omega, fun t => ?_, rfl⟩
            by_cases ht : t < args.length
            · obtain ⟨u, h1, h2⟩ := VRs_get hv t (args[t]) (by simp)
              have e1 : args.getD t .un = args[t] := by simp [List.getD, ht]
              have e2 : (us.toArray ++ Array.replicate (fn.ntmps - us.toArray.size) undef).getD t undef = u := by
                have : t < us.length := by omega
                rw [List.getElem?_eq_getElem this] at h1
                simp only [Option.some.injEq] at h1
                simp [Array.getElem?_append, this, h1]
              rw [e1, e2]
              exact h2
            · have e1 : args.getD t .un = .un := by simp [List.getD, List.getElem?_eq_none (by omega : args.length ≤ t)]
              have e2 : (us.toArray ++ Array.replicate (fn.ntmps - us.toArray.size) undef).getD t undef = undef := by
                have : ¬ t < us.length := by omega
                simp [Array.getElem?_append, this, Array.getElem?_replicate]
                split <;> rfl
              rw [e1, e2]
              rfl
          have p' := p.more
          have hF' : ∀ i, i ∈ l2.r ∨ i ∈ l2.w → F i ∨ h.length ≤ i := fun i hi => .inl (hF i (hi.imp (fun h => by simp [Lg.add, h]) (fun h => by simp [Lg.add, h])))
          refine code_sound (F := fun i => F i ∨ h.length ≤ i) (N := h2.length) hM hN ih hX (gcall_frame k) c _ _ _ _ _ _ _ w ρ Pp _ h0 tr p' (Nat.le_refl _) hF' (fun i hi => .inr hi) fun a1 w1 ρ1 P1 tr1 st1 => ?_
          have p1 := st1.after p' (fun i hi => hF' i (.inr hi))
          obtain ⟨u, q1, q2⟩ := results_run tr1 hr (fun i hi => p1.hb i (.inl (hF i (.inl (by simp [Lg.add, hi])))))
          have fin : (∃ v, (results fn a1.tmps).run P w1 = .ok v w1 ∧ (match Ending.returned v, w1 with | .returned u, w' => After Pt w ρ Pp h (l2.add ⟨r, []⟩) h2 v' u w' | _, _ => False)) :=
            ⟨u, q1, ρ1, P1, q2, st1.relog (by simp [Lg.add])⟩
          cases x with
          | ext id => exact (hne _ rfl).elim
          | nrm => exact ⟨tr1.defers, fin⟩
          | ret => exact ⟨tr1.defers, fin⟩
        · cases e
end

end Go.Proofs.Ytlbnioapepelnaa.G

namespace Go.Proofs.Ytlbnioapepelnaa.G
open Go.RowKit

def ansT : Option (GV × Heap × Lg) → Bool
  | some (.bool b, _, _) => b
  | _ => false

theorem ansT_some {x : Option (GV × Heap × Lg)} (h : ansT x = true) : ∃ h' lg, x = some (.bool true, h', lg) := by
  unfold ansT at h
  split at h
  · subst h; exact ⟨_, _, rfl⟩
  · cases h

theorem law_calls {P : Program} {C : Cfg} (hM : P.follows .mixedOrders = true) (hN : NameOk P) (hX : XSound P C) {k : Nat} {f : FuncId} {args : List GV} {us : List Value} {W : World} (e : ansT (gcall P C k f args []) = true)
    {Pp : Nat → Prop} (hpp : ∀ c, Pp c → c < W.heap.size) (hgl : GL W Pp) (hv : VRs W E0 Pp args (fun c => c < W.heap.size) us) : Calls P f us.toArray W fun e w' => e = .returned (.bool true) ∧ Below W.heap.size W w' := by
  obtain ⟨h', lg, he⟩ := ansT_some e
  have p : Pre (fun c => c < W.heap.size) W E0 Pp [] (fun _ => True) h'.length :=
    ⟨fun c hc => hc.elim (hpp c) id, fun i _ cs hcs => by simp at hcs, fun i j c _ _ _ ha => by obtain ⟨cs, loc, h1, _⟩ := ha; simp at h1, fun _ _ _ _ => rfl, hgl⟩
  refine Calls.mono (gcall_sound hM hN hX k f args [] _ h' lg us W E0 _ _ _ he hv p (fun _ _ => trivial)) fun en w' hen => ?_
  cases en with
  | returned u =>
    obtain ⟨ρ', Pp', hu, st⟩ := hen
    simp only [VR, VRi] at hu
    subst hu
    refine ⟨rfl, st.os, st.tape, st.output, st.size, fun c hc => st.kept c hc fun i _ ha => ?_⟩
    obtain ⟨cs, loc, h1, _⟩ := ha
    simp at h1
  | _ => exact hen.elim

theorem noExt {P : Program} {C : Cfg} (hx : ∀ f, C.ext f = none) : XSound P C := by
  intro f e args v us w Pp Pt h1
  rw [hx] at h1
  cases h1

theorem nameOk {P : Program} (h : (P.funcs.all fun fn => !(fn.name == "runtime.NumGoroutine")) = true) : NameOk P := by
  intro f fn hf
  have := Array.all_eq_true.1 h f (Array.getElem?_eq_some_iff.1 hf).1
  rw [(Array.getElem?_eq_some_iff.1 hf).2] at this
  simpa using this

end Go.Proofs.Ytlbnioapepelnaa.G
