/- What an operation of this machine leaves as it is. -/
import Derived.Test.YtolhjndfplfjpaaG15
namespace Go.Proofs.Ytolhjndfplfjpaa.G
open Go.RowKit
set_option linter.unusedVariables false
set_option linter.unusedSimpArgs false

/-- Blocks that are not written stay. -/
structure FR (h : Heap) (lg : Lg) (h' : Heap) : Prop where
  len : h.length ≤ h'.length
  keep : ∀ i, i < h.length → i ∉ lg.w → h'[i]? = h[i]?

theorem FR.same (h : Heap) (lg : Lg) : FR h lg h := ⟨Nat.le_refl _, fun _ _ _ => rfl⟩
theorem FR.app (h : Heap) (lg : Lg) (cs : List GV) : FR h lg (h ++ [cs]) := ⟨by simp, fun i hi _ => by rw [List.getElem?_append_left hi]⟩
theorem FR.apps (h : Heap) (lg : Lg) (bl : List (List GV)) : FR h lg (h ++ bl) := ⟨by simp, fun i hi _ => by rw [List.getElem?_append_left hi]⟩
theorem FR.set {h : Heap} {lg : Lg} {i : Nat} (hi : i ∈ lg.w) (cs : List GV) : FR h lg (h.set i cs) := ⟨by simp, fun k _ hk => by rw [List.getElem?_set_ne (by rintro rfl; exact hk hi)]⟩
theorem FR.trans {h h1 h2 : Heap} {a b : Lg} (x : FR h a h1) (y : FR h1 b h2) : FR h (a.add b) h2 :=
  ⟨Nat.le_trans x.len y.len, fun i hi hn => by
    have h1 : i ∉ a.w := fun e => hn (by simp [Lg.add, e])
    have h2 : i ∉ b.w := fun e => hn (by simp [Lg.add, e])
    rw [y.keep i (Nat.lt_of_lt_of_le hi x.len) h2, x.keep i hi h1]⟩
theorem FR.more {h h' : Heap} {a : Lg} (x : FR h a h') (r : List Nat) : FR h (a.add ⟨r, []⟩) h' := x.trans (FR.same _ _)

def CFrame (call : GCall) : Prop := ∀ f args h v h' lg, call f args h = some (v, h', lg) → FR h lg h'

section
variable {P : Program} {h h' : Heap} {lg : Lg} {v : GV} {ev : Operand → Option GV} {o : Oper} {C : Cfg} {call : GCall}

theorem gcallee_frame (hC : CFrame call) {g : FuncId} {args : List GV} (e : gcallee P C call g args h = some (v, h', lg)) : FR h lg h' := by
  unfold gcallee at e
  split at e
  · cases e
  · split at e
    · split at e
      · simp only [Option.bind_eq_bind, Option.bind_eq_some_iff, Option.some.injEq, Prod.mk.injEq] at e
        obtain ⟨_, _, _, _, _, rfl, rfl⟩ := e
        exact FR.same _ _
      · split at e
        · split at e
          · split at e
            · simp only [Option.some.injEq, Prod.mk.injEq] at e
              obtain ⟨_, rfl, rfl⟩ := e
              exact FR.same _ _
            · cases e
          · exact hC _ _ _ _ _ _ e
        · split at e
          · simp only [Option.bind_eq_bind, Option.bind_eq_some_iff] at e
            obtain ⟨_, _, e⟩ := e
            split at e
            · split at e
              · simp only [Option.some.injEq, Prod.mk.injEq] at e
                obtain ⟨_, rfl, rfl⟩ := e
                exact FR.same _ _
              · cases e
            simp only [Option.bind_eq_some_iff] at e
            obtain ⟨⟨_, _, _⟩, _, ⟨_, _, _⟩, _, e⟩ := e
            split at e
            · simp only [Option.some.injEq, Prod.mk.injEq] at e
              obtain ⟨_, rfl, rfl⟩ := e
              exact FR.apps _ _ _
            · cases e
          simp only [Option.bind_eq_bind, Option.bind_eq_some_iff, Option.some.injEq, Prod.mk.injEq] at e
          obtain ⟨_, _, ⟨_, _, _⟩, _, ⟨_, _⟩, _, _, rfl, rfl⟩ := e
          exact FR.same _ _
    · cases e

theorem gappz_frame {t : TypeId} {s x : GV} (e : gappz P h t s x = some (v, h', lg)) : FR h lg h' := by
  unfold gappz at e
  simp only [Option.bind_eq_bind, Option.bind_eq_some_iff] at e
  obtain ⟨dd, hu, e⟩ := e
  split at e
  · simp only [Option.bind_eq_some_iff] at e
    obtain ⟨info, hi, z, hz, e⟩ := e
    split at e
    · split at e
      · split at e <;> (simp only [Option.some.injEq, Prod.mk.injEq] at e; obtain ⟨rfl, rfl, rfl⟩ := e; first | exact FR.same _ _ | exact FR.app _ _ _)
      · cases e
    · cases e
  · cases e

theorem gappend_frame {t : TypeId} {s x : GV} (e : gappend P h t s x = some (v, h', lg)) : FR h lg h' := by
  unfold gappend at e
  simp only [Option.bind_eq_bind, Option.bind_eq_some_iff] at e
  obtain ⟨dd, hu, e⟩ := e
  split at e
  · simp only [Option.bind_eq_some_iff] at e
    obtain ⟨info, hi, ⟨n, new, r⟩, hc, z, hz, e⟩ := e
    split at e
    · split at e
      · split at e <;> (simp only [Option.some.injEq, Prod.mk.injEq] at e; obtain ⟨rfl, rfl, rfl⟩ := e; first | exact FR.same _ _ | exact FR.app _ _ _)
      · split at e <;> (simp only [Option.some.injEq, Prod.mk.injEq] at e; obtain ⟨rfl, rfl, rfl⟩ := e; first | exact FR.same _ _ | exact FR.app _ _ _)
      · simp only [Option.bind_eq_some_iff] at e
        obtain ⟨cs, hcs, e⟩ := e
        split at e
        · split at e
          · simp only [Option.some.injEq, Prod.mk.injEq] at e
            obtain ⟨rfl, rfl, rfl⟩ := e
            exact FR.set (by simp) _
          · split at e
            · simp only [Option.some.injEq, Prod.mk.injEq] at e
              obtain ⟨rfl, rfl, rfl⟩ := e
              exact FR.set (by simp) _
            · cases e
        · cases e
      · cases e
    · cases e
  · cases e

theorem gcopy_frame {t : TypeId} {s x : GV} (e : gcopy P h t s x = some (v, h', lg)) : FR h lg h' := by
  unfold gcopy at e
  simp only [Option.bind_eq_bind, Option.bind_eq_some_iff] at e
  obtain ⟨dd, hu, e⟩ := e
  split at e
  · simp only [Option.bind_eq_some_iff] at e
    obtain ⟨es, hi, ⟨n, new, r⟩, hc, e⟩ := e
    split at e
    · split at e
      · simp only [Option.some.injEq, Prod.mk.injEq] at e; obtain ⟨rfl, rfl, rfl⟩ := e; exact FR.same _ _
      · simp only [Option.some.injEq, Prod.mk.injEq] at e; obtain ⟨rfl, rfl, rfl⟩ := e; exact FR.same _ _
      · simp only [Option.bind_eq_some_iff] at e
        obtain ⟨cs, hcs, e⟩ := e
        split at e
        · simp only [Option.some.injEq, Prod.mk.injEq] at e
          obtain ⟨rfl, rfl, rfl⟩ := e
          exact FR.set (by simp) _
        · cases e
      · cases e
    · cases e
  · cases e

theorem gclear_frame {t : TypeId} {s : GV} (e : gclear P h t s = some (v, h', lg)) : FR h lg h' := by
  unfold gclear at e
  simp only [Option.bind_eq_bind, Option.bind_eq_some_iff] at e
  obtain ⟨dd, hu, e⟩ := e
  split at e
  · simp only [Option.bind_eq_some_iff] at e
    obtain ⟨z, hi, e⟩ := e
    split at e
    · simp only [Option.some.injEq, Prod.mk.injEq] at e; obtain ⟨rfl, rfl, rfl⟩ := e; exact FR.same _ _
    · simp only [Option.some.injEq, Prod.mk.injEq] at e; obtain ⟨rfl, rfl, rfl⟩ := e; exact FR.same _ _
    · simp only [Option.bind_eq_some_iff] at e
      obtain ⟨cs, hcs, e⟩ := e
      split at e
      · simp only [Option.some.injEq, Prod.mk.injEq] at e
        obtain ⟨rfl, rfl, rfl⟩ := e
        exact FR.set (by simp) _
      · cases e
    · cases e
  · cases e

theorem gbuiltin_frame {b : Builtin} {ts : Array TypeId} {args : List GV} (e : gbuiltin P b ts args h = some (v, h', lg)) : FR h lg h' := by
  unfold gbuiltin at e
  split at e
  · simp only [Option.bind_eq_bind, Option.bind_eq_some_iff] at e
    obtain ⟨t, ht, e⟩ := e
    split at e
    · simp only [Option.some.injEq, Prod.mk.injEq] at e; obtain ⟨rfl, rfl, rfl⟩ := e; exact FR.same _ _
    · split at e
      · cases e
      · simp only [Option.bind_eq_some_iff, Option.some.injEq, Prod.mk.injEq] at e
        obtain ⟨_, _, rfl, rfl, rfl⟩ := e
        exact FR.same _ _
    · simp only [Option.some.injEq, Prod.mk.injEq] at e; obtain ⟨rfl, rfl, rfl⟩ := e; exact FR.same _ _
    · cases e
  · simp only [Option.bind_eq_bind, Option.bind_eq_some_iff] at e
    obtain ⟨t, ht, e⟩ := e
    split at e
    · simp only [Option.some.injEq, Prod.mk.injEq] at e; obtain ⟨rfl, rfl, rfl⟩ := e; exact FR.same _ _
    · simp only [Option.some.injEq, Prod.mk.injEq] at e; obtain ⟨rfl, rfl, rfl⟩ := e; exact FR.same _ _
    · cases e
  · simp only [Option.bind_eq_bind, Option.bind_eq_some_iff, Option.some.injEq, Prod.mk.injEq] at e
    obtain ⟨_, _, _, rfl, rfl⟩ := e
    exact FR.same _ _
  · simp only [Option.bind_eq_bind, Option.bind_eq_some_iff, Option.some.injEq, Prod.mk.injEq] at e
    obtain ⟨_, _, _, rfl, rfl⟩ := e
    exact FR.same _ _
  · simp only [Option.bind_eq_bind, Option.bind_eq_some_iff] at e
    obtain ⟨t, ht, t', ht', e⟩ := e
    split at e
    · exact gappz_frame e
    · exact gappend_frame e
    · cases e
  · simp only [Option.bind_eq_bind, Option.bind_eq_some_iff] at e
    obtain ⟨t, ht, e⟩ := e
    exact gcopy_frame e
  · simp only [Option.bind_eq_bind, Option.bind_eq_some_iff] at e
    obtain ⟨t, ht, e⟩ := e
    exact gclear_frame e
  · cases e

theorem gconvert_frame {s d : TypeId} {x : GV} (e : gconvert P s d x h = some (v, h', lg)) : FR h lg h' := by
  unfold gconvert at e
  split at e
  · simp only [Option.some.injEq, Prod.mk.injEq] at e; obtain ⟨rfl, rfl, rfl⟩ := e; exact FR.same _ _
  · simp only [Option.some.injEq, Prod.mk.injEq] at e; obtain ⟨rfl, rfl, rfl⟩ := e; exact FR.same _ _
  · split at e
    · simp only [Option.some.injEq, Prod.mk.injEq] at e; obtain ⟨rfl, rfl, rfl⟩ := e; exact FR.app _ _ _
    · cases e
  · split at e
    · split at e
      · cases e
      · cases e
      · simp only [Option.bind_eq_bind, Option.bind_eq_some_iff] at e
        obtain ⟨⟨n, cs, r⟩, hc, ns, hns, e⟩ := e
        split at e
        · simp only [Option.some.injEq, Prod.mk.injEq] at e; obtain ⟨rfl, rfl, rfl⟩ := e; exact FR.same _ _
        · cases e
    · cases e
  · cases e

theorem gstore_frame {t : TypeId} {a x : GV} {i : Nat} (e : gstore P h t a x = some (h', i)) : FR h ⟨[], [i]⟩ h' := by
  unfold gstore at e
  simp only [Option.bind_eq_bind, Option.bind_eq_some_iff] at e
  obtain ⟨n, hn, e⟩ := e
  split at e
  · split at e
    · simp only [Option.bind_eq_some_iff] at e
      obtain ⟨cs, hcs, e⟩ := e
      split at e
      · simp only [Option.some.injEq, Prod.mk.injEq] at e
        obtain ⟨rfl, rfl⟩ := e
        exact FR.set (by simp) _
      · cases e
    · cases e
  · cases e

theorem gop_frame (hC : CFrame call) (e : gop P C call ev o h = some (v, h', lg)) : FR h lg h' := by
  unfold gop at e
  split at e
  · simp only [Option.bind_eq_bind, Option.bind_eq_some_iff, Option.some.injEq, Prod.mk.injEq] at e
    obtain ⟨_, _, _, rfl, rfl⟩ := e; exact FR.same _ _
  · simp only [Option.bind_eq_bind, Option.bind_eq_some_iff, Option.some.injEq, Prod.mk.injEq] at e
    obtain ⟨_, _, _, rfl, rfl⟩ := e; exact FR.same _ _
  · simp only [Option.bind_eq_bind, Option.bind_eq_some_iff] at e
    obtain ⟨_, _, e⟩ := e
    split at e
    · simp only [Option.bind_eq_some_iff, Option.some.injEq, Prod.mk.injEq] at e
      obtain ⟨_, _, _, _, _, rfl, rfl⟩ := e; exact FR.same _ _
    · cases e
  · simp only [Option.bind_eq_bind, Option.bind_eq_some_iff, Option.some.injEq, Prod.mk.injEq] at e
    obtain ⟨_, _, _, rfl, rfl⟩ := e; exact FR.app _ _ _
  · simp only [Option.bind_eq_bind, Option.bind_eq_some_iff, Option.some.injEq, Prod.mk.injEq] at e
    obtain ⟨_, _, _, rfl, rfl⟩ := e; exact FR.app _ _ _
  · simp only [Option.bind_eq_bind, Option.bind_eq_some_iff] at e
    obtain ⟨_, _, _, _, e⟩ := e
    split at e
    · simp only [Option.bind_eq_some_iff, Option.some.injEq, Prod.mk.injEq] at e
      obtain ⟨_, _, _, _, _, rfl, rfl⟩ := e; exact FR.same _ _
    · simp only [Option.bind_eq_some_iff, Option.some.injEq, Prod.mk.injEq] at e
      obtain ⟨_, _, _, _, _, rfl, rfl⟩ := e; exact FR.same _ _
    · cases e
  · simp only [Option.bind_eq_bind, Option.bind_eq_some_iff] at e
    obtain ⟨_, _, e⟩ := e
    split at e
    · simp only [Option.bind_eq_some_iff] at e
      obtain ⟨_, _, _, _, _, _, e⟩ := e
      split at e
      · simp only [Option.bind_eq_some_iff] at e
        obtain ⟨_, _, e⟩ := e
        split at e
        · simp only [Option.some.injEq, Prod.mk.injEq] at e
          obtain ⟨_, rfl, rfl⟩ := e; exact FR.same _ _
        · simp only [Option.some.injEq, Prod.mk.injEq] at e
          obtain ⟨_, rfl, rfl⟩ := e; exact FR.app _ _ _
      · cases e
    · cases e
  · simp only [Option.bind_eq_bind, Option.bind_eq_some_iff, Option.some.injEq, Prod.mk.injEq] at e
    obtain ⟨_, _, ⟨_, _⟩, _, _, rfl, rfl⟩ := e; exact FR.same _ _
  · simp only [Option.bind_eq_bind, Option.bind_eq_some_iff, Option.some.injEq, Prod.mk.injEq] at e
    obtain ⟨_, _, _, _, ⟨_, _⟩, hs, _, rfl, rfl⟩ := e
    exact gstore_frame hs
  · simp only [Option.bind_eq_bind, Option.bind_eq_some_iff] at e
    obtain ⟨_, _, e⟩ := e
    split at e <;> first
      | (simp only [Option.some.injEq, Prod.mk.injEq] at e; obtain ⟨_, rfl, rfl⟩ := e; exact FR.same _ _)
      | cases e
  · simp only [Option.bind_eq_bind, Option.bind_eq_some_iff, Option.some.injEq, Prod.mk.injEq] at e
    obtain ⟨_, _, _, _, _, _, _, rfl, rfl⟩ := e; exact FR.same _ _
  · simp only [Option.bind_eq_bind, Option.bind_eq_some_iff] at e
    obtain ⟨_, _, e⟩ := e
    split at e <;> first
      | (simp only [Option.some.injEq, Prod.mk.injEq] at e; obtain ⟨_, rfl, rfl⟩ := e; exact FR.same _ _)
      | cases e
  · simp only [Option.bind_eq_bind, Option.bind_eq_some_iff] at e
    obtain ⟨_, _, e⟩ := e
    exact gconvert_frame e
  · simp only [Option.bind_eq_bind, Option.bind_eq_some_iff] at e
    obtain ⟨_, _, e⟩ := e
    split at e <;> first
      | (simp only [Option.some.injEq, Prod.mk.injEq] at e; obtain ⟨_, rfl, rfl⟩ := e; exact FR.same _ _)
      | cases e
  · simp only [Option.bind_eq_bind, Option.bind_eq_some_iff] at e
    obtain ⟨_, _, e⟩ := e
    split at e
    · simp only [Option.some.injEq, Prod.mk.injEq] at e; obtain ⟨_, rfl, rfl⟩ := e; exact FR.same _ _
    · cases e
  · simp only [Option.bind_eq_bind, Option.bind_eq_some_iff] at e
    obtain ⟨_, _, e⟩ := e
    split at e
    · simp only [Option.bind_eq_some_iff] at e
      obtain ⟨_, _, _, _, _, _, e⟩ := e
      split at e
      · simp only [Option.bind_eq_some_iff] at e
        obtain ⟨_, _, e⟩ := e
        split at e
        · split at e
          · simp only [Option.some.injEq, Prod.mk.injEq] at e; obtain ⟨_, rfl, rfl⟩ := e; exact FR.app _ _ _
          · cases e
        · cases e
      · cases e
    · cases e
  · simp only [Option.bind_eq_bind, Option.bind_eq_some_iff] at e
    obtain ⟨_, _, _, _, _, _, _, _, e⟩ := e
    split at e
    · simp only [Option.bind_eq_some_iff, Option.some.injEq, Prod.mk.injEq] at e
      obtain ⟨_, _, _, rfl, rfl⟩ := e; exact FR.same _ _
    · split at e
      · simp only [Option.bind_eq_some_iff, Option.some.injEq, Prod.mk.injEq] at e
        obtain ⟨_, _, _, rfl, rfl⟩ := e; exact FR.same _ _
      · cases e
    · split at e
      · simp only [Option.bind_eq_some_iff, Option.some.injEq, Prod.mk.injEq] at e
        obtain ⟨_, _, _, rfl, rfl⟩ := e; exact FR.same _ _
      · cases e
    · simp only [Option.bind_eq_some_iff, Option.some.injEq, Prod.mk.injEq] at e
      obtain ⟨_, _, _, _, _, rfl, rfl⟩ := e; exact FR.same _ _
    · simp only [Option.bind_eq_some_iff, Option.some.injEq, Prod.mk.injEq] at e
      obtain ⟨_, _, _, _, _, rfl, rfl⟩ := e; exact FR.same _ _
    · cases e
  · simp only [Option.bind_eq_bind, Option.bind_eq_some_iff] at e
    obtain ⟨_, _, e⟩ := e
    split at e
    · simp only [Option.bind_eq_some_iff] at e
      obtain ⟨_, _, _, _, e⟩ := e
      split at e
      · cases e
      · simp only [Option.bind_eq_some_iff] at e
        obtain ⟨_, _, e⟩ := e
        split at e <;> first
          | (simp only [Option.some.injEq, Prod.mk.injEq] at e; obtain ⟨_, rfl, rfl⟩ := e; exact FR.same _ _)
          | cases e
    · cases e
  · simp only [Option.bind_eq_bind, Option.bind_eq_some_iff] at e
    obtain ⟨_, _, e⟩ := e
    split at e
    · simp only [Option.bind_eq_some_iff] at e
      obtain ⟨_, _, _, _, e⟩ := e
      split at e
      · simp only [Option.bind_eq_some_iff, Option.some.injEq, Prod.mk.injEq] at e
        obtain ⟨_, _, _, rfl, rfl⟩ := e; exact FR.same _ _
      · cases e
    · cases e
  · simp only [Option.bind_eq_bind, Option.bind_eq_some_iff] at e
    obtain ⟨_, _, _, _, e⟩ := e
    split at e
    · split at e
      · split at e
        · simp only [Option.some.injEq, Prod.mk.injEq] at e; obtain ⟨_, rfl, rfl⟩ := e; exact FR.same _ _
        · cases e
      · split at e
        · simp only [Option.some.injEq, Prod.mk.injEq] at e; obtain ⟨_, rfl, rfl⟩ := e; exact FR.same _ _
        · cases e
      · cases e
    · cases e
  · simp only [Option.bind_eq_bind, Option.bind_eq_some_iff] at e
    obtain ⟨_, _, _, _, e⟩ := e
    split at e
    · split at e
      · split at e
        · split at e
          · simp only [Option.some.injEq, Prod.mk.injEq] at e; obtain ⟨_, rfl, rfl⟩ := e; exact FR.same _ _
          · cases e
        · cases e
      · simp only [Option.bind_eq_some_iff] at e
        obtain ⟨_, _, e⟩ := e
        split at e
        · simp only [Option.bind_eq_some_iff, Option.some.injEq, Prod.mk.injEq] at e
          obtain ⟨_, _, _, rfl, rfl⟩ := e; exact FR.same _ _
        · cases e
      · cases e
    · cases e
  · simp only [Option.bind_eq_bind, Option.bind_eq_some_iff] at e
    obtain ⟨_, _, e⟩ := e
    split at e
    · simp only [Option.bind_eq_some_iff, Option.some.injEq, Prod.mk.injEq] at e
      obtain ⟨_, _, _, rfl, rfl⟩ := e; exact FR.same _ _
    · cases e
  · split at e
    · simp only [Option.bind_eq_bind, Option.bind_eq_some_iff] at e
      obtain ⟨_, _, e⟩ := e
      exact gbuiltin_frame e
    · simp only [Option.bind_eq_bind, Option.bind_eq_some_iff] at e
      obtain ⟨_, _, e⟩ := e
      split at e
      · simp only [Option.bind_eq_some_iff] at e
        obtain ⟨_, _, e⟩ := e
        exact gcallee_frame hC e
      · cases e
    · cases e
  · cases e
end

end Go.Proofs.Ytolhjndfplfjpaa.G
