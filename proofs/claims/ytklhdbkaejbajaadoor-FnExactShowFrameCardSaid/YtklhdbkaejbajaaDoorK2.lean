/- What the machine with continuations answers, the machine G answers: its operations. -/
import Derived.Test.YtklhdbkaejbajaaDoorK1
namespace Go.Proofs.YtklhdbkaejbajaaDoor.G
open Go.RowKit
set_option linter.unusedVariables false
set_option linter.unusedSimpArgs false

section
variable {P : Program} {C : Cfg} {R : Type} {r : R} {h : Heap} {ev : Operand → Option GV} {call : GCall}

theorem got_iff {α : Type} {x : Option α} {K : α → Option R} : got x K = some r ↔ ∃ v, x = some v ∧ K v = some r := by cases x <;> simp [got]

theorem evs_mapM : ∀ {l : List Operand} {vs : List GV}, evs ev l = some vs → l.mapM ev = some vs
  | [], vs, e => by simp only [evs, Option.some.injEq] at e; subst e; rfl
  | x :: xs, vs, e => by
    unfold evs at e
    cases h1 : ev x with
    | none => simp [h1] at e
    | some v =>
      cases h2 : evs ev xs with
      | none => simp [h1, h2] at e
      | some ws =>
        simp only [h1, h2, Option.some.injEq] at e
        subst e
        simp [List.mapM_cons, h1, evs_mapM h2]
theorem evm_gmay {x : Option Operand} {v : Option GV} (e : evm ev x = some v) : gmay ev x = some v := by
  cases x with
  | none => exact e
  | some y =>
    simp only [evm] at e
    cases h1 : ev y with
    | none => simp [h1] at e
    | some w => simp only [h1, Option.some.injEq] at e; subst e; simp [gmay, h1]
theorem evps_gparts {l : List (Nat × Operand)} {ps : List (Nat × GV)} (e : evps ev l = some ps) : (l.mapM fun (i, x) => (ev x).map fun v => (i, v)) = some ps := by
  induction l generalizing ps with
  | nil => simp only [evps, Option.some.injEq] at e; subst e; rfl
  | cons p l ih =>
    obtain ⟨i, x⟩ := p
    unfold evps at e
    cases h1 : ev x with
    | none => simp [h1] at e
    | some v =>
      cases h2 : evps ev l with
      | none => simp [h1, h2] at e
      | some ws =>
        simp only [h1, h2, Option.some.injEq] at e
        subst e
        simp [List.mapM_cons, h1, ih h2]
theorem placesOf_mapM {fs : List Field} {ps : List (Nat × Nat)} (e : placesOf P fs = some ps) : (fs.mapM fun f => (gsize P f.type).map fun n => (f.offset, n)) = some ps := by
  induction fs generalizing ps with
  | nil => simp only [placesOf, Option.some.injEq] at e; subst e; rfl
  | cons f l ih =>
    unfold placesOf at e
    cases h1 : gsize P f.type with
    | none => simp [h1] at e
    | some v =>
      cases h2 : placesOf P l with
      | none => simp [h1, h2] at e
      | some ws =>
        simp only [h1, h2, Option.some.injEq] at e
        subst e
        simp [List.mapM_cons, h1, ih h2]

theorem kread_g {a : GV} {n : Nat} {cs : List GV} (e : kread h a n = some cs) : ∃ l, gread h a n = some (cs, l) := by
  unfold kread at e
  unfold gread
  split at e
  · obtain ⟨cs0, h1, h2⟩ := Option.bind_eq_some_iff.1 e
    split at h2
    · rename_i hc; simp only [Option.some.injEq] at h2; subst h2; exact ⟨_, by simp only [Option.bind_eq_bind, h1, Option.bind_some]; rw [if_pos hc]⟩
    · cases h2
  · split at e
    · rename_i hc; simp only [Option.some.injEq] at e; subst e; exact ⟨_, if_pos hc⟩
    · cases e
  · cases e

theorem kload_g {t : TypeId} {a v : GV} (e : kload P t h a = some v) : ∃ l, gload P h t a = some (v, l) := by
  unfold kload at e
  unfold gload
  split at e
  · rename_i h1
    split at e
    · rename_i n h2
      unfold kloadA at e
      obtain ⟨cs, h3, rfl⟩ := Option.map_eq_some_iff.1 e
      obtain ⟨l, h4⟩ := kread_g h3
      exact ⟨l, by simp [h1, h2, h4]⟩
    · cases e
  · rename_i h1
    unfold kload1 at e
    obtain ⟨cs, h3, h4⟩ := Option.bind_eq_some_iff.1 e
    obtain ⟨l, h5⟩ := kread_g h3
    unfold one at h4
    split at h4
    · simp only [Option.some.injEq] at h4; subst h4; exact ⟨l, by simp [h1, h5]⟩
    · cases h4
  · cases e

theorem kstore_g {t : TypeId} {n : Nat} {a v : GV} {h' : Heap} (hn : gsize P t = some n) (e : kstore n h a v = some h') : ∃ i, gstore P h t a v = some (h', i) := by
  unfold kstore at e
  unfold gstore
  split at e
  · rename_i hc
    split at e
    · obtain ⟨cs, h1, h2⟩ := Option.bind_eq_some_iff.1 e
      split at h2
      · rename_i hl
        simp only [Option.some.injEq] at h2; subst h2
        rename_i i off tot
        exact ⟨i, by simp [hn, hc, h1, hl]⟩
      · cases h2
    · cases e
  · cases e

theorem kbin_g {op : BinOp} {t : TypeId} {x y v : GV} (e : kbin op x y = some v) : gbin P op t x y = some v := e

theorem kbinop_g {op : BinOp} {t : TypeId} {xo yo : Operand} {x y v : GV} (e : kbinop P op t xo yo x y = some v) : gbinop P op t xo yo x y = some v := by
  unfold kbinop at e
  split at e
  · unfold gbinop; rw [kbin_g e]
  · unfold gbinop; rw [kbin_g e]
  · rename_i hu
    unfold keqB at e
    split at e
    · simp only [Option.some.injEq] at e; subst e
      simp [gbinop, gbin, gfine, geq, hu, Op.maxDepth]
    · simp only [Option.some.injEq] at e; subst e
      simp [gbinop, gbin, gfine, geq, hu, Op.maxDepth]
    · cases e
  · rename_i hu
    cases hg : P.eqGuardType P.depth t with
    | true => simp [hg] at e
    | false =>
      simp only [hg, cond_false] at e
      unfold keqS at e
      split at e
      · rename_i xs ys
        cases op
        case eql => simp only [gbinop, gbin, gfine, hg, Bool.not_false, if_true]; exact e
        case neq => simp only [gbinop, gbin, gfine, hg, Bool.not_false, if_true]; exact e
        all_goals cases e
      · cases e
  · exact e

theorem kslice_g {t : TypeId} {x v : GV} {lo hi mx : Option GV} (e : kslice x lo hi mx = some v) : gslice P t x lo hi mx = some v := e

theorem kpart_g {t : TypeId} {off : Nat} {cs : List GV} {v : GV} (e : kpart P t off cs = some v) : gpart P t cs off = some v := by
  unfold kpart at e
  unfold gpart
  split at e
  · rename_i h1
    split at e
    · rename_i n h2; simp only [h1, h2]; exact e
    · cases e
  · rename_i h1; simp only [h1]; exact e
  · cases e

theorem kint_iff {g : GV} {i : Int} : kint g = some i ↔ ∃ k, g = .int k i := by
  cases g <;> simp [kint]
theorem kcs_iff {g : GV} {cs : List GV} : kcs g = some cs ↔ g = .agg cs := by cases g <;> simp [kcs]
theorem kstr_iff {g : GV} {s : ByteArray} : kstr g = some s ↔ g = .str s := by cases g <;> simp [kstr]

theorem bors_mapM : ∀ {l xs : List GV}, bors h l = some xs → ∃ ys, l.mapM (bor 9 h) = some ys ∧ xs = ys.map (·.1)
  | [], xs, e => by simp only [bors, Option.some.injEq] at e; subst e; exact ⟨[], rfl, rfl⟩
  | g :: gs, xs, e => by
    unfold bors at e
    simp only [Option.bind_eq_some_iff, Option.some.injEq] at e
    obtain ⟨y, h1, zs, h2, rfl⟩ := e
    obtain ⟨ys, h3, rfl⟩ := bors_mapM h2
    exact ⟨y :: ys, by simp [List.mapM_cons, h1, h3], rfl⟩

/-- What an operation may do at most. -/
structure EffOk (e : Eff) (h : Heap) (lg : Lg) (h' : Heap) : Prop where
  r : e.r = false → lg.r = []
  w : e.w = false → lg.w = []
  a : e.a = false → h'.length = h.length
  bd : e.w = false → ∀ i ∈ lg.r, i < h'.length
theorem EffOk.nil {e : Eff} : EffOk e h .nil h := ⟨fun _ => rfl, fun _ => rfl, fun _ => rfl, fun _ i hi => by cases hi⟩

theorem cellsAt_lt {i tot : Nat} {cs : List GV} (e : cellsAt h i tot = some cs) : i < h.length := (List.getElem?_eq_some_iff.1 (cellsAt_eq e).1).1
theorem gread_bd {a : GV} {n : Nat} {cs : List GV} {l : List Nat} (e : gread h a n = some (cs, l)) : ∀ i ∈ l, i < h.length := by
  unfold gread at e
  split at e
  · simp only [Option.bind_eq_bind, Option.bind_eq_some_iff] at e
    obtain ⟨cs0, h1, e⟩ := e
    split at e
    · simp only [Option.some.injEq, Prod.mk.injEq] at e
      obtain ⟨_, rfl⟩ := e
      intro i hi
      simp at hi
      subst hi
      exact cellsAt_lt h1
    · cases e
  · split at e
    · simp only [Option.some.injEq, Prod.mk.injEq] at e; obtain ⟨_, rfl⟩ := e; simp
    · cases e
  · cases e
theorem gload_bd {t : TypeId} {a v : GV} {l : List Nat} (e : gload P h t a = some (v, l)) : ∀ i ∈ l, i < h.length := by
  unfold gload at e
  simp only [Option.bind_eq_bind, Option.bind_eq_some_iff] at e
  obtain ⟨b, h1, e⟩ := e
  cases b with
  | true =>
    simp only [if_true, Option.bind_eq_some_iff, Option.some.injEq, Prod.mk.injEq] at e
    obtain ⟨n, h2, ⟨cs, r⟩, h3, _, rfl⟩ := e
    exact gread_bd h3
  | false =>
    simp only [Bool.false_eq_true, if_false, Option.bind_eq_some_iff] at e
    obtain ⟨⟨cs, r⟩, h3, e⟩ := e
    split at e
    · simp only [Option.some.injEq, Prod.mk.injEq] at e; obtain ⟨_, rfl⟩ := e; exact gread_bd h3
    · cases e
theorem gcells_bd {es n : Nat} {v : GV} {cs : List GV} {l : List Nat} (e : gcells h es v = some (n, cs, l)) : ∀ i ∈ l, i < h.length := by
  unfold gcells at e
  split at e
  · simp only [Option.bind_eq_bind, Option.bind_eq_some_iff] at e
    obtain ⟨cs0, h1, e⟩ := e
    split at e
    · simp only [Option.some.injEq, Prod.mk.injEq] at e
      obtain ⟨_, _, rfl⟩ := e
      intro i hi
      simp at hi
      subst hi
      exact cellsAt_lt h1
    · cases e
  · split at e
    · simp only [Option.some.injEq, Prod.mk.injEq] at e; obtain ⟨_, _, rfl⟩ := e; simp
    · split at e
      · simp only [Option.some.injEq, Prod.mk.injEq] at e; obtain ⟨_, _, rfl⟩ := e; simp
      · cases e
  · simp only [Option.some.injEq, Prod.mk.injEq] at e; obtain ⟨_, _, rfl⟩ := e; simp
  · simp only [Option.some.injEq, Prod.mk.injEq] at e; obtain ⟨_, _, rfl⟩ := e; simp
  · split at e
    · simp only [Option.some.injEq, Prod.mk.injEq] at e; obtain ⟨_, _, rfl⟩ := e; simp
    · cases e
  · cases e
theorem mapM_bd {f : GV → Option (GV × List Nat)} {n : Nat} : ∀ {l : List GV} {ys : List (GV × List Nat)}, (∀ g ∈ l, ∀ y, f g = some y → ∀ i ∈ y.2, i < n) → l.mapM f = some ys → ∀ i ∈ (ys.map (·.2)).flatten, i < n
  | [], ys, _, e => by simp at e; subst e; simp
  | g :: gs, ys, hf, e => by
    simp only [List.mapM_cons, Option.bind_eq_bind, Option.bind_eq_some_iff, Option.pure_def, Option.some.injEq] at e
    obtain ⟨y, h1, ys', h2, rfl⟩ := e
    intro i hi
    simp only [List.map_cons, List.flatten_cons, List.mem_append] at hi
    rcases hi with hi | hi
    · exact hf g (by simp) y h1 i hi
    · exact mapM_bd (fun g hg => hf g (by simp [hg])) h2 i hi
theorem bor_bd : ∀ (d : Nat) (g : GV) (y : GV × List Nat), bor d h g = some y → ∀ i ∈ y.2, i < h.length
  | 0, g, y, e => by cases e
  | d + 1, g, y, e => by
    unfold bor at e
    split at e
    · simp only [Option.bind_eq_bind, Option.bind_eq_some_iff] at e
      obtain ⟨cs, h1, xs, h2, e⟩ := e
      split at e
      · split at e
        · simp only [Option.some.injEq] at e; subst e
          intro i hi; simp at hi; subst hi; exact cellsAt_lt h1
        · simp only [Option.some.injEq] at e; subst e
          intro i hi
          simp only [List.mem_cons] at hi
          rcases hi with rfl | hi
          · exact cellsAt_lt h1
          · exact mapM_bd (fun g _ y hy => bor_bd d g y hy) h2 i hi
      · cases e
    · simp only [Option.bind_eq_bind, Option.bind_eq_some_iff, Option.some.injEq] at e
      obtain ⟨cs, h1, xs, h2, rfl⟩ := e
      intro i hi
      simp only [List.mem_cons] at hi
      rcases hi with rfl | hi
      · exact cellsAt_lt h1
      · exact mapM_bd (fun g _ y hy => bor_bd d g y hy) h2 i hi
    · simp only [Option.bind_eq_bind, Option.bind_eq_some_iff, Option.some.injEq] at e
      obtain ⟨xs, h2, rfl⟩ := e
      exact mapM_bd (fun g _ y hy => bor_bd d g y hy) h2
    · simp only [Option.bind_eq_bind, Option.bind_eq_some_iff, Option.some.injEq] at e
      obtain ⟨xs, h2, rfl⟩ := e
      exact mapM_bd (fun g _ y hy => bor_bd d g y hy) h2
    · cases e
    all_goals (simp only [Option.some.injEq] at e; subst e; simp)

def nocall : GCall := fun _ _ _ => none

/-- An operation that calls no function of the program. -/
def opPlain (o : Oper) : Bool :=
  match o.op with
  | .call c => match c.callee with | .builtin _ => true | _ => false
  | _ => true

theorem kapz_g {t : TypeId} {e : TypeId} {info : TypeInfo} {z : List GV} {s x v : GV} {h' : Heap} (hu : P.underlying t = some (.slice e)) (hi : P.info? e = some info) (hz : gzero P e = some z)
    (hk : kapz z info.size info.bytes s x h = some (v, h')) : ∃ lg, gappz P h t s x = some (v, h', lg) := by
  unfold kapz at hk
  unfold gappz
  simp only [Option.bind_eq_bind, hu, hi, hz, Option.bind_some]
  split at hk
  · split at hk
    · rename_i hc
      dsimp only
      rw [if_pos hc]
      split at hk
      · rename_i hn
        rw [if_pos hn]
        simp only [Option.some.injEq, Prod.mk.injEq] at hk ⊢; obtain ⟨rfl, rfl⟩ := hk; exact ⟨_, rfl, rfl, rfl⟩
      · rename_i hn
        rw [if_neg hn]
        simp only [Option.some.injEq, Prod.mk.injEq] at hk ⊢; obtain ⟨rfl, rfl⟩ := hk; exact ⟨_, rfl, rfl, rfl⟩
    · cases hk
  · cases hk

theorem kapp_g {t : TypeId} {e : TypeId} {info : TypeInfo} {z : List GV} {s x v : GV} {h' : Heap} (hu : P.underlying t = some (.slice e)) (hi : P.info? e = some info) (hz : gzero P e = some z)
    (hk : kapp z info.size info.bytes s x h = some (v, h')) : ∃ lg, gappend P h t s x = some (v, h', lg) := by
  unfold kapp at hk
  obtain ⟨⟨n, new, l⟩, h1, hk⟩ := Option.bind_eq_some_iff.1 hk
  simp only at hk
  unfold gappend
  simp only [Option.bind_eq_bind, hu, hi, hz, h1, Option.bind_some]
  split at hk
  · rename_i hc
    rw [if_pos hc]
    split at hk
    · by_cases hn : n = 0
      · simp only [hn, if_true, Option.some.injEq, Prod.mk.injEq] at hk ⊢; obtain ⟨rfl, rfl⟩ := hk; exact ⟨_, rfl, rfl, rfl⟩
      · simp only [hn, if_false, Option.some.injEq, Prod.mk.injEq] at hk ⊢; obtain ⟨rfl, rfl⟩ := hk; exact ⟨_, rfl, rfl, rfl⟩
    · by_cases hn : n = 0
      · simp only [hn, if_true, Option.some.injEq, Prod.mk.injEq] at hk ⊢; obtain ⟨rfl, rfl⟩ := hk; exact ⟨_, rfl, rfl, rfl⟩
      · simp only [hn, if_false, Option.some.injEq, Prod.mk.injEq] at hk ⊢; obtain ⟨rfl, rfl⟩ := hk; exact ⟨_, rfl, rfl, rfl⟩
    · obtain ⟨cs, h2, hk⟩ := Option.bind_eq_some_iff.1 hk
      simp only [h2, Option.bind_some]
      split at hk
      · rename_i hd
        rw [if_pos hd]
        split at hk
        · rename_i he
          rw [if_pos he]
          simp only [Option.some.injEq, Prod.mk.injEq] at hk; obtain ⟨rfl, rfl⟩ := hk; exact ⟨_, rfl⟩
        · rename_i he
          rw [if_neg he]
          split at hk
          · rename_i hf
            rw [if_pos hf]
            simp only [Option.some.injEq, Prod.mk.injEq] at hk; obtain ⟨rfl, rfl⟩ := hk; exact ⟨_, rfl⟩
          · cases hk
      · cases hk
    · cases hk
  · cases hk

theorem kcopy_g {t : TypeId} {e : TypeId} {es : Nat} {d x v : GV} {h' : Heap} (hu : P.underlying t = some (.slice e)) (hi : gsize P e = some es)
    (hk : kcopy es d x h = some (v, h')) : ∃ lg, gcopy P h t d x = some (v, h', lg) := by
  unfold kcopy at hk
  obtain ⟨⟨n, new, l⟩, h1, hk⟩ := Option.bind_eq_some_iff.1 hk
  simp only at hk
  unfold gcopy
  simp only [Option.bind_eq_bind, hu, hi, h1, Option.bind_some]
  split at hk
  · rename_i hc
    rw [if_pos hc]
    split at hk
    · simp only [Option.some.injEq, Prod.mk.injEq] at hk; obtain ⟨rfl, rfl⟩ := hk; exact ⟨_, rfl⟩
    · simp only [Option.some.injEq, Prod.mk.injEq] at hk; obtain ⟨rfl, rfl⟩ := hk; exact ⟨_, rfl⟩
    · obtain ⟨cs, h2, hk⟩ := Option.bind_eq_some_iff.1 hk
      simp only [h2, Option.bind_some]
      split at hk
      · rename_i hd
        rw [if_pos hd]
        simp only [Option.some.injEq, Prod.mk.injEq] at hk; obtain ⟨rfl, rfl⟩ := hk; exact ⟨_, rfl⟩
      · cases hk
    · cases hk
  · cases hk

theorem kclear_g {t : TypeId} {e : TypeId} {z : List GV} {d v : GV} {h' : Heap} (hu : P.underlying t = some (.slice e)) (hi : gzero P e = some z)
    (hk : kclear z d h = some (v, h')) : ∃ lg, gclear P h t d = some (v, h', lg) := by
  unfold kclear at hk
  unfold gclear
  simp only [Option.bind_eq_bind, hu, hi, Option.bind_some]
  split at hk
  · simp only [Option.some.injEq, Prod.mk.injEq] at hk; obtain ⟨rfl, rfl⟩ := hk; exact ⟨_, rfl⟩
  · simp only [Option.some.injEq, Prod.mk.injEq] at hk; obtain ⟨rfl, rfl⟩ := hk; exact ⟨_, rfl⟩
  · obtain ⟨cs, h2, hk⟩ := Option.bind_eq_some_iff.1 hk
    simp only [h2, Option.bind_some]
    split at hk
    · rename_i hd
      rw [if_pos hd]
      simp only [Option.some.injEq, Prod.mk.injEq] at hk; obtain ⟨rfl, rfl⟩ := hk; exact ⟨_, rfl⟩
    · cases hk
  · cases hk
end

end Go.Proofs.YtklhdbkaejbajaaDoor.G
