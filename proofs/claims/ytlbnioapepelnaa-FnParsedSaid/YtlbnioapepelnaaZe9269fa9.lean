/- What the machine with continuations answers, the machine G answers: its operations. Calls with any number of rounds; what the machine with continuatio -/
import Derived.Test.YtlbnioapepelnaaZe239d78e
set_option linter.unusedSimpArgs false
set_option linter.unusedVariables false
namespace Go.Proofs.Ytlbnioapepelnaa.G
open Go.RowKit

section
variable {P : Program} {C : Cfg} {R : Type} {r : R} {h : Heap} {ev : Operand → Option GV} {call : GCall}

theorem got_iff {α : Type} {x : Option α} {K : α → Option R} : got x K = some r ↔ ∃ v, x = some v ∧ K v = some r := by cases x <;> simp [got]

theorem evs_mapM : ∀ {l : List Operand} {vs : List GV}, evs ev l = some vs → l.mapM ev = some vs
  | [], vs, e => by simp only [evs, Option.some.injEq] at e; subst e; rfl
  | x :: xs, vs, e => by
    unfold evs at e
    cases h1 : ev x with
    | none => simp [h1] at e
    | some v =>
      cases h2 : evs ev xs with
      | none => simp [h1, h2] at e
      | some ws =>
        simp only [h1, h2, Option.some.injEq] at e
        subst e
        simp [List.mapM_cons, h1, evs_mapM h2]
theorem evm_gmay {x : Option Operand} {v : Option GV} (e : evm ev x = some v) : gmay ev x = some v := by
  cases x with
  | none => exact e
  | some y =>
    simp only [evm] at e
    cases h1 : ev y with
    | none => simp [h1] at e
    | some w => simp only [h1, Option.some.injEq] at e; subst e; simp [gmay, h1]
theorem evps_gparts {l : List (Nat × Operand)} {ps : List (Nat × GV)} (e : evps ev l = some ps) : (l.mapM fun (i, x) => (ev x).map fun v => (i, v)) = some ps := by
  induction l generalizing ps with
  | nil => simp only [evps, Option.some.injEq] at e; subst e; rfl
  | cons p l ih =>
    obtain ⟨i, x⟩ := p
    unfold evps at e
    cases h1 : ev x with
    | none => simp [h1] at e
    | some v =>
      cases h2 : evps ev l with
      | none => simp [h1, h2] at e
      | some ws =>
        simp only [h1, h2, Option.some.injEq] at e
        subst e
        simp [List.mapM_cons, h1, ih h2]
theorem placesOf_mapM {fs : List Field} {ps : List (Nat × Nat)} (e : placesOf P fs = some ps) : (fs.mapM fun f => (gsize P f.type).map fun n => (f.offset, n)) = some ps := by
  induction fs generalizing ps with
  | nil => simp only [placesOf, Option.some.injEq] at e; subst e; rfl
  | cons f l ih =>
    unfold placesOf at e
    cases h1 : gsize P f.type with
    | none => simp [h1] at e
    | some v =>
      cases h2 : placesOf P l with
      | none => simp [h1, h2] at e
      | some ws =>
        simp only [h1, h2, Option.some.injEq] at e
        subst e
        simp [List.mapM_cons, h1, ih h2]

theorem kread_g {a : GV} {n : Nat} {cs : List GV} (e : kread h a n = some cs) : ∃ l, gread h a n = some (cs, l) := by
  unfold kread at e
  unfold gread
  split at e
  · obtain ⟨cs0, h1, h2⟩ := obsi.1 e
    split at h2
    · rename_i hc; simp only [Option.some.injEq] at h2; subst h2; exact ⟨_, by simp only [Option.bind_eq_bind, h1, Option.bind_some]; rw [if_pos hc]⟩
    · cases h2
  · split at e
    · rename_i hc; simp only [Option.some.injEq] at e; subst e; exact ⟨_, if_pos hc⟩
    · cases e
  · cases e

theorem kload_g {t : TypeId} {a v : GV} (e : kload P t h a = some v) : ∃ l, gload P h t a = some (v, l) := by
  unfold kload at e
  unfold gload
  split at e
  · rename_i h1
    split at e
    · rename_i n h2
      unfold kloadA at e
      obtain ⟨cs, h3, rfl⟩ := Option.map_eq_some_iff.1 e
      obtain ⟨l, h4⟩ := kread_g h3
      exact ⟨l, by simp [h1, h2, h4]⟩
    · cases e
  · rename_i h1
    unfold kload1 at e
    obtain ⟨cs, h3, h4⟩ := obsi.1 e
    obtain ⟨l, h5⟩ := kread_g h3
    unfold one at h4
    split at h4
    · simp only [Option.some.injEq] at h4; subst h4; exact ⟨l, by simp [h1, h5]⟩
    · cases h4
  · cases e

theorem kstore_g {t : TypeId} {n : Nat} {a v : GV} {h' : Heap} (hn : gsize P t = some n) (e : kstore n h a v = some h') : ∃ i, gstore P h t a v = some (h', i) := by
  unfold kstore at e
  unfold gstore
  split at e
  · rename_i hc
    split at e
    · obtain ⟨cs, h1, h2⟩ := obsi.1 e
      split at h2
      · rename_i hl
        simp only [Option.some.injEq] at h2; subst h2
        rename_i i off tot
        exact ⟨i, by simp [hn, hc, h1, hl]⟩
      · cases h2
    · cases e
  · cases e

theorem kbin_g {op : BinOp} {t : TypeId} {x y v : GV} (e : kbin op x y = some v) : gbin P op t x y = some v := e

theorem kbinop_g {op : BinOp} {t : TypeId} {xo yo : Operand} {x y v : GV} (e : kbinop P op t xo yo x y = some v) : gbinop P op t xo yo x y = some v := by
  unfold kbinop at e
  split at e
  · unfold gbinop; rw [kbin_g e]
  · unfold gbinop; rw [kbin_g e]
  · rename_i hu
    unfold keqB at e
    split at e
    · simp only [Option.some.injEq] at e; subst e
      simp [gbinop, gbin, gfine, geq, hu, Op.maxDepth]
    · simp only [Option.some.injEq] at e; subst e
      simp [gbinop, gbin, gfine, geq, hu, Op.maxDepth]
    · cases e
  · rename_i hu
    cases hg : P.eqGuardType P.depth t with
    | true => simp [hg] at e
    | false =>
      simp only [hg, cond_false] at e
      unfold keqS at e
      split at e
      · rename_i xs ys
        cases op
        case eql => simp only [gbinop, gbin, gfine, hg, Bool.not_false, if_true]; exact e
        case neq => simp only [gbinop, gbin, gfine, hg, Bool.not_false, if_true]; exact e
        all_goals cases e
      · cases e
  · exact e

theorem kslice_g {t : TypeId} {x v : GV} {lo hi mx : Option GV} (e : kslice x lo hi mx = some v) : gslice P t x lo hi mx = some v := e

theorem kpart_g {t : TypeId} {off : Nat} {cs : List GV} {v : GV} (e : kpart P t off cs = some v) : gpart P t cs off = some v := by
  unfold kpart at e
  unfold gpart
  split at e
  · rename_i h1
    split at e
    · rename_i n h2; simp only [h1, h2]; exact e
    · cases e
  · rename_i h1; simp only [h1]; exact e
  · cases e

theorem kint_iff {g : GV} {i : Int} : kint g = some i ↔ ∃ k, g = .int k i := by
  cases g <;> simp [kint]
theorem kcs_iff {g : GV} {cs : List GV} : kcs g = some cs ↔ g = .agg cs := by cases g <;> simp [kcs]
theorem kstr_iff {g : GV} {s : ByteArray} : kstr g = some s ↔ g = .str s := by cases g <;> simp [kstr]

theorem bors_mapM : ∀ {l xs : List GV}, bors h l = some xs → ∃ ys, l.mapM (bor 9 h) = some ys ∧ xs = ys.map (·.1)
  | [], xs, e => by simp only [bors, Option.some.injEq] at e; subst e; exact ⟨[], rfl, rfl⟩
  | g :: gs, xs, e => by
    unfold bors at e
    simp only [obsi, Option.some.injEq] at e
    obtain ⟨y, h1, zs, h2, rfl⟩ := e
    obtain ⟨ys, h3, rfl⟩ := bors_mapM h2
    exact ⟨y :: ys, by simp [List.mapM_cons, h1, h3], rfl⟩

structure EffOk (e : Eff) (h : Heap) (lg : Lg) (h' : Heap) : Prop where
  r : e.r = false → lg.r = []
  w : e.w = false → lg.w = []
  a : e.a = false → h'.length = h.length
  bd : e.w = false → ∀ i ∈ lg.r, i < h'.length
theorem EffOk.nil {e : Eff} : EffOk e h .nil h := ⟨fun _ => rfl, fun _ => rfl, fun _ => rfl, fun _ i hi => by cases hi⟩

theorem cellsAt_lt {i tot : Nat} {cs : List GV} (e : cellsAt h i tot = some cs) : i < h.length := (List.getElem?_eq_some_iff.1 (cellsAt_eq e).1).1
theorem gread_bd {a : GV} {n : Nat} {cs : List GV} {l : List Nat} (e : gread h a n = some (cs, l)) : ∀ i ∈ l, i < h.length := by
  unfold gread at e
  split at e
  · simp only [Option.bind_eq_bind, obsi] at e
    obtain ⟨cs0, h1, e⟩ := e
    split at e
    · simp only [Option.some.injEq, Prod.mk.injEq] at e
      obtain ⟨_, rfl⟩ := e
      intro i hi
      simp at hi
      subst hi
      exact cellsAt_lt h1
    · cases e
  · split at e
    · simp only [Option.some.injEq, Prod.mk.injEq] at e; obtain ⟨_, rfl⟩ := e; simp
    · cases e
  · cases e
theorem gload_bd {t : TypeId} {a v : GV} {l : List Nat} (e : gload P h t a = some (v, l)) : ∀ i ∈ l, i < h.length := by
  unfold gload at e
  simp only [Option.bind_eq_bind, obsi] at e
  obtain ⟨b, h1, e⟩ := e
  cases b with
  | true =>
    simp only [if_true, obsi, Option.some.injEq, Prod.mk.injEq] at e
    obtain ⟨n, h2, ⟨cs, r⟩, h3, _, rfl⟩ := e
    exact gread_bd h3
  | false =>
    simp only [Bool.false_eq_true, if_false, obsi] at e
    obtain ⟨⟨cs, r⟩, h3, e⟩ := e
    split at e
    · simp only [Option.some.injEq, Prod.mk.injEq] at e; obtain ⟨_, rfl⟩ := e; exact gread_bd h3
    · cases e
theorem gcells_bd {es n : Nat} {v : GV} {cs : List GV} {l : List Nat} (e : gcells h es v = some (n, cs, l)) : ∀ i ∈ l, i < h.length := by
  unfold gcells at e
  split at e
  · simp only [Option.bind_eq_bind, obsi] at e
    obtain ⟨cs0, h1, e⟩ := e
    split at e
    · simp only [Option.some.injEq, Prod.mk.injEq] at e
      obtain ⟨_, _, rfl⟩ := e
      intro i hi
      simp at hi
      subst hi
      exact cellsAt_lt h1
    · cases e
  · split at e
    · simp only [Option.some.injEq, Prod.mk.injEq] at e; obtain ⟨_, _, rfl⟩ := e; simp
    · split at e
      · simp only [Option.some.injEq, Prod.mk.injEq] at e; obtain ⟨_, _, rfl⟩ := e; simp
      · cases e
  · simp only [Option.some.injEq, Prod.mk.injEq] at e; obtain ⟨_, _, rfl⟩ := e; simp
  · simp only [Option.some.injEq, Prod.mk.injEq] at e; obtain ⟨_, _, rfl⟩ := e; simp
  · split at e
    · simp only [Option.some.injEq, Prod.mk.injEq] at e; obtain ⟨_, _, rfl⟩ := e; simp
    · cases e
  · cases e
theorem mapM_bd {f : GV → Option (GV × List Nat)} {n : Nat} : ∀ {l : List GV} {ys : List (GV × List Nat)}, (∀ g ∈ l, ∀ y, f g = some y → ∀ i ∈ y.2, i < n) → l.mapM f = some ys → ∀ i ∈ (ys.map (·.2)).flatten, i < n
  | [], ys, _, e => by simp at e; subst e; simp
  | g :: gs, ys, hf, e => by
    simp only [List.mapM_cons, Option.bind_eq_bind, obsi, Option.pure_def, Option.some.injEq] at e
    obtain ⟨y, h1, ys', h2, rfl⟩ := e
    intro i hi
    simp only [List.map_cons, List.flatten_cons, List.mem_append] at hi
    rcases hi with hi | hi
    · exact hf g (by simp) y h1 i hi
    · exact mapM_bd (fun g hg => hf g (by simp [hg])) h2 i hi
theorem bor_bd : ∀ (d : Nat) (g : GV) (y : GV × List Nat), bor d h g = some y → ∀ i ∈ y.2, i < h.length
  | 0, g, y, e => by cases e
  | d + 1, g, y, e => by
    unfold bor at e
    split at e
    · simp only [Option.bind_eq_bind, obsi] at e
      obtain ⟨cs, h1, xs, h2, e⟩ := e
      split at e
      · split at e
        · simp only [Option.some.injEq] at e; subst e
          intro i hi; simp at hi; subst hi; exact cellsAt_lt h1
        · simp only [Option.some.injEq] at e; subst e
          intro i hi
          simp only [List.mem_cons] at hi
          rcases hi with rfl | hi
          · exact cellsAt_lt h1
          · exact mapM_bd (fun g _ y hy => bor_bd d g y hy) h2 i hi
      · cases e
    · simp only [Option.bind_eq_bind, obsi, Option.some.injEq] at e
      obtain ⟨cs, h1, xs, h2, rfl⟩ := e
      intro i hi
      simp only [List.mem_cons] at hi
      rcases hi with rfl | hi
      · exact cellsAt_lt h1
      · exact mapM_bd (fun g _ y hy => bor_bd d g y hy) h2 i hi
    · simp only [Option.bind_eq_bind, obsi, Option.some.injEq] at e
      obtain ⟨xs, h2, rfl⟩ := e
      exact mapM_bd (fun g _ y hy => bor_bd d g y hy) h2
    · simp only [Option.bind_eq_bind, obsi, Option.some.injEq] at e
      obtain ⟨xs, h2, rfl⟩ := e
      exact mapM_bd (fun g _ y hy => bor_bd d g y hy) h2
    · cases e
    all_goals (simp only [Option.some.injEq] at e; subst e; simp)

theorem kapz_g {t : TypeId} {e : TypeId} {info : TypeInfo} {z : List GV} {s x v : GV} {h' : Heap} (hu : P.underlying t = some (.slice e)) (hi : P.info? e = some info) (hz : gzero P e = some z)
    (hk : kapz z info.size info.bytes s x h = some (v, h')) : ∃ lg, gappz P h t s x = some (v, h', lg) := by
  unfold kapz at hk
  unfold gappz
  simp only [Option.bind_eq_bind, hu, hi, hz, Option.bind_some]
  split at hk
  · split at hk
    · rename_i hc
      dsimp only
      rw [if_pos hc]
      split at hk
      · rename_i hn
        rw [if_pos hn]
        simp only [Option.some.injEq, Prod.mk.injEq] at hk ⊢; obtain ⟨rfl, rfl⟩ := hk; exact ⟨_, rfl, rfl, rfl⟩
      · rename_i hn
        rw [if_neg hn]
        simp only [Option.some.injEq, Prod.mk.injEq] at hk ⊢; obtain ⟨rfl, rfl⟩ := hk; exact ⟨_, rfl, rfl, rfl⟩
    · cases hk
  · cases hk

theorem kapp_g {t : TypeId} {e : TypeId} {info : TypeInfo} {z : List GV} {s x v : GV} {h' : Heap} (hu : P.underlying t = some (.slice e)) (hi : P.info? e = some info) (hz : gzero P e = some z)
    (hk : kapp z info.size info.bytes s x h = some (v, h')) : ∃ lg, gappend P h t s x = some (v, h', lg) := by
  unfold kapp at hk
  obtain ⟨⟨n, new, l⟩, h1, hk⟩ := obsi.1 hk
  simp only at hk
  unfold gappend
  simp only [Option.bind_eq_bind, hu, hi, hz, h1, Option.bind_some]
  split at hk
  · rename_i hc
    rw [if_pos hc]
    split at hk
    · by_cases hn : n = 0
      · simp only [hn, if_true, Option.some.injEq, Prod.mk.injEq] at hk ⊢; obtain ⟨rfl, rfl⟩ := hk; exact ⟨_, rfl, rfl, rfl⟩
      · simp only [hn, if_false, Option.some.injEq, Prod.mk.injEq] at hk ⊢; obtain ⟨rfl, rfl⟩ := hk; exact ⟨_, rfl, rfl, rfl⟩
    · by_cases hn : n = 0
      · simp only [hn, if_true, Option.some.injEq, Prod.mk.injEq] at hk ⊢; obtain ⟨rfl, rfl⟩ := hk; exact ⟨_, rfl, rfl, rfl⟩
      · simp only [hn, if_false, Option.some.injEq, Prod.mk.injEq] at hk ⊢; obtain ⟨rfl, rfl⟩ := hk; exact ⟨_, rfl, rfl, rfl⟩
    · obtain ⟨cs, h2, hk⟩ := obsi.1 hk
      simp only [h2, Option.bind_some]
      split at hk
      · rename_i hd
        rw [if_pos hd]
        split at hk
        · rename_i he
          rw [if_pos he]
          simp only [Option.some.injEq, Prod.mk.injEq] at hk; obtain ⟨rfl, rfl⟩ := hk; exact ⟨_, rfl⟩
        · rename_i he
          rw [if_neg he]
          split at hk
          · rename_i hf
            rw [if_pos hf]
            simp only [Option.some.injEq, Prod.mk.injEq] at hk; obtain ⟨rfl, rfl⟩ := hk; exact ⟨_, rfl⟩
          · cases hk
      · cases hk
    · cases hk
  · cases hk

theorem kcopy_g {t : TypeId} {e : TypeId} {es : Nat} {d x v : GV} {h' : Heap} (hu : P.underlying t = some (.slice e)) (hi : gsize P e = some es)
    (hk : kcopy es d x h = some (v, h')) : ∃ lg, gcopy P h t d x = some (v, h', lg) := by
  unfold kcopy at hk
  obtain ⟨⟨n, new, l⟩, h1, hk⟩ := obsi.1 hk
  simp only at hk
  unfold gcopy
  simp only [Option.bind_eq_bind, hu, hi, h1, Option.bind_some]
  split at hk
  · rename_i hc
    rw [if_pos hc]
    split at hk
    · simp only [Option.some.injEq, Prod.mk.injEq] at hk; obtain ⟨rfl, rfl⟩ := hk; exact ⟨_, rfl⟩
    · simp only [Option.some.injEq, Prod.mk.injEq] at hk; obtain ⟨rfl, rfl⟩ := hk; exact ⟨_, rfl⟩
    · obtain ⟨cs, h2, hk⟩ := obsi.1 hk
      simp only [h2, Option.bind_some]
      split at hk
      · rename_i hd
        rw [if_pos hd]
        simp only [Option.some.injEq, Prod.mk.injEq] at hk; obtain ⟨rfl, rfl⟩ := hk; exact ⟨_, rfl⟩
      · cases hk
    · cases hk
  · cases hk

theorem kclear_g {t : TypeId} {e : TypeId} {z : List GV} {d v : GV} {h' : Heap} (hu : P.underlying t = some (.slice e)) (hi : gzero P e = some z)
    (hk : kclear z d h = some (v, h')) : ∃ lg, gclear P h t d = some (v, h', lg) := by
  unfold kclear at hk
  unfold gclear
  simp only [Option.bind_eq_bind, hu, hi, Option.bind_some]
  split at hk
  · simp only [Option.some.injEq, Prod.mk.injEq] at hk; obtain ⟨rfl, rfl⟩ := hk; exact ⟨_, rfl⟩
  · simp only [Option.some.injEq, Prod.mk.injEq] at hk; obtain ⟨rfl, rfl⟩ := hk; exact ⟨_, rfl⟩
  · obtain ⟨cs, h2, hk⟩ := obsi.1 hk
    simp only [h2, Option.bind_some]
    split at hk
    · rename_i hd
      rw [if_pos hd]
      simp only [Option.some.injEq, Prod.mk.injEq] at hk; obtain ⟨rfl, rfl⟩ := hk; exact ⟨_, rfl⟩
    · cases hk
  · cases hk
end

end Go.Proofs.Ytlbnioapepelnaa.G

namespace Go.Proofs.Ytlbnioapepelnaa.G
open Go.RowKit

section
variable {P : Program} {C : Cfg} {R : Type} {r : R} {h : Heap}

open Classical in
noncomputable def kω (P : Program) (C : Cfg) (f : FuncId) (args : List GV) (h : Heap) : Option (GV × Heap) :=
  if hx : ∃ r : GV × Heap, ∃ k lg, gcall P C k f args h = some (r.1, r.2, lg) then some hx.choose else none

theorem kω_some {f : FuncId} {args : List GV} {v : GV} {h' : Heap} : kω P C f args h = some (v, h') ↔ ∃ k lg, gcall P C k f args h = some (v, h', lg) := by
  unfold kω
  constructor
  · intro e
    split at e
    · rename_i hx
      have := hx.choose_spec
      rw [Option.some.injEq] at e
      rw [e] at this
      exact this
    · cases e
  · rintro ⟨k, lg, e⟩
    have hx : ∃ r : GV × Heap, ∃ k lg, gcall P C k f args h = some (r.1, r.2, lg) := ⟨(v, h'), k, lg, e⟩
    rw [dif_pos hx]
    obtain ⟨k', lg', e'⟩ := hx.choose_spec
    have e1 := gcall_mono (Nat.le_max_left k k') _ _ _ _ e
    have e2 := gcall_mono (Nat.le_max_right k k') _ _ _ _ e'
    rw [e1] at e2
    simp only [Option.some.injEq, Prod.mk.injEq] at e2
    rw [Option.some.injEq]
    exact Prod.ext e2.1.symm e2.2.1.symm

noncomputable def nω (P : Program) (C : Cfg) (f : FuncId) (xs : List GV) : Option GV :=
  match C.ext f with
  | some e => e xs
  | none => (kω P C f xs []).bind fun r => (frz 9 r.2 r.1).map (·.1)

theorem ksplit_g {g : FuncId} (e : ksplit (kω P C) g = true) : ∃ m, gsplit (gcall P C m) g = true := by
  unfold ksplit at e
  split at e
  · rename_i h1 h2 e1 e2
    obtain ⟨m1, l1, f1⟩ := kω_some.1 e1
    obtain ⟨m2, l2, f2⟩ := kω_some.1 e2
    refine ⟨max m1 m2, ?_⟩
    unfold gsplit
    rw [gcall_mono (Nat.le_max_left m1 m2) _ _ _ _ f1, gcall_mono (Nat.le_max_right m1 m2) _ _ _ _ f2]
  · cases e

theorem kcallee_g {g : FuncId} {args : List GV} {K : GV → Heap → Option R} (e : kcallee P C (nω P C) (kω P C) g args h K = some r) :
    ∃ m v h' lg, gcallee P C (gcall P C m) g args h = some (v, h', lg) ∧ K v h' = some r ∧ ((C.heapy g && (C.ext g).isNone) = false → lg.w = [] ∧ h.length ≤ h'.length ∧ ((C.fresh g && (C.ext g).isNone) = false → h'.length = h.length) ∧ ∀ i ∈ lg.r, i < h.length) := by
  unfold kcallee at e
  unfold gcallee
  split at e
  · cases e
  · rename_i fn hfn
    cases hb : fn.body.isSome with
    | false => simp [hb] at e
    | true =>
      simp only [hb, cond_true] at e
      cases hh : (C.heapy g && (C.ext g).isNone) with
      | true =>
        simp only [hh, cond_true] at e
        obtain ⟨⟨v, h'⟩, h1, h2⟩ := obsi.1 e
        simp only [Bool.and_eq_true, Option.isNone_iff_eq_none] at hh
        unfold kS at h1
        cases hsp : (C.split g && emptyArg args) with
        | true =>
          have hsp' := hsp
          simp only [Bool.and_eq_true] at hsp
          simp only [hsp.1, hsp.2, cond_true] at h1
          cases hks : ksplit (kω P C) g with
          | false => simp only [hks, cond_false] at h1; cases h1
          | true =>
            simp only [hks, cond_true, Option.some.injEq, Prod.mk.injEq] at h1
            obtain ⟨rfl, rfl⟩ := h1
            obtain ⟨m, hm⟩ := ksplit_g hks
            exact ⟨m, .emp, h, .nil, by simp [hfn, hb, hh.1, hh.2, hsp.1, hsp.2, hm], h2, fun hc => by simp at hc⟩
        | false =>
          have h1' : kω P C g args h = some (v, h') := by
            cases h3 : C.split g with
            | false => simpa [h3] using h1
            | true => rw [h3] at hsp; simp only [Bool.true_and] at hsp; simpa [h3, hsp] using h1
          obtain ⟨m, lg, h3⟩ := kω_some.1 h1'
          exact ⟨m, v, h', lg, by simp [hfn, hb, hh.1, hh.2, hsp, h3], h2, fun hc => by simp at hc⟩
      | false =>
        simp only [hh, cond_false] at e
        cases hfr : (C.fresh g && (C.ext g).isNone) with
        | true =>
          simp only [hfr, cond_true] at e
          obtain ⟨⟨v, h'⟩, h1, h2⟩ := obsi.1 e
          unfold kF at h1
          obtain ⟨xs, h3, h1⟩ := obsi.1 h1
          obtain ⟨ys, h5, rfl⟩ := bors_mapM h3
          have hfr' := hfr
          simp only [Bool.and_eq_true, Option.isNone_iff_eq_none] at hfr
          have hne : C.heapy g = false := by simpa [hfr.2] using hh
          cases hsp : (C.split g && emptyArg (ys.map (·.1))) with
          | true =>
            simp only [hsp, cond_true] at h1
            cases hks : ksplit (kω P C) g with
            | false => simp only [hks, cond_false] at h1; cases h1
            | true =>
              simp only [hks, cond_true, Option.some.injEq, Prod.mk.injEq] at h1
              obtain ⟨rfl, rfl⟩ := h1
              obtain ⟨m, hm⟩ := ksplit_g hks
              simp only [Bool.and_eq_true] at hsp
              exact ⟨m, .emp, h, ⟨(ys.map (·.2)).flatten, []⟩, by simp [hfn, hb, hfr.2, hne, hfr.1, h5, hsp.1, hsp.2, hm], h2, fun _ => ⟨rfl, Nat.le_refl _, (fun hc => by simp at hc), mapM_bd (fun g _ y hy => bor_bd 9 g y hy) h5⟩⟩
          | false =>
          simp only [hsp, cond_false] at h1
          obtain ⟨⟨u, h6⟩, h7, h1⟩ := obsi.1 h1
          obtain ⟨⟨v1, bl⟩, h8, h1⟩ := obsi.1 h1
          simp only [Option.some.injEq, Prod.mk.injEq] at h1
          obtain ⟨rfl, rfl⟩ := h1
          unfold ownOk at h8
          obtain ⟨⟨v2, vis, bl2⟩, h9, h8⟩ := obsi.1 h8
          simp only at h8 h9
          cases hnd : nodupB (vis.map (·.1)) with
          | false => simp only [hnd, cond_false] at h8; cases h8
          | true =>
            simp only [hnd, cond_true, Option.some.injEq, Prod.mk.injEq] at h8
            obtain ⟨rfl, rfl⟩ := h8
            obtain ⟨m, lg, h10⟩ := kω_some.1 h7
            have hsp' : ¬ ((C.split g && emptyArg (ys.map (·.1))) = true) := by rw [hsp]; simp
            exact ⟨m, v2, _, ⟨(ys.map (·.2)).flatten, []⟩, by
              simp only [hfn, hb, hfr.2, hne, hfr.1, h5, if_true, Option.bind_eq_bind, Option.bind_some, Bool.false_eq_true, if_false]
              rw [if_neg hsp', h10]
              simp only [Option.bind_some, h9, hnd, if_true], h2, fun _ => ⟨rfl, by simp, (fun hc => by simp at hc), mapM_bd (fun g _ y hy => bor_bd 9 g y hy) h5⟩⟩
        | false =>
        simp only [hfr, cond_false] at e
        obtain ⟨v, h1, h2⟩ := obsi.1 e
        unfold kN at h1
        obtain ⟨xs, h3, h4⟩ := obsi.1 h1
        obtain ⟨ys, h5, rfl⟩ := bors_mapM h3
        unfold nω at h4
        cases hx : C.ext g with
        | some ex =>
          simp only [hx] at h4
          exact ⟨0, v, h, _, by simp [hfn, hb, hx, h5, h4]; rfl, h2, fun _ => ⟨rfl, Nat.le_refl _, fun _ => rfl, mapM_bd (fun g _ y hy => bor_bd 9 g y hy) h5⟩⟩
        | none =>
          simp only [hx] at h4
          obtain ⟨⟨u, h6⟩, h7, h8⟩ := obsi.1 h4
          obtain ⟨m, lg, h9⟩ := kω_some.1 h7
          obtain ⟨⟨z, q⟩, h10, h11⟩ := Option.map_eq_some_iff.1 h8
          simp only at h11 h10
          subst h11
          have hne : C.heapy g = false := by simpa [hx] using hh
          have hnf : C.fresh g = false := by simpa [hx] using hfr
          exact ⟨m, z, h, _, by simp [hfn, hb, hx, h5, h9, h10, hne, hnf]; rfl, h2, fun _ => ⟨rfl, Nat.le_refl _, fun _ => rfl, mapM_bd (fun g _ y hy => bor_bd 9 g y hy) h5⟩⟩

def OpG (P : Program) (C : Cfg) (ev : Operand → Option GV) (o : Oper) (h : Heap) (K : GV → Heap → Option R) (r : R) : Prop :=
  ∃ m v h' lg, gop P C (gcall P C m) ev o h = some (v, h', lg) ∧ K v h' = some r ∧ EffOk (effOf C o.op) h lg h'

variable {ev : Operand → Option GV} {o : Oper} {K : GV → Heap → Option R}

theorem OpG.same {v : GV} (e : ∀ m, gop P C (gcall P C m) ev o h = some (v, h, .nil)) (hk : K v h = some r) : OpG P C ev o h K r :=
  ⟨0, v, h, _, e 0, hk, .nil⟩

theorem kop_call (hev : ∀ g, ev (.func g) = some (.fn g [])) {N : NCall} {H : HCall} (hN : N = nω P C) (hH : H = kω P C) {c : Call} (ho : o.op = .call c) (e : kop P C N H ev o h K = some r) : OpG P C ev o h K r := by
  subst hN; subst hH
  simp only [kop, ho] at e
  cases hc : c.callee with
  | invoke a b => simp [hc] at e
  | builtin b =>
    simp only [hc, got_iff] at e
    obtain ⟨args, h1, e⟩ := e
    have h1 := evs_mapM h1
    split at e
    · rename_i x _
      simp only [got_iff] at e
      obtain ⟨t, ht, e⟩ := e
      split at e
      · rename_i hu
        obtain ⟨v, h2, h3⟩ := obsi.1 e
        unfold klenS at h2
        obtain ⟨s, h4, h5⟩ := obsi.1 h2
        rw [kstr_iff] at h4
        subst h4
        simp only [Option.some.injEq] at h5
        subst h5
        exact .same (fun m => by simp [gop, ho, hc, h1, gbuiltin, ht, hu]) h3
      · rename_i hu
        obtain ⟨v, h2, h3⟩ := obsi.1 e
        unfold klen at h2
        split at h2
        · cases h2
        · rename_i hns
          obtain ⟨n, h4, rfl⟩ := Option.map_eq_some_iff.1 h2
          refine .same (v := .int .i64 n) (fun m => ?_) h3
          simp only [gop, ho, hc, h1, gbuiltin, ht, hu, Option.bind_eq_bind, Option.bind_some]
          cases x <;> first | (exact absurd rfl (hns _)) | (show Option.bind (glen _) _ = _; rw [h4]; rfl)
      · rename_i n el hu
        exact .same (v := .int .i64 n) (fun m => by
          simp only [gop, ho, hc, h1, gbuiltin, ht, hu, Option.bind_eq_bind, Option.bind_some]) e
      · cases e
    · rename_i x _
      simp only [got_iff] at e
      obtain ⟨t, ht, e⟩ := e
      split at e
      · rename_i hu
        obtain ⟨v, h2, h3⟩ := obsi.1 e
        unfold kcap at h2
        split at h2 <;> first
          | (simp only [Option.some.injEq] at h2; subst h2; exact .same (fun m => by simp [gop, ho, hc, h1, gbuiltin, ht, hu]) h3)
          | cases h2
      · cases e
    · obtain ⟨v, h2, h3⟩ := obsi.1 e
      exact .same (fun m => by simp [gop, ho, hc, h1, gbuiltin, h2]) h3
    · obtain ⟨v, h2, h3⟩ := obsi.1 e
      exact .same (fun m => by simp [gop, ho, hc, h1, gbuiltin, h2]) h3
    · obtain ⟨v, h2, h3⟩ := obsi.1 e
      obtain ⟨v', h4, h5⟩ := obsi.1 h3
      exact .same (fun m => by simp [gop, ho, hc, h1, gbuiltin, h2, h4]) h5
    · simp only [got_iff] at e
      obtain ⟨t, ht, u, hu, e⟩ := e
      split at e
      · rename_i ik hud
        split at e
        · rename_i el hut
          simp only [got_iff] at e
          obtain ⟨info, hi, z, hz, e⟩ := e
          obtain ⟨⟨v, h'⟩, h2, h3⟩ := obsi.1 e
          obtain ⟨lg, h4⟩ := kapz_g hut hi hz h2
          refine ⟨0, v, h', lg, ?_, h3, by constructor <;> simp [effOf, ho, hc]⟩
          simp only [gop, ho, hc, h1, gbuiltin, ht, hu, hud, Option.bind_eq_bind, Option.bind_some]
          exact h4
        · cases e
      · rename_i d hne hud
        split at e
        · rename_i el hut
          simp only [got_iff] at e
          obtain ⟨info, hi, z, hz, e⟩ := e
          obtain ⟨⟨v, h'⟩, h2, h3⟩ := obsi.1 e
          obtain ⟨lg, h4⟩ := kapp_g hut hi hz h2
          refine ⟨0, v, h', lg, ?_, h3, by constructor <;> simp [effOf, ho, hc]⟩
          simp only [gop, ho, hc, h1, gbuiltin, ht, hu, hud, Option.bind_eq_bind, Option.bind_some]
          cases d <;> first | exact h4 | exact absurd rfl (hne _)
        · cases e
      · cases e
    · simp only [got_iff] at e
      obtain ⟨t, ht, e⟩ := e
      split at e
      · rename_i el hut
        simp only [got_iff] at e
        obtain ⟨es, hi, e⟩ := e
        obtain ⟨⟨v, h'⟩, h2, h3⟩ := obsi.1 e
        obtain ⟨lg, h4⟩ := kcopy_g hut hi h2
        exact ⟨0, v, h', lg, by simp [gop, ho, hc, h1, gbuiltin, ht, h4], h3, by constructor <;> simp [effOf, ho, hc]⟩
      · cases e
    · simp only [got_iff] at e
      obtain ⟨t, ht, e⟩ := e
      split at e
      · rename_i el hut
        simp only [got_iff] at e
        obtain ⟨z, hi, e⟩ := e
        obtain ⟨⟨v, h'⟩, h2, h3⟩ := obsi.1 e
        obtain ⟨lg, h4⟩ := kclear_g hut hi h2
        exact ⟨0, v, h', lg, by simp [gop, ho, hc, h1, gbuiltin, ht, h4], h3, by constructor <;> simp [effOf, ho, hc]⟩
      · cases e
    · cases e
  | value f =>
    have key : ∀ g args, kcallee P C (nω P C) (kω P C) g args h K = some r →
        (∀ m, gop P C (gcall P C m) ev o h = gcallee P C (gcall P C m) g args h) → ((∀ g', f = .func g' → g' = g)) → OpG P C ev o h K r := by
      intro g args e hg hf
      obtain ⟨m, v, h', lg, h1, h2, h3⟩ := kcallee_g e
      refine ⟨m, v, h', lg, (hg m).trans h1, h2, ?_⟩
      cases f with
      | func g' =>
        have := hf g' rfl
        subst this
        cases hh : (C.heapy g' && (C.ext g').isNone) with
        | true => constructor <;> simp [effOf, ho, hc, hh]
        | false =>
          obtain ⟨h4, h5, h6, h7⟩ := h3 hh
          cases hf2 : (C.fresh g' && (C.ext g').isNone) with
          | true => exact ⟨by simp [effOf, ho, hc, hh, hf2], fun _ => h4, by simp [effOf, ho, hc, hh, hf2], fun _ i hi => Nat.lt_of_lt_of_le (h7 i hi) h5⟩
          | false => exact ⟨by simp [effOf, ho, hc, hh, hf2], fun _ => h4, fun _ => h6 hf2, fun _ i hi => Nat.lt_of_lt_of_le (h7 i hi) h5⟩
      | _ => constructor <;> simp [effOf, ho, hc]
    cases f with
    | func g =>
      simp only [hc, got_iff] at e
      obtain ⟨args, h1, e⟩ := e
      have h1 := evs_mapM h1
      refine key g args e (fun m => ?_) (fun g' hg => by cases hg; rfl)
      simp [gop, ho, hc, h1, hev]
    | _ =>
      simp only [hc, got_iff] at e
      obtain ⟨fv, h0, args, h1, e⟩ := e
      have h1 := evs_mapM h1
      split at e
      · rename_i g caps
        refine key g (args ++ caps) e (fun m => ?_) (fun g' hg => by cases hg)
        simp [gop, ho, hc, h0, h1]
      · cases e
end

end Go.Proofs.Ytlbnioapepelnaa.G

namespace Go.Proofs.Ytlbnioapepelnaa.G
open Go.RowKit

section
variable {P : Program} {C : Cfg} {R : Type} {r : R} {h : Heap} {ev : Operand → Option GV} {o : Oper} {K : GV → Heap → Option R}

theorem kop_sound (hev : ∀ g, ev (.func g) = some (.fn g [])) (e : kop P C (nω P C) (kω P C) ev o h K = some r) : OpG P C ev o h K r := by
  cases ho : o.op with
  | call c => exact kop_call hev rfl rfl ho e
  | move x =>
    simp only [kop, ho, got_iff] at e
    obtain ⟨v, h1, h2⟩ := e
    exact .same (fun m => by simp [gop, ho, h1]) h2
  | assign x =>
    simp only [kop, ho, got_iff] at e
    obtain ⟨v, h1, h2⟩ := e
    exact .same (fun m => by simp [gop, ho, h1]) h2
  | pick c a b =>
    simp only [kop, ho, got_iff] at e
    obtain ⟨c, h1, a, h2, b, h3, e⟩ := e
    obtain ⟨v, h4, h5⟩ := obsi.1 e
    unfold kpick at h4
    split at h4
    · simp only [Option.some.injEq] at h4; subst h4
      exact .same (fun m => by simp [gop, ho, h1, h2, h3]) h5
    · cases h4
  | alloc t =>
    simp only [kop, ho, got_iff] at e
    obtain ⟨z, h1, h2⟩ := e
    exact ⟨0, _, _, .nil, by simp only [gop, ho, h1, Option.bind_eq_bind, Option.bind_some], h2, ⟨fun _ => rfl, fun _ => rfl, by simp [effOf, ho], fun _ i hi => by cases hi⟩⟩
  | box t x =>
    simp only [kop, ho, got_iff] at e
    obtain ⟨z, h1, h2⟩ := e
    exact ⟨0, _, _, .nil, by simp only [gop, ho, h1, Option.bind_eq_bind, Option.bind_some], h2, ⟨fun _ => rfl, fun _ => rfl, by simp [effOf, ho], fun _ i hi => by cases hi⟩⟩
  | build t parts =>
    simp only [kop, ho, got_iff] at e
    obtain ⟨z, h1, ps, h2, e⟩ := e
    have h2 : gparts ev parts = some ps := evps_gparts h2
    split at e
    · rename_i fs hu
      simp only [got_iff] at e
      obtain ⟨places, h3, e⟩ := e
      obtain ⟨cs, h4, h5⟩ := obsi.1 e
      have h3 := placesOf_mapM h3
      exact .same (v := .agg cs) (fun m => by simp only [gop, ho, h1, h2, hu, h3, Option.bind_eq_bind, Option.bind_some]; rw [h4]; rfl) h5
    · rename_i n el hu
      simp only [got_iff] at e
      obtain ⟨m, h3, e⟩ := e
      obtain ⟨cs, h4, h5⟩ := obsi.1 e
      exact .same (v := .agg cs) (fun m => by simp only [gop, ho, h1, h2, hu, h3, Option.bind_eq_bind, Option.bind_some]; rw [h4]; rfl) h5
    · cases e
  | buildSlice t len parts =>
    simp only [kop, ho] at e
    split at e
    · rename_i el hu
      simp only [got_iff] at e
      obtain ⟨n, h1, z, h2, ps, h3, e⟩ := e
      have h3 : gparts ev parts = some ps := evps_gparts h3
      cases hc : (Nat.ble (len * n) 16777216 && Nat.beq z.length n) with
      | false => simp only [hc, cond_false] at e; cases e
      | true =>
        simp only [hc, cond_true] at e
        obtain ⟨cs, h4, h5⟩ := obsi.1 e
        simp only [Bool.and_eq_true, Nat.ble_eq, Nat.beq_eq] at hc
        cases len with
        | zero =>
          refine ⟨0, _, _, .nil, ?_, h5, ⟨fun _ => rfl, fun _ => rfl, by simp [effOf, ho], fun _ i hi => by cases hi⟩⟩
          simp only [gop, ho, h1, h2, h3, hu, Option.bind_eq_bind, Option.bind_some]
          rw [if_pos hc]
          rw [h4]
          rfl
        | succ len =>
          refine ⟨0, _, _, .nil, ?_, h5, ⟨fun _ => rfl, fun _ => rfl, by simp [effOf, ho], fun _ i hi => by cases hi⟩⟩
          simp only [gop, ho, h1, h2, h3, hu, Option.bind_eq_bind, Option.bind_some]
          rw [if_pos hc]
          rw [h4]
          rfl
    · cases e
  | load t a =>
    simp only [kop, ho, got_iff] at e
    obtain ⟨x, h1, e⟩ := e
    obtain ⟨v, h2, h3⟩ := obsi.1 e
    obtain ⟨l, h4⟩ := kload_g h2
    exact ⟨0, v, h, ⟨l, []⟩, by simp [gop, ho, h1, h4], h3, ⟨by simp [effOf, ho], fun _ => rfl, fun _ => rfl, fun _ => gload_bd h4⟩⟩
  | store t a x =>
    simp only [kop, ho, got_iff] at e
    obtain ⟨p, h1, v, h2, n, h3, e⟩ := e
    obtain ⟨h', h4, h5⟩ := obsi.1 e
    obtain ⟨i, h6⟩ := kstore_g h3 h4
    refine ⟨0, .un, h', ⟨[], [i]⟩, by simp [gop, ho, h1, h2, h6], h5, ⟨fun _ => rfl, by simp [effOf, ho], fun _ => ?_, fun _ i hi => by cases hi⟩⟩
    unfold kstore at h4
    split at h4
    · split at h4
      · obtain ⟨cs, h7, h8⟩ := obsi.1 h4
        split at h8
        · simp only [Option.some.injEq] at h8; subst h8; simp
        · cases h8
      · cases h4
    · cases h4
  | nilCheck x =>
    simp only [kop, ho, got_iff] at e
    obtain ⟨v, h1, e⟩ := e
    obtain ⟨u, h2, h3⟩ := obsi.1 e
    unfold knil at h2
    split at h2 <;> first
      | (simp only [Option.some.injEq] at h2; subst h2; exact .same (fun m => by simp [gop, ho, h1]) h3)
      | cases h2
  | binOp op t x y ty =>
    simp only [kop, ho, got_iff] at e
    obtain ⟨a, h1, b, h2, e⟩ := e
    obtain ⟨v, h3, h4⟩ := obsi.1 e
    exact .same (fun m => by simp [gop, ho, h1, h2, kbinop_g h3]) h4
  | unOp op t x =>
    simp only [kop, ho, got_iff] at e
    obtain ⟨a, h1, e⟩ := e
    obtain ⟨v, h2, h3⟩ := obsi.1 e
    unfold kun at h2
    split at h2 <;> first
      | (simp only [Option.some.injEq] at h2; subst h2; exact .same (fun m => by simp [gop, ho, h1]) h3)
      | cases h2
  | convert s d x =>
    simp only [kop, ho, got_iff] at e
    obtain ⟨a, h1, e⟩ := e
    split at e
    · rename_i k hs hd
      obtain ⟨v, h2, h3⟩ := obsi.1 e
      unfold kconvI at h2
      split at h2
      · simp only [Option.some.injEq] at h2; subst h2
        exact .same (fun m => by simp [gop, ho, h1, gconvert, hs, hd]) h3
      · cases h2
    · rename_i hs hd
      obtain ⟨v, h2, h3⟩ := obsi.1 e
      rw [kstr_iff] at h2
      subst h2
      exact .same (fun m => by simp [gop, ho, h1, gconvert, hs, hd]) h3
    · rename_i el hs hd
      split at e
      · rename_i he
        obtain ⟨v, h2, h3⟩ := obsi.1 e
        rw [kstr_iff] at h2
        subst h2
        exact ⟨0, _, _, .nil, by simp only [gop, ho, h1, gconvert, hs, hd, he, Option.bind_eq_bind, Option.bind_some]; rfl, h3, ⟨fun _ => rfl, fun _ => rfl, by simp [effOf, ho], fun _ i hi => by cases hi⟩⟩
      · cases e
    · rename_i el hs hd
      split at e
      · rename_i he
        obtain ⟨v, h2, h3⟩ := obsi.1 e
        have : ∃ l, gconvert P s d a h = some (v, h, ⟨l, []⟩) ∧ ∀ i ∈ l, i < h.length := by
          unfold kbstr at h2
          split at h2
          · cases h2
          · cases h2
          · rename_i hn1 hn2
            obtain ⟨⟨n, cs, l⟩, h4, h5⟩ := obsi.1 h2
            obtain ⟨ns, h6, h7⟩ := obsi.1 h5
            split at h7
            · rename_i hl
              simp only [Option.some.injEq] at h7
              subst h7
              refine ⟨l, ?_, gcells_bd h4⟩
              cases a <;> first
                | exact absurd rfl (hn1 _)
                | exact absurd rfl (hn2 _ _)
                | (simp only [gconvert, hs, hd, he, h4, h6, Option.bind_eq_bind, Option.bind_some]; rw [if_pos hl])
            · cases h7
        obtain ⟨l, h4, h5⟩ := this
        exact ⟨0, v, h, ⟨l, []⟩, by simp [gop, ho, h1, h4], h3, ⟨by simp [effOf, ho], fun _ => rfl, fun _ => rfl, fun _ => h5⟩⟩
      · cases e
    · cases e
  | makeInterface t x =>
    simp only [kop, ho, got_iff] at e
    obtain ⟨a, h1, e⟩ := e
    split at e
    · cases e
    · rename_i d hne hu
      refine .same (v := .ifc) (fun m => ?_) e
      simp only [gop, ho, h1, hu, Option.bind_eq_bind, Option.bind_some]
    all_goals cases e
  | makeFunc f first caps =>
    cases f with
    | func f =>
      simp only [kop, ho, got_iff] at e
      obtain ⟨cs, h1, e⟩ := e
      have h1 := evs_mapM h1
      cases hc : Nat.beq first.size 0 with
      | false => simp only [hc, cond_false] at e; cases e
      | true =>
        simp only [hc, cond_true] at e
        have hc' : first.size = 0 := Nat.eq_of_beq_eq_true hc
        exact .same (v := .fn f cs) (fun m => by simp [gop, ho, h1, hc']) e
    | _ => simp only [kop, ho] at e; cases e
  | makeSlice t l c =>
    simp only [kop, ho] at e
    split at e
    · rename_i el hu
      simp only [got_iff] at e
      obtain ⟨info, h1, z, h2, gl, h3, gc, h4, e⟩ := e
      obtain ⟨⟨v, h'⟩, h5, h6⟩ := obsi.1 e
      unfold kmake at h5
      obtain ⟨len, h7, h51⟩ := obsi.1 h5
      obtain ⟨cap, h8, h52⟩ := obsi.1 h51
      obtain ⟨k1, hl1⟩ := kint_iff.1 h7
      obtain ⟨k2, hl2⟩ := kint_iff.1 h8
      rw [hl1] at h3
      rw [hl2] at h4
      clear h5 h51
      split at h52
      · rename_i hc
        simp only [Option.some.injEq, Prod.mk.injEq] at h52
        obtain ⟨rfl, rfl⟩ := h52
        refine ⟨0, _, _, .nil, ?_, h6, ⟨fun _ => rfl, fun _ => rfl, by simp [effOf, ho], fun _ i hi => by cases hi⟩⟩
        simp only [gop, ho, h1, h2, h3, h4, hu, Option.bind_eq_bind, Option.bind_some]
        rw [if_pos hc]
      · cases h52
    · cases e
  | slice t x lo hi mx =>
    simp only [kop, ho, got_iff] at e
    obtain ⟨a, h1, l, h2, u, h3, m, h4, e⟩ := e
    have h2 := evm_gmay h2
    have h3 := evm_gmay h3
    have h4 := evm_gmay h4
    split at e
    · rename_i hu
      obtain ⟨v, h5, h6⟩ := obsi.1 e
      unfold kslS at h5
      obtain ⟨s, h7, h8⟩ := obsi.1 h5
      rw [kstr_iff] at h7
      subst h7
      exact .same (fun m => by simp [gop, ho, h1, h2, h3, h4, hu, kslice_g (P := P) (t := t) h8]) h6
    · rename_i el hu
      simp only [got_iff] at e
      obtain ⟨es, h5, e⟩ := e
      obtain ⟨v, h6, h7⟩ := obsi.1 e
      refine .same (v := v) (fun m => ?_) h7
      unfold ksl at h6
      split at h6
      · split at h6
        · rename_i hes; subst hes
          simp [gop, ho, h1, h2, h3, h4, hu, h5, kslice_g (P := P) (t := t) h6]
        · cases h6
      · split at h6
        · rename_i tg n es' cells hes
          have hes' : gsize P el = some es' ∨ (n = 0 ∧ (gsize P el).isSome = true) := by
            rcases hes with rfl | hes
            · exact .inl h5
            · exact .inr ⟨hes, by rw [h5]; rfl⟩
          simp only [gop, ho, h1, h2, h3, h4, hu, Option.bind_eq_bind, Option.bind_some]
          rw [if_pos hes', kslice_g (P := P) (t := t) h6]
          rfl
        · cases h6
      · simp [gop, ho, h1, h2, h3, h4, hu, h5, kslice_g (P := P) (t := t) h6]
      · simp [gop, ho, h1, h2, h3, h4, hu, h5, kslice_g (P := P) (t := t) h6]
      · cases h6
    · cases e
  | fieldAddr s x f =>
    simp only [kop, ho] at e
    split at e
    · rename_i fs hu
      simp only [got_iff] at e
      obtain ⟨fd, h1, n, h2, e⟩ := e
      cases hn : Nat.beq n 0 with
      | true => simp only [hn, cond_true] at e; cases e
      | false =>
        simp only [hn, cond_false, got_iff] at e
        obtain ⟨a, h3, e⟩ := e
        obtain ⟨v, h4, h5⟩ := obsi.1 e
        have hn' : n ≠ 0 := Nat.ne_of_beq_eq_false hn
        unfold kfa at h4
        split at h4 <;> first
          | (simp only [Option.some.injEq] at h4; subst h4; exact .same (fun m => by simp [gop, ho, hu, h1, h2, h3, hn']) h5)
          | cases h4
    · cases e
  | field t x f =>
    simp only [kop, ho] at e
    split at e
    · rename_i fs hu
      simp only [got_iff] at e
      obtain ⟨fd, h1, a, h2, e⟩ := e
      obtain ⟨cs, h3, e⟩ := obsi.1 e
      obtain ⟨v, h4, h5⟩ := obsi.1 e
      rw [kcs_iff] at h3
      subst h3
      exact .same (fun m => by simp [gop, ho, hu, h1, h2, kpart_g h4]) h5
    · cases e
  | indexAddr t x y =>
    simp only [kop, ho, got_iff] at e
    obtain ⟨a, h1, gi, h2, e⟩ := e
    split at e
    · rename_i el hu
      simp only [got_iff] at e
      obtain ⟨es, h3, e⟩ := e
      obtain ⟨v, h4, h5⟩ := obsi.1 e
      unfold kia at h4
      obtain ⟨i, h6, h7⟩ := obsi.1 h4
      obtain ⟨k, rfl⟩ := kint_iff.1 h6
      refine .same (v := v) (fun m => ?_) h5
      split at h7
      · split at h7
        · rename_i hc
          obtain ⟨rfl, hc⟩ := hc
          simp only [gop, ho, h1, h2, hu, Option.bind_eq_bind, Option.bind_some]
          rw [if_pos ⟨h3, hc⟩]
          simpa using h7
        · cases h7
      · split at h7
        · rename_i hc
          obtain ⟨rfl, hc⟩ := hc
          simp only [gop, ho, h1, h2, hu, Option.bind_eq_bind, Option.bind_some]
          rw [if_pos ⟨h3, hc⟩]
          simpa using h7
        · cases h7
      · cases h7
    · cases e
  | index t x y =>
    simp only [kop, ho, got_iff] at e
    obtain ⟨a, h1, gi, h2, e⟩ := e
    split at e
    · rename_i hu
      obtain ⟨v, h4, h5⟩ := obsi.1 e
      unfold kbyte at h4
      obtain ⟨s, h6, h41⟩ := obsi.1 h4
      obtain ⟨i, h7, h42⟩ := obsi.1 h41
      rw [kstr_iff] at h6
      rw [h6] at h1
      obtain ⟨k, hk⟩ := kint_iff.1 h7
      rw [hk] at h2
      clear h4 h41
      split at h42
      · rename_i hi
        split at h42
        · rename_i h0
          simp only [Option.some.injEq] at h42
          subst h42
          refine .same (fun m => ?_) h5
          simp only [gop, ho, h1, h2, hu, Option.bind_eq_bind, Option.bind_some]
          rw [dif_pos hi, if_pos h0]
        · cases h42
      · cases h42
    · rename_i len el hu
      simp only [got_iff] at e
      obtain ⟨n, h3, e⟩ := e
      obtain ⟨cs, h4, e1⟩ := obsi.1 e
      obtain ⟨i, h5, e2⟩ := obsi.1 e1
      rw [kcs_iff] at h4
      rw [h4] at h1
      obtain ⟨k, hk⟩ := kint_iff.1 h5
      rw [hk] at h2
      clear e e1
      split at e2
      · rename_i hc
        obtain ⟨v, h6, h7⟩ := obsi.1 e2
        refine .same (v := v) (fun m => ?_) h7
        simp only [gop, ho, h1, h2, hu, h3, Option.bind_eq_bind, Option.bind_some]
        rw [if_pos hc, kpart_g h6]
        rfl
      · cases e2
    · cases e
  | extract t i =>
    simp only [kop, ho, got_iff] at e
    obtain ⟨a, h1, e⟩ := e
    obtain ⟨v, h2, h3⟩ := obsi.1 e
    unfold kxt at h2
    split at h2
    · exact .same (fun m => by simp [gop, ho, h1, h2]) h3
    · cases h2
  | _ => simp only [kop, ho] at e; cases e

def LogIn (a b : Lg) : Prop := (∀ i ∈ a.r, i ∈ b.r) ∧ (∀ i ∈ a.w, i ∈ b.w)
theorem LogIn.nil {b : Lg} : LogIn .nil b := ⟨fun i hi => (by cases hi), fun i hi => (by cases hi)⟩

theorem gread_blk {a : GV} {n : Nat} {cs : List GV} {l : List Nat} (e : gread h a n = some (cs, l)) : ∀ i ∈ l, i ∈ kblk a := by
  unfold gread at e
  split at e
  · simp only [Option.bind_eq_bind, obsi] at e
    obtain ⟨cs0, h1, e⟩ := e
    split at e
    · simp only [Option.some.injEq, Prod.mk.injEq] at e; obtain ⟨_, rfl⟩ := e; simp [kblk]
    · cases e
  · split at e
    · simp only [Option.some.injEq, Prod.mk.injEq] at e; obtain ⟨_, rfl⟩ := e; simp
    · cases e
  · cases e
theorem gload_blk {t : TypeId} {a v : GV} {l : List Nat} (e : gload P h t a = some (v, l)) : ∀ i ∈ l, i ∈ kblk a := by
  unfold gload at e
  simp only [Option.bind_eq_bind, obsi] at e
  obtain ⟨b, h1, e⟩ := e
  cases b with
  | true =>
    simp only [if_true, obsi, Option.some.injEq, Prod.mk.injEq] at e
    obtain ⟨n, h2, ⟨cs, r⟩, h3, _, rfl⟩ := e
    exact gread_blk h3
  | false =>
    simp only [Bool.false_eq_true, if_false, obsi] at e
    obtain ⟨⟨cs, r⟩, h3, e⟩ := e
    split at e
    · simp only [Option.some.injEq, Prod.mk.injEq] at e; obtain ⟨_, rfl⟩ := e; exact gread_blk h3
    · cases e
theorem gcells_blk {es n : Nat} {v : GV} {cs : List GV} {l : List Nat} (e : gcells h es v = some (n, cs, l)) : ∀ i ∈ l, i ∈ kblk v := by
  unfold gcells at e
  split at e
  · simp only [Option.bind_eq_bind, obsi] at e
    obtain ⟨cs0, h1, e⟩ := e
    split at e
    · simp only [Option.some.injEq, Prod.mk.injEq] at e; obtain ⟨_, _, rfl⟩ := e; simp [kblk]
    · cases e
  · split at e
    · simp only [Option.some.injEq, Prod.mk.injEq] at e; obtain ⟨_, _, rfl⟩ := e; simp
    · split at e
      · simp only [Option.some.injEq, Prod.mk.injEq] at e; obtain ⟨_, _, rfl⟩ := e; simp
      · cases e
  · simp only [Option.some.injEq, Prod.mk.injEq] at e; obtain ⟨_, _, rfl⟩ := e; simp
  · simp only [Option.some.injEq, Prod.mk.injEq] at e; obtain ⟨_, _, rfl⟩ := e; simp
  · split at e
    · simp only [Option.some.injEq, Prod.mk.injEq] at e; obtain ⟨_, _, rfl⟩ := e; simp
    · cases e
  · cases e
theorem gappz_blk {t : TypeId} {s x v : GV} {h' : Heap} {lg : Lg} (e : gappz P h t s x = some (v, h', lg)) : LogIn lg ⟨kblk s ++ kblk x, kblk s⟩ := by
  unfold gappz at e
  simp only [Option.bind_eq_bind, obsi] at e
  obtain ⟨dd, hu, e⟩ := e
  split at e
  · simp only [obsi] at e
    obtain ⟨info, hi, z, hz, e⟩ := e
    split at e
    · split at e
      · split at e <;> (simp only [Option.some.injEq, Prod.mk.injEq] at e; obtain ⟨rfl, rfl, rfl⟩ := e; exact ⟨fun i hi => (by cases hi), fun i hi => (by cases hi)⟩)
      · cases e
    · cases e
  · cases e

theorem gappend_blk {t : TypeId} {s x v : GV} {h' : Heap} {lg : Lg} (e : gappend P h t s x = some (v, h', lg)) : LogIn lg ⟨kblk s ++ kblk x, kblk s⟩ := by
  unfold gappend at e
  simp only [Option.bind_eq_bind, obsi] at e
  obtain ⟨dd, hu, e⟩ := e
  split at e
  · simp only [obsi] at e
    obtain ⟨info, hi, ⟨n, new, r⟩, hc, z, hz, e⟩ := e
    have hb := gcells_blk hc
    have base : ∀ (a : List Nat), LogIn ⟨r, []⟩ ⟨a ++ kblk x, a⟩ := fun a => ⟨fun i hi => List.mem_append.2 (.inr (hb i hi)), fun i hi => by cases hi⟩
    split at e
    · split at e
      · split at e <;> (simp only [Option.some.injEq, Prod.mk.injEq] at e; obtain ⟨_, _, rfl⟩ := e; exact base _)
      · split at e <;> (simp only [Option.some.injEq, Prod.mk.injEq] at e; obtain ⟨_, _, rfl⟩ := e; exact base _)
      · simp only [obsi] at e
        obtain ⟨cs, hcs, e⟩ := e
        have fin : ∀ i, LogIn ⟨i :: r, [i]⟩ ⟨[i] ++ kblk x, [i]⟩ := fun i => ⟨fun k hk => by
            simp only [List.mem_cons] at hk
            rcases hk with rfl | hk
            · simp
            · exact List.mem_append.2 (.inr (hb k hk)), fun k hk => hk⟩
        split at e
        · split at e
          · simp only [Option.some.injEq, Prod.mk.injEq] at e; obtain ⟨_, _, rfl⟩ := e; exact fin _
          · split at e
            · simp only [Option.some.injEq, Prod.mk.injEq] at e; obtain ⟨_, _, rfl⟩ := e; exact fin _
            · cases e
        · cases e
      · cases e
    · cases e
  · cases e
theorem gclear_blk {t : TypeId} {d v : GV} {h' : Heap} {lg : Lg} (e : gclear P h t d = some (v, h', lg)) : LogIn lg ⟨[], kblk d⟩ := by
  unfold gclear at e
  simp only [Option.bind_eq_bind, obsi] at e
  obtain ⟨dd, hu, e⟩ := e
  split at e
  · simp only [obsi] at e
    obtain ⟨z, hi, e⟩ := e
    split at e
    · simp only [Option.some.injEq, Prod.mk.injEq] at e; obtain ⟨_, _, rfl⟩ := e; exact ⟨fun i hi => (by cases hi), fun i hi => by cases hi⟩
    · simp only [Option.some.injEq, Prod.mk.injEq] at e; obtain ⟨_, _, rfl⟩ := e; exact ⟨fun i hi => (by cases hi), fun i hi => by cases hi⟩
    · simp only [obsi] at e
      obtain ⟨cs, hcs, e⟩ := e
      split at e
      · simp only [Option.some.injEq, Prod.mk.injEq] at e; obtain ⟨_, _, rfl⟩ := e; exact ⟨fun i hi => (by cases hi), fun i hi => hi⟩
      · cases e
    · cases e
  · cases e
theorem gcopy_blk {t : TypeId} {d x v : GV} {h' : Heap} {lg : Lg} (e : gcopy P h t d x = some (v, h', lg)) : LogIn lg ⟨kblk x, kblk d⟩ := by
  unfold gcopy at e
  simp only [Option.bind_eq_bind, obsi] at e
  obtain ⟨dd, hu, e⟩ := e
  split at e
  · simp only [obsi] at e
    obtain ⟨es, hi, ⟨n, new, r⟩, hc, e⟩ := e
    have hb := gcells_blk hc
    split at e
    · split at e
      · simp only [Option.some.injEq, Prod.mk.injEq] at e; obtain ⟨_, _, rfl⟩ := e; exact ⟨hb, fun i hi => by cases hi⟩
      · simp only [Option.some.injEq, Prod.mk.injEq] at e; obtain ⟨_, _, rfl⟩ := e; exact ⟨hb, fun i hi => by cases hi⟩
      · simp only [obsi] at e
        obtain ⟨cs, hcs, e⟩ := e
        split at e
        · simp only [Option.some.injEq, Prod.mk.injEq] at e; obtain ⟨_, _, rfl⟩ := e; exact ⟨hb, fun i hi => hi⟩
        · cases e
      · cases e
    · cases e
  · cases e
theorem mapM_ebor {ev : Operand → Option GV} : ∀ {l : List Operand} {gs : List GV} {ys : List (GV × List Nat)}, l.mapM ev = some gs → gs.mapM (bor 9 h) = some ys → ∀ i ∈ (ys.map (·.2)).flatten, i ∈ l.flatMap (ebor ev h)
  | [], gs, ys, e1, e2 => by simp at e1; subst e1; simp at e2; subst e2; simp
  | x :: l, gs, ys, e1, e2 => by
    simp only [List.mapM_cons, Option.bind_eq_bind, obsi, Option.pure_def, Option.some.injEq] at e1
    obtain ⟨g, h1, gs', h2, rfl⟩ := e1
    simp only [List.mapM_cons, Option.bind_eq_bind, obsi, Option.pure_def, Option.some.injEq] at e2
    obtain ⟨y, h3, ys', h4, rfl⟩ := e2
    intro i hi
    simp only [List.map_cons, List.flatten_cons, List.mem_append] at hi
    simp only [List.flatMap_cons, List.mem_append]
    rcases hi with hi | hi
    · exact .inl (by simp only [ebor, h1, h3]; exact hi)
    · exact .inr (mapM_ebor h2 h4 i hi)

theorem gop_klog0 {call : GCall} (hev : ∀ g, ev (.func g) = some (.fn g [])) {v : GV} {h' : Heap} {lg : Lg} (e : gop P C call ev o h = some (v, h', lg)) (hl : logOk0 C o.op = true) (ef : EffOk (effOf C o.op) h lg h') : LogIn lg (klog0 ev h o.op) := by
  cases ho : o.op with
  | load t a =>
    simp only [gop, ho, Option.bind_eq_bind, obsi, Option.some.injEq, Prod.mk.injEq] at e
    obtain ⟨x, h1, ⟨v', r⟩, h2, _, _, rfl⟩ := e
    exact ⟨by simp only [klog0, eblk, h1]; exact gload_blk h2, fun i hi => by cases hi⟩
  | store t a x =>
    simp only [gop, ho, Option.bind_eq_bind, obsi, Option.some.injEq, Prod.mk.injEq] at e
    obtain ⟨p, h1, v', h2, ⟨h3, i⟩, h4, _, _, rfl⟩ := e
    refine ⟨fun i hi => (by cases hi), ?_⟩
    simp only [klog0, eblk, h1]
    unfold gstore at h4
    simp only [Option.bind_eq_bind, obsi] at h4
    obtain ⟨n, hn, h4⟩ := h4
    split at h4
    · split at h4
      · simp only [obsi] at h4
        obtain ⟨cs, hcs, h4⟩ := h4
        split at h4
        · simp only [Option.some.injEq, Prod.mk.injEq] at h4
          obtain ⟨_, rfl⟩ := h4
          simp [kblk]
        · cases h4
      · cases h4
    · cases h4
  | convert s d x =>
    simp only [gop, ho, Option.bind_eq_bind, obsi] at e
    obtain ⟨a, h1, e⟩ := e
    simp only [klog0, eblk, h1]
    unfold gconvert at e
    split at e
    · simp only [Option.some.injEq, Prod.mk.injEq] at e; obtain ⟨_, _, rfl⟩ := e; exact .nil
    · simp only [Option.some.injEq, Prod.mk.injEq] at e; obtain ⟨_, _, rfl⟩ := e; exact .nil
    · split at e
      · simp only [Option.some.injEq, Prod.mk.injEq] at e; obtain ⟨_, _, rfl⟩ := e; exact .nil
      · cases e
    · split at e
      · split at e
        · cases e
        · cases e
        · simp only [Option.bind_eq_bind, obsi] at e
          obtain ⟨⟨n, cs, r⟩, hc, ns, hns, e⟩ := e
          split at e
          · simp only [Option.some.injEq, Prod.mk.injEq] at e; obtain ⟨_, _, rfl⟩ := e
            exact ⟨gcells_blk hc, fun i hi => by cases hi⟩
          · cases e
      · cases e
    · cases e
  | call c =>
    rw [ho] at hl
    cases hc : c.callee with
    | invoke a b => simp [logOk0, hc] at hl
    | value f =>
      cases f with
      | func g =>
        simp only [logOk0, hc, Bool.not_eq_true'] at hl
        simp only [gop, ho, hc, hev, Option.bind_eq_bind, Option.bind_some, obsi] at e
        obtain ⟨args, h1, e⟩ := e
        rw [List.append_nil] at e
        unfold gcallee at e
        split at e
        · cases e
        · split at e
          · split at e
            · simp only [Option.bind_eq_bind, obsi, Option.some.injEq, Prod.mk.injEq] at e
              obtain ⟨xs, h2, v', h3, _, _, rfl⟩ := e
              exact ⟨by simp only [klog0, hc]; exact mapM_ebor h1 h2, fun i hi => by cases hi⟩
            · rename_i hx
              have hne : C.heapy g = false := by simpa [hx] using hl
              rw [if_neg (by simp [hne])] at e
              split at e
              · simp only [Option.bind_eq_bind, obsi] at e
                obtain ⟨xs, h2, e⟩ := e
                split at e
                · split at e
                  · simp only [Option.some.injEq, Prod.mk.injEq] at e
                    obtain ⟨_, _, rfl⟩ := e
                    exact ⟨by simp only [klog0, hc]; exact mapM_ebor h1 h2, fun i hi => by cases hi⟩
                  · cases e
                simp only [obsi] at e
                obtain ⟨⟨v1, h1', l1⟩, h3, ⟨v2, vis, bl⟩, h4, e⟩ := e
                split at e
                · simp only [Option.some.injEq, Prod.mk.injEq] at e
                  obtain ⟨_, _, rfl⟩ := e
                  exact ⟨by simp only [klog0, hc]; exact mapM_ebor h1 h2, fun i hi => by cases hi⟩
                · cases e
              simp only [Option.bind_eq_bind, obsi, Option.some.injEq, Prod.mk.injEq] at e
              obtain ⟨xs, h2, ⟨v1, h1', l1⟩, h3, ⟨v2, r2⟩, h4, _, _, rfl⟩ := e
              exact ⟨by simp only [klog0, hc]; exact mapM_ebor h1 h2, fun i hi => by cases hi⟩
          · cases e
      | _ => simp [logOk0, hc] at hl
    | builtin b =>
      simp only [gop, ho, hc, Option.bind_eq_bind, obsi] at e
      obtain ⟨args, h1, e⟩ := e
      have two : ∀ a b, args = [a, b] → ∃ x y, c.args.toList = [x, y] ∧ ev x = some a ∧ ev y = some b := by
        intro a b hab
        subst hab
        have hlen := mapM_len h1
        match hl2 : c.args.toList, hlen, h1 with
        | [x, y], _, h1 =>
          simp only [List.mapM_cons, List.mapM_nil, Option.bind_eq_bind, obsi, Option.pure_def, Option.some.injEq] at h1
          obtain ⟨a', ha, l, ⟨b', hb, l2, rfl, rfl⟩, h3⟩ := h1
          simp only [List.cons.injEq] at h3
          obtain ⟨rfl, rfl, _⟩ := h3
          exact ⟨x, y, rfl, ha, hb⟩
      unfold gbuiltin at e
      split at e
      · simp only [Option.bind_eq_bind, obsi] at e
        obtain ⟨t, ht, e⟩ := e
        split at e
        · simp only [Option.some.injEq, Prod.mk.injEq] at e; obtain ⟨_, _, rfl⟩ := e; exact .nil
        · split at e
          · cases e
          · simp only [obsi, Option.some.injEq, Prod.mk.injEq] at e; obtain ⟨_, _, _, _, rfl⟩ := e; exact .nil
        · simp only [Option.some.injEq, Prod.mk.injEq] at e; obtain ⟨_, _, rfl⟩ := e; exact .nil
        · cases e
      · simp only [Option.bind_eq_bind, obsi] at e
        obtain ⟨t, ht, e⟩ := e
        split at e
        · simp only [Option.some.injEq, Prod.mk.injEq] at e; obtain ⟨_, _, rfl⟩ := e; exact .nil
        · simp only [Option.some.injEq, Prod.mk.injEq] at e; obtain ⟨_, _, rfl⟩ := e; exact .nil
        · cases e
      · simp only [Option.bind_eq_bind, obsi, Option.some.injEq, Prod.mk.injEq] at e; obtain ⟨_, _, _, _, rfl⟩ := e; exact .nil
      · simp only [Option.bind_eq_bind, obsi, Option.some.injEq, Prod.mk.injEq] at e; obtain ⟨_, _, _, _, rfl⟩ := e; exact .nil
      · rename_i s x
        simp only [Option.bind_eq_bind, obsi] at e
        obtain ⟨t, ht, t', ht', e⟩ := e
        obtain ⟨y1, y2, q1, q2, q3⟩ := two s x rfl
        simp only [klog0, hc, q1, eblk, q2, q3]
        split at e
        · exact gappz_blk e
        · exact gappend_blk e
        · cases e
      · rename_i s x
        simp only [Option.bind_eq_bind, obsi] at e
        obtain ⟨t, ht, e⟩ := e
        obtain ⟨y1, y2, q1, q2, q3⟩ := two s x rfl
        simp only [klog0, hc, q1, eblk, q2, q3]
        exact gcopy_blk e
      · rename_i s
        simp only [Option.bind_eq_bind, obsi] at e
        obtain ⟨t, ht, e⟩ := e
        obtain ⟨y1, q1, q2⟩ : ∃ y, c.args.toList = [y] ∧ ev y = some s := by
          have hlen := mapM_len h1
          match hl2 : c.args.toList, hlen, h1 with
          | [x], _, h1 =>
            simp only [List.mapM_cons, List.mapM_nil, Option.bind_eq_bind, obsi, Option.pure_def, Option.some.injEq] at h1
            obtain ⟨a', ha, l, rfl, h3⟩ := h1
            simp only [List.cons.injEq] at h3
            obtain ⟨rfl, _⟩ := h3
            exact ⟨x, rfl, ha⟩
        simp only [klog0, hc, q1, eblk, q2]
        exact gclear_blk e
      · cases e
  | _ =>
    have h1 := ef.r (by simp only [ho, effOf])
    have h2 := ef.w (by simp only [ho, effOf])
    exact ⟨fun i hi => (by rw [h1] at hi; cases hi), fun i hi => (by rw [h2] at hi; cases hi)⟩

/-! A call of a function that runs in its caller's heap. -/
mutual
theorem nbi_bk {S : Nat → Prop} : ∀ (g : GV), nbi g = true → Bki g S
  | .ptr _ _ _, h => by simp [nbi] at h
  | .sl _ _ _ _ _, h => by simp [nbi] at h
  | .fp _ cs, h => nbs_bk cs h
  | .fz _ _ _ cs, h => nbs_bk cs h
  | .fn _ cs, h => nbs_bk cs h
  | .agg cs, h => nbs_bk cs h
  | .tup cs, h => nbs_bk cs h
  | .int _ _, h => trivial
  | .bool _, h => trivial
  | .str _, h => trivial
  | .nilp, h => trivial
  | .nils, h => trivial
  | .emp, h => trivial
  | .nili, h => trivial
  | .ifc, h => trivial
  | .un, h => trivial
  | .dk _, h => trivial
theorem nbs_bk {S : Nat → Prop} : ∀ (l : List GV), nbs l = true → Bksi l S
  | [], h => trivial
  | g :: gs, h => by
    have h' : nbi g = true ∧ nbs gs = true := by simpa [nbs] using h
    exact ⟨nbi_bk g h'.1, nbs_bk gs h'.2⟩
end
def LogIn2 (n0 n1 : Nat) (a b : Lg) : Prop := (∀ i ∈ a.r, i ∈ b.r ∨ (n0 ≤ i ∧ i < n1)) ∧ (∀ i ∈ a.w, i ∈ b.w ∨ (n0 ≤ i ∧ i < n1))
theorem LogIn.two {n0 n1 : Nat} {a b : Lg} (h : LogIn a b) : LogIn2 n0 n1 a b := ⟨fun i hi => .inl (h.1 i hi), fun i hi => .inl (h.2 i hi)⟩
theorem mapM_getD {ev : Operand → Option GV} : ∀ {l : List Operand} {gs : List GV}, l.mapM ev = some gs → (l.map fun x => (ev x).getD .un) = gs
  | [], gs, e => by cases e; rfl
  | x :: l, gs, e => by
    simp only [List.mapM_cons, Option.bind_eq_bind, obsi, Option.pure_def, Option.some.injEq] at e
    obtain ⟨g, h1, gs', h2, rfl⟩ := e
    rw [List.map_cons, h1, mapM_getD h2]; rfl
theorem kcll_ok {f : GV → Option (List Nat)} {S : Nat → Prop} (hf : ∀ g r, f g = some r → (∀ i ∈ r, S i) → Bk S g ∧ ∀ i ∈ r, ∀ cs, h[i]? = some cs → Bks S cs) : ∀ (l : List GV) (r : List Nat), kcll f l = some r → (∀ i ∈ r, S i) → Bks S l ∧ ∀ i ∈ r, ∀ cs, h[i]? = some cs → Bks S cs
  | [], r, e, _ => by
    cases e
    exact ⟨trivial, fun i hi => by cases hi⟩
  | g :: gs, r, e, hs => by
    unfold kcll at e
    obtain ⟨a, h1, e⟩ := obsi.1 e
    obtain ⟨b, h2, e⟩ := obsi.1 e
    cases e
    obtain ⟨q1, q2⟩ := hf g a h1 fun i hi => hs i (List.mem_append_left _ hi)
    obtain ⟨q3, q4⟩ := kcll_ok hf gs b h2 fun i hi => hs i (List.mem_append_right _ hi)
    refine ⟨⟨q1, q3⟩, fun i hi => ?_⟩
    rcases List.mem_append.1 hi with hi | hi
    · exact q2 i hi
    · exact q4 i hi
theorem kcl_ok {S : Nat → Prop} : ∀ (d : Nat) (g : GV) (r : List Nat), kcl d h g = some r → (∀ i ∈ r, S i) → Bk S g ∧ ∀ i ∈ r, ∀ cs, h[i]? = some cs → Bks S cs := by
  have base : ∀ (g : GV) (r : List Nat), (bif nbi g then some [] else none : Option (List Nat)) = some r → Bk S g ∧ ∀ i ∈ r, ∀ cs, h[i]? = some cs → Bks S cs := fun g r e => by
    cases hb : nbi g with
    | false => rw [hb] at e; cases e
    | true =>
      rw [hb] at e
      cases e
      exact ⟨nbi_bk g hb, fun i hi => by cases hi⟩
  intro d
  induction d with
  | zero => intro g r e _; exact base g r e
  | succ d ih =>
    intro g r e hs
    have blk : ∀ (i : Nat), (match h[i]? with | some cs => (kcll (kcl d h) cs).bind fun r => some (i :: r) | none => some [i]) = some r → S i ∧ ∀ i ∈ r, ∀ cs, h[i]? = some cs → Bks S cs := fun i e => by
      split at e
      · rename_i cs hh
        obtain ⟨q, h1, e⟩ := obsi.1 e
        cases e
        obtain ⟨a1, a2⟩ := kcll_ok (fun g r e hs => ih g r e hs) cs q h1 fun j hj => hs j (List.mem_cons_of_mem _ hj)
        refine ⟨hs i (List.mem_cons_self ..), fun j hj ds hd => ?_⟩
        rcases List.mem_cons.1 hj with rfl | hj
        · rw [hh] at hd; cases hd; exact a1
        · exact a2 j hj ds hd
      · rename_i hh
        cases e
        refine ⟨hs i (List.mem_cons_self ..), fun j hj ds hd => ?_⟩
        rw [List.mem_singleton] at hj
        subst hj
        rw [hh] at hd; cases hd
    cases g <;> first
      | exact base _ r e
      | exact blk _ e
      | exact kcll_ok (fun g r e hs => ih g r e hs) _ r e hs
theorem kreach_ok {args : List GV} {call : GCall} {g : FuncId} {v : GV} {h' : Heap} {lg : Lg} (hX : XReach C) (hC : CReach call) (hk : kflat h args = true) (e : gcallee P C call g args h = some (v, h', lg)) : LogIn2 h.length h'.length lg ⟨kreach h args, kreach h args⟩ := by
  unfold kflat at hk
  obtain ⟨rs, hr⟩ := Option.isSome_iff_exists.1 hk
  have hr' : kreach h args = rs := by unfold kreach; rw [hr]; rfl
  rw [hr']
  have q : ∀ i, (i ∈ rs ∨ h.length ≤ i) ∧ i < h'.length → i ∈ rs ∨ (h.length ≤ i ∧ i < h'.length) := fun i hi => by
    rcases hi.1 with h1 | h1
    · exact .inl h1
    · exact .inr ⟨h1, hi.2⟩
  obtain ⟨a1, a2⟩ := kcll_ok (h := h) (S := fun i => i ∈ rs ∨ h.length ≤ i) (fun g r e hs => kcl_ok 9 g r e hs) args rs hr fun i hi => .inl hi
  have r := bk_callee (S := fun i => i ∈ rs ∨ h.length ≤ i) hX hC (fun i hi => .inr hi) a1 (fun i cs hi hh => by
      rcases hi with h1 | h1
      · exact a2 i h1 cs hh
      · rw [List.getElem?_eq_none h1] at hh; cases hh) e
  exact ⟨fun i hi => q i (r.r i hi), fun i hi => q i (r.w i hi)⟩
theorem gop_klog {call : GCall} (hX : XReach C) (hC : CReach call) (hev : ∀ g, ev (.func g) = some (.fn g [])) {v : GV} {h' : Heap} {lg : Lg} (e : gop P C call ev o h = some (v, h', lg)) (hl : logOk C o.op = true) (hf : kfine C ev h o.op = true) (ef : EffOk (effOf C o.op) h lg h') : LogIn2 h.length h'.length lg (klog C ev h o.op) := by
  cases hh : hcall C o.op with
  | none =>
    have h1 : klog C ev h o.op = klog0 ev h o.op := by unfold klog; rw [hh]
    rw [h1]
    unfold logOk at hl
    rw [hh] at hl
    exact (gop_klog0 hev e (by simpa using hl) ef).two
  | some l =>
    have h1 : klog C ev h o.op = ⟨kreach h (l.map fun x => (ev x).getD .un), kreach h (l.map fun x => (ev x).getD .un)⟩ := by unfold klog; rw [hh]
    rw [h1]
    have hh' := hh
    cases ho : o.op with
    | call c =>
      rw [ho] at hh
      cases hc : c.callee with
      | value f =>
        cases f with
        | func g =>
          simp only [gop, ho, hc, hev, Option.bind_eq_bind, Option.bind_some, obsi] at e
          obtain ⟨args, h2, e⟩ := e
          rw [List.append_nil] at e
          have hl' : l = c.args.toList := by
            simp only [hcall, hc] at hh
            cases hb : (C.heapy g && (C.ext g).isNone) with
            | false => rw [hb] at hh; cases hh
            | true => rw [hb] at hh; cases hh; rfl
          have hf' : kflat h (l.map fun x => (ev x).getD .un) = true := by unfold kfine at hf; rwa [hh'] at hf
          rw [hl', mapM_getD h2] at hf' ⊢
          exact kreach_ok hX hC hf' e
        | _ => simp [hcall, hc] at hh
      | _ => simp [hcall, hc] at hh
    | _ => rw [ho] at hh; simp [hcall] at hh

end

end Go.Proofs.Ytlbnioapepelnaa.G
