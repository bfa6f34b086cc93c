/- Calls with any number of rounds; what the machine with continuations answers, the machine G answers: an operation, all in all. -/
import Derived.Test.YtklhdbkaejbajaaDoorK2
namespace Go.Proofs.YtklhdbkaejbajaaDoor.G
open Go.RowKit
set_option linter.unusedVariables false
set_option linter.unusedSimpArgs false

section
variable {P : Program} {C : Cfg} {R : Type} {r : R} {h : Heap}

open Classical in
/-- What a call answers, with rounds enough. -/
noncomputable def kω (P : Program) (C : Cfg) (f : FuncId) (args : List GV) (h : Heap) : Option (GV × Heap) :=
  if hx : ∃ r : GV × Heap, ∃ k lg, gcall P C k f args h = some (r.1, r.2, lg) then some hx.choose else none

theorem kω_some {f : FuncId} {args : List GV} {v : GV} {h' : Heap} : kω P C f args h = some (v, h') ↔ ∃ k lg, gcall P C k f args h = some (v, h', lg) := by
  unfold kω
  constructor
  · intro e
    split at e
    · rename_i hx
      have := hx.choose_spec
      rw [Option.some.injEq] at e
      rw [e] at this
      exact this
    · cases e
  · rintro ⟨k, lg, e⟩
    have hx : ∃ r : GV × Heap, ∃ k lg, gcall P C k f args h = some (r.1, r.2, lg) := ⟨(v, h'), k, lg, e⟩
    rw [dif_pos hx]
    obtain ⟨k', lg', e'⟩ := hx.choose_spec
    have e1 := gcall_mono (Nat.le_max_left k k') _ _ _ _ e
    have e2 := gcall_mono (Nat.le_max_right k k') _ _ _ _ e'
    rw [e1] at e2
    simp only [Option.some.injEq, Prod.mk.injEq] at e2
    rw [Option.some.injEq]
    exact Prod.ext e2.1.symm e2.2.1.symm

/-- What a call in a heap of its own hands back. -/
noncomputable def nω (P : Program) (C : Cfg) (f : FuncId) (xs : List GV) : Option GV :=
  match C.ext f with
  | some e => e xs
  | none => (kω P C f xs []).bind fun r => (frz 9 r.2 r.1).map (·.1)

theorem ksplit_g {g : FuncId} (e : ksplit (kω P C) g = true) : ∃ m, gsplit (gcall P C m) g = true := by
  unfold ksplit at e
  split at e
  · rename_i h1 h2 e1 e2
    obtain ⟨m1, l1, f1⟩ := kω_some.1 e1
    obtain ⟨m2, l2, f2⟩ := kω_some.1 e2
    refine ⟨max m1 m2, ?_⟩
    unfold gsplit
    rw [gcall_mono (Nat.le_max_left m1 m2) _ _ _ _ f1, gcall_mono (Nat.le_max_right m1 m2) _ _ _ _ f2]
  · cases e

theorem kcallee_g {g : FuncId} {args : List GV} {K : GV → Heap → Option R} (e : kcallee P C (nω P C) (kω P C) g args h K = some r) :
    ∃ m v h' lg, gcallee P C (gcall P C m) g args h = some (v, h', lg) ∧ K v h' = some r ∧ ((C.heapy g && (C.ext g).isNone) = false → lg.w = [] ∧ h.length ≤ h'.length ∧ ((C.fresh g && (C.ext g).isNone) = false → h'.length = h.length) ∧ ∀ i ∈ lg.r, i < h.length) := by
  unfold kcallee at e
  unfold gcallee
  split at e
  · cases e
  · rename_i fn hfn
    cases hb : fn.body.isSome with
    | false => simp [hb] at e
    | true =>
      simp only [hb, cond_true] at e
      cases hh : (C.heapy g && (C.ext g).isNone) with
      | true =>
        simp only [hh, cond_true] at e
        obtain ⟨⟨v, h'⟩, h1, h2⟩ := Option.bind_eq_some_iff.1 e
        simp only [Bool.and_eq_true, Option.isNone_iff_eq_none] at hh
        unfold kS at h1
        cases hsp : (C.split g && emptyArg args) with
        | true =>
          have hsp' := hsp
          simp only [Bool.and_eq_true] at hsp
          simp only [hsp.1, hsp.2, cond_true] at h1
          cases hks : ksplit (kω P C) g with
          | false => simp only [hks, cond_false] at h1; cases h1
          | true =>
            simp only [hks, cond_true, Option.some.injEq, Prod.mk.injEq] at h1
            obtain ⟨rfl, rfl⟩ := h1
            obtain ⟨m, hm⟩ := ksplit_g hks
            exact ⟨m, .emp, h, .nil, by simp [hfn, hb, hh.1, hh.2, hsp.1, hsp.2, hm], h2, fun hc => by simp at hc⟩
        | false =>
          have h1' : kω P C g args h = some (v, h') := by
            cases h3 : C.split g with
            | false => simpa [h3] using h1
            | true => rw [h3] at hsp; simp only [Bool.true_and] at hsp; simpa [h3, hsp] using h1
          obtain ⟨m, lg, h3⟩ := kω_some.1 h1'
          exact ⟨m, v, h', lg, by simp [hfn, hb, hh.1, hh.2, hsp, h3], h2, fun hc => by simp at hc⟩
      | false =>
        simp only [hh, cond_false] at e
        cases hfr : (C.fresh g && (C.ext g).isNone) with
        | true =>
          simp only [hfr, cond_true] at e
          obtain ⟨⟨v, h'⟩, h1, h2⟩ := Option.bind_eq_some_iff.1 e
          unfold kF at h1
          obtain ⟨xs, h3, h1⟩ := Option.bind_eq_some_iff.1 h1
          obtain ⟨ys, h5, rfl⟩ := bors_mapM h3
          have hfr' := hfr
          simp only [Bool.and_eq_true, Option.isNone_iff_eq_none] at hfr
          have hne : C.heapy g = false := by simpa [hfr.2] using hh
          cases hsp : (C.split g && emptyArg (ys.map (·.1))) with
          | true =>
            simp only [hsp, cond_true] at h1
            cases hks : ksplit (kω P C) g with
            | false => simp only [hks, cond_false] at h1; cases h1
            | true =>
              simp only [hks, cond_true, Option.some.injEq, Prod.mk.injEq] at h1
              obtain ⟨rfl, rfl⟩ := h1
              obtain ⟨m, hm⟩ := ksplit_g hks
              simp only [Bool.and_eq_true] at hsp
              exact ⟨m, .emp, h, ⟨(ys.map (·.2)).flatten, []⟩, by simp [hfn, hb, hfr.2, hne, hfr.1, h5, hsp.1, hsp.2, hm], h2, fun _ => ⟨rfl, Nat.le_refl _, (fun hc => by simp at hc), mapM_bd (fun g _ y hy => bor_bd 9 g y hy) h5⟩⟩
          | false =>
          simp only [hsp, cond_false] at h1
          obtain ⟨⟨u, h6⟩, h7, h1⟩ := Option.bind_eq_some_iff.1 h1
          obtain ⟨⟨v1, bl⟩, h8, h1⟩ := Option.bind_eq_some_iff.1 h1
          simp only [Option.some.injEq, Prod.mk.injEq] at h1
          obtain ⟨rfl, rfl⟩ := h1
          unfold ownOk at h8
          obtain ⟨⟨v2, vis, bl2⟩, h9, h8⟩ := Option.bind_eq_some_iff.1 h8
          simp only at h8 h9
          cases hnd : nodupB (vis.map (·.1)) with
          | false => simp only [hnd, cond_false] at h8; cases h8
          | true =>
            simp only [hnd, cond_true, Option.some.injEq, Prod.mk.injEq] at h8
            obtain ⟨rfl, rfl⟩ := h8
            obtain ⟨m, lg, h10⟩ := kω_some.1 h7
            have hsp' : ¬ ((C.split g && emptyArg (ys.map (·.1))) = true) := by rw [hsp]; simp
            exact ⟨m, v2, _, ⟨(ys.map (·.2)).flatten, []⟩, by
              simp only [hfn, hb, hfr.2, hne, hfr.1, h5, if_true, Option.bind_eq_bind, Option.bind_some, Bool.false_eq_true, if_false]
              rw [if_neg hsp', h10]
              simp only [Option.bind_some, h9, hnd, if_true], h2, fun _ => ⟨rfl, by simp, (fun hc => by simp at hc), mapM_bd (fun g _ y hy => bor_bd 9 g y hy) h5⟩⟩
        | false =>
        simp only [hfr, cond_false] at e
        obtain ⟨v, h1, h2⟩ := Option.bind_eq_some_iff.1 e
        unfold kN at h1
        obtain ⟨xs, h3, h4⟩ := Option.bind_eq_some_iff.1 h1
        obtain ⟨ys, h5, rfl⟩ := bors_mapM h3
        unfold nω at h4
        cases hx : C.ext g with
        | some ex =>
          simp only [hx] at h4
          exact ⟨0, v, h, _, by simp [hfn, hb, hx, h5, h4]; rfl, h2, fun _ => ⟨rfl, Nat.le_refl _, fun _ => rfl, mapM_bd (fun g _ y hy => bor_bd 9 g y hy) h5⟩⟩
        | none =>
          simp only [hx] at h4
          obtain ⟨⟨u, h6⟩, h7, h8⟩ := Option.bind_eq_some_iff.1 h4
          obtain ⟨m, lg, h9⟩ := kω_some.1 h7
          obtain ⟨⟨z, q⟩, h10, h11⟩ := Option.map_eq_some_iff.1 h8
          simp only at h11 h10
          subst h11
          have hne : C.heapy g = false := by simpa [hx] using hh
          have hnf : C.fresh g = false := by simpa [hx] using hfr
          exact ⟨m, z, h, _, by simp [hfn, hb, hx, h5, h9, h10, hne, hnf]; rfl, h2, fun _ => ⟨rfl, Nat.le_refl _, fun _ => rfl, mapM_bd (fun g _ y hy => bor_bd 9 g y hy) h5⟩⟩

/-- What an operation answers here, it answers there. -/
def OpG (P : Program) (C : Cfg) (ev : Operand → Option GV) (o : Oper) (h : Heap) (K : GV → Heap → Option R) (r : R) : Prop :=
  ∃ m v h' lg, gop P C (gcall P C m) ev o h = some (v, h', lg) ∧ K v h' = some r ∧ EffOk (effOf C o.op) h lg h'

variable {ev : Operand → Option GV} {o : Oper} {K : GV → Heap → Option R}

/-- An operation that touches no block. -/
theorem OpG.same {v : GV} (e : ∀ m, gop P C (gcall P C m) ev o h = some (v, h, .nil)) (hk : K v h = some r) : OpG P C ev o h K r :=
  ⟨0, v, h, _, e 0, hk, .nil⟩

theorem kop_call (hev : ∀ g, ev (.func g) = some (.fn g [])) {N : NCall} {H : HCall} (hN : N = nω P C) (hH : H = kω P C) {c : Call} (ho : o.op = .call c) (e : kop P C N H ev o h K = some r) : OpG P C ev o h K r := by
  subst hN; subst hH
  simp only [kop, ho] at e
  cases hc : c.callee with
  | invoke a b => simp [hc] at e
  | builtin b =>
    simp only [hc, got_iff] at e
    obtain ⟨args, h1, e⟩ := e
    have h1 := evs_mapM h1
    split at e
    · rename_i x _
      simp only [got_iff] at e
      obtain ⟨t, ht, e⟩ := e
      split at e
      · rename_i hu
        obtain ⟨v, h2, h3⟩ := Option.bind_eq_some_iff.1 e
        unfold klenS at h2
        obtain ⟨s, h4, h5⟩ := Option.bind_eq_some_iff.1 h2
        rw [kstr_iff] at h4
        subst h4
        simp only [Option.some.injEq] at h5
        subst h5
        exact .same (fun m => by simp [gop, ho, hc, h1, gbuiltin, ht, hu]) h3
      · rename_i hu
        obtain ⟨v, h2, h3⟩ := Option.bind_eq_some_iff.1 e
        unfold klen at h2
        split at h2
        · cases h2
        · rename_i hns
          obtain ⟨n, h4, rfl⟩ := Option.map_eq_some_iff.1 h2
          refine .same (v := .int .i64 n) (fun m => ?_) h3
          simp only [gop, ho, hc, h1, gbuiltin, ht, hu, Option.bind_eq_bind, Option.bind_some]
          cases x <;> first | (exact absurd rfl (hns _)) | (show Option.bind (glen _) _ = _; rw [h4]; rfl)
      · rename_i n el hu
        exact .same (v := .int .i64 n) (fun m => by
          simp only [gop, ho, hc, h1, gbuiltin, ht, hu, Option.bind_eq_bind, Option.bind_some]) e
      · cases e
    · rename_i x _
      simp only [got_iff] at e
      obtain ⟨t, ht, e⟩ := e
      split at e
      · rename_i hu
        obtain ⟨v, h2, h3⟩ := Option.bind_eq_some_iff.1 e
        unfold kcap at h2
        split at h2 <;> first
          | (simp only [Option.some.injEq] at h2; subst h2; exact .same (fun m => by simp [gop, ho, hc, h1, gbuiltin, ht, hu]) h3)
          | cases h2
      · cases e
    · obtain ⟨v, h2, h3⟩ := Option.bind_eq_some_iff.1 e
      exact .same (fun m => by simp [gop, ho, hc, h1, gbuiltin, h2]) h3
    · obtain ⟨v, h2, h3⟩ := Option.bind_eq_some_iff.1 e
      exact .same (fun m => by simp [gop, ho, hc, h1, gbuiltin, h2]) h3
    · obtain ⟨v, h2, h3⟩ := Option.bind_eq_some_iff.1 e
      obtain ⟨v', h4, h5⟩ := Option.bind_eq_some_iff.1 h3
      exact .same (fun m => by simp [gop, ho, hc, h1, gbuiltin, h2, h4]) h5
    · simp only [got_iff] at e
      obtain ⟨t, ht, u, hu, e⟩ := e
      split at e
      · rename_i ik hud
        split at e
        · rename_i el hut
          simp only [got_iff] at e
          obtain ⟨info, hi, z, hz, e⟩ := e
          obtain ⟨⟨v, h'⟩, h2, h3⟩ := Option.bind_eq_some_iff.1 e
          obtain ⟨lg, h4⟩ := kapz_g hut hi hz h2
          refine ⟨0, v, h', lg, ?_, h3, by constructor <;> simp [effOf, ho, hc]⟩
          simp only [gop, ho, hc, h1, gbuiltin, ht, hu, hud, Option.bind_eq_bind, Option.bind_some]
          exact h4
        · cases e
      · rename_i d hne hud
        split at e
        · rename_i el hut
          simp only [got_iff] at e
          obtain ⟨info, hi, z, hz, e⟩ := e
          obtain ⟨⟨v, h'⟩, h2, h3⟩ := Option.bind_eq_some_iff.1 e
          obtain ⟨lg, h4⟩ := kapp_g hut hi hz h2
          refine ⟨0, v, h', lg, ?_, h3, by constructor <;> simp [effOf, ho, hc]⟩
          simp only [gop, ho, hc, h1, gbuiltin, ht, hu, hud, Option.bind_eq_bind, Option.bind_some]
          cases d <;> first | exact h4 | exact absurd rfl (hne _)
        · cases e
      · cases e
    · simp only [got_iff] at e
      obtain ⟨t, ht, e⟩ := e
      split at e
      · rename_i el hut
        simp only [got_iff] at e
        obtain ⟨es, hi, e⟩ := e
        obtain ⟨⟨v, h'⟩, h2, h3⟩ := Option.bind_eq_some_iff.1 e
        obtain ⟨lg, h4⟩ := kcopy_g hut hi h2
        exact ⟨0, v, h', lg, by simp [gop, ho, hc, h1, gbuiltin, ht, h4], h3, by constructor <;> simp [effOf, ho, hc]⟩
      · cases e
    · simp only [got_iff] at e
      obtain ⟨t, ht, e⟩ := e
      split at e
      · rename_i el hut
        simp only [got_iff] at e
        obtain ⟨z, hi, e⟩ := e
        obtain ⟨⟨v, h'⟩, h2, h3⟩ := Option.bind_eq_some_iff.1 e
        obtain ⟨lg, h4⟩ := kclear_g hut hi h2
        exact ⟨0, v, h', lg, by simp [gop, ho, hc, h1, gbuiltin, ht, h4], h3, by constructor <;> simp [effOf, ho, hc]⟩
      · cases e
    · cases e
  | value f =>
    have key : ∀ g args, kcallee P C (nω P C) (kω P C) g args h K = some r →
        (∀ m, gop P C (gcall P C m) ev o h = gcallee P C (gcall P C m) g args h) → ((∀ g', f = .func g' → g' = g)) → OpG P C ev o h K r := by
      intro g args e hg hf
      obtain ⟨m, v, h', lg, h1, h2, h3⟩ := kcallee_g e
      refine ⟨m, v, h', lg, (hg m).trans h1, h2, ?_⟩
      cases f with
      | func g' =>
        have := hf g' rfl
        subst this
        cases hh : (C.heapy g' && (C.ext g').isNone) with
        | true => constructor <;> simp [effOf, ho, hc, hh]
        | false =>
          obtain ⟨h4, h5, h6, h7⟩ := h3 hh
          cases hf2 : (C.fresh g' && (C.ext g').isNone) with
          | true => exact ⟨by simp [effOf, ho, hc, hh, hf2], fun _ => h4, by simp [effOf, ho, hc, hh, hf2], fun _ i hi => Nat.lt_of_lt_of_le (h7 i hi) h5⟩
          | false => exact ⟨by simp [effOf, ho, hc, hh, hf2], fun _ => h4, fun _ => h6 hf2, fun _ i hi => Nat.lt_of_lt_of_le (h7 i hi) h5⟩
      | _ => constructor <;> simp [effOf, ho, hc]
    cases f with
    | func g =>
      simp only [hc, got_iff] at e
      obtain ⟨args, h1, e⟩ := e
      have h1 := evs_mapM h1
      refine key g args e (fun m => ?_) (fun g' hg => by cases hg; rfl)
      simp [gop, ho, hc, h1, hev]
    | _ =>
      simp only [hc, got_iff] at e
      obtain ⟨fv, h0, args, h1, e⟩ := e
      have h1 := evs_mapM h1
      split at e
      · rename_i g caps
        refine key g (args ++ caps) e (fun m => ?_) (fun g' hg => by cases hg)
        simp [gop, ho, hc, h0, h1]
      · cases e
end

end Go.Proofs.YtklhdbkaejbajaaDoor.G
