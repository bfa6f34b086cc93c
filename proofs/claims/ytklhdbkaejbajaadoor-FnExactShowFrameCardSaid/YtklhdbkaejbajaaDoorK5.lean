/- What the machine with continuations answers, the machine G answers: regions, code, functions. -/
import Derived.Test.YtklhdbkaejbajaaDoorK4
namespace Go.Proofs.YtklhdbkaejbajaaDoor.G
open Go.RowKit
set_option linter.unusedVariables false
set_option linter.unusedSimpArgs false

section
variable {P : Program} {C : Cfg} {R : Type} {r : R} {h : Heap} {σ : GS} {nt : Nat} {ops : Array Oper}

theorem wanted_k {o : Oper} : Region.wanted o (gyield ops σ) = kwant ops σ o.guard := by
  unfold Region.wanted kwant
  cases o.guard with
  | none => rfl
  | some g =>
    obtain ⟨j, want⟩ := g
    simp only
    unfold gyield dstOf
    cases ops[j]? with
    | none => rfl
    | some o' =>
      simp only [Option.bind_some]
      cases o'.dst with
      | none => rfl
      | some d => cases hd : σ d <;> simp [hd, tr]

theorem guardEq_eq {a b : Option (Nat × Bool)} (e : guardEq a b = true) : a = b := by
  unfold guardEq at e
  split at e
  · rfl
  · simp only [Bool.and_eq_true, Nat.beq_eq, beq_iff_eq] at e
    rw [e.1, e.2]
  · cases e

theorem grp_flat : ∀ l : List Nat, (grp ops l).flatMap (·.2) = l
  | [] => rfl
  | j :: js => by
    have ih := grp_flat js
    unfold grp
    split
    · rename_i g l rest heq
      rw [heq] at ih
      simp only [List.flatMap_cons] at ih
      cases guardEq (guardOf ops j) g <;> simp [← ih]
    · rename_i heq
      rw [heq] at ih
      simp only [List.flatMap_nil] at ih
      simp [← ih]

theorem grp_guard : ∀ (l : List Nat), ∀ q ∈ grp ops l, ∀ j ∈ q.2, guardOf ops j = q.1
  | [], q, hq => by simp [grp] at hq
  | j :: js, q, hq => by
    have ih := grp_guard js
    unfold grp at hq
    split at hq
    · rename_i g l rest heq
      rw [heq] at ih
      cases hg : guardEq (guardOf ops j) g with
      | true =>
        simp only [hg, cond_true, List.mem_cons] at hq
        rcases hq with rfl | hq
        · intro i hi
          simp only [List.mem_cons] at hi
          rcases hi with rfl | hi
          · exact guardEq_eq hg
          · exact ih (g, l) (by simp) i hi
        · exact ih q (by simp [hq])
      | false =>
        simp only [hg, cond_false, List.mem_cons] at hq
        rcases hq with rfl | hq
        · intro i hi; simp at hi; subst hi; rfl
        · exact ih q (by simpa using hq)
    · simp only [List.mem_cons, List.not_mem_nil, or_false] at hq
      subst hq
      intro i hi; simp at hi; subst hi; rfl

structure RecOk (C : Cfg) (ops : Array Oper) (q : Rec) : Prop where
  r : (effAt C ops q.j).r = false → q.lg.r = []
  w : (effAt C ops q.j).w = false → q.lg.w = []
  a : (effAt C ops q.j).a = false → q.n1 = q.n0
  bd : (effAt C ops q.j).w = false → ∀ i ∈ q.lg.r, i < q.n1

theorem gops_append {call : GCall} : ∀ {l1 l2 : List Nat} {σ σ1 σ2 : GS} {h h1 h2 : Heap} {q1 q2 : List Rec}, gops P C call nt ops l1 σ h = some (σ1, h1, q1) → gops P C call nt ops l2 σ1 h1 = some (σ2, h2, q2) →
    gops P C call nt ops (l1 ++ l2) σ h = some (σ2, h2, q1 ++ q2)
  | [], l2, σ, σ1, σ2, h, h1, h2, q1, q2, e1, e2 => by
    simp only [gops, Option.some.injEq, Prod.mk.injEq] at e1
    obtain ⟨rfl, rfl, rfl⟩ := e1
    exact e2
  | j :: l1, l2, σ, σ1, σ2, h, h1, h2, q1, q2, e1, e2 => by
    simp only [List.cons_append]
    unfold gops at e1 ⊢
    cases hj : ops[j]? with
    | none => rw [hj] at e1; cases e1
    | some o =>
      rw [hj] at e1
      simp only at e1 ⊢
      split at e1
      · rename_i hd
        rw [if_pos hd]
        split at e1
        · rename_i hw
          rw [if_pos hw]
          simp only [Option.bind_eq_bind, Option.bind_eq_some_iff, Option.some.injEq, Prod.mk.injEq] at e1 ⊢
          obtain ⟨x, hx, ⟨σ3, h3, q3⟩, hy, rfl, rfl, rfl⟩ := e1
          exact ⟨x, hx, _, gops_append hy e2, rfl, rfl, rfl⟩
        · rename_i hw
          rw [if_neg hw]
          simp only [Option.bind_eq_bind, Option.bind_eq_some_iff, Option.some.injEq, Prod.mk.injEq] at e1 ⊢
          obtain ⟨⟨σ3, h3, q3⟩, hy, rfl, rfl, rfl⟩ := e1
          exact ⟨_, gops_append hy e2, rfl, rfl, rfl⟩
      · cases e1

theorem kwant_upd {g : Option (Nat × Bool)} {d : Option Tmp} {v : GV} (hne : ∀ i w, g = some (i, w) → dstEq d (dstOf ops i) = false) : kwant ops (upd σ d v) g = kwant ops σ g := by
  cases g with
  | none => rfl
  | some g =>
    obtain ⟨i, w⟩ := g
    have := hne i w rfl
    unfold kwant
    simp only
    cases hd : dstOf ops i with
    | none => rfl
    | some d' =>
      rw [hd] at this
      cases d with
      | none => rfl
      | some d =>
        simp only [dstEq] at this
        simp only [upd]
        cases hb : Nat.beq d' d with
        | false => rfl
        | true =>
          have := Nat.ne_of_beq_eq_false this
          exact absurd (Nat.eq_of_beq_eq_true hb).symm this

/-- What a list of operations answers here, it answers there. -/
def OpsG (P : Program) (C : Cfg) (nt : Nat) (ops : Array Oper) (l : List Nat) (σ : GS) (h : Heap) (K : GS → Heap → Option R) (r : R) : Prop :=
  ∃ m σ' h' q, gops P C (gcall P C m) nt ops l σ h = some (σ', h', q) ∧ K σ' h' = some r ∧ q.map (·.j) = l ∧ ∀ x ∈ q, RecOk C ops x

theorem krun_sound {g : Option (Nat × Bool)} : ∀ (l : List Nat) (σ : GS) (h : Heap) (K : GS → Heap → Option R), (∀ j ∈ l, guardOf ops j = g) → (∀ i w, g = some (i, w) → ∀ j ∈ l, dstEq (dstOf ops j) (dstOf ops i) = false) → kwant ops σ g = true →
    krun P C (nω P C) (kω P C) nt ops l σ h K = some r → OpsG P C nt ops l σ h K r
  | [], σ, h, K, _, _, _, e => ⟨0, σ, h, [], rfl, e, rfl, by simp⟩
  | j :: l, σ, h, K, hg, hd, hw, e => by
    unfold krun at e
    cases hj : ops[j]? with
    | none => rw [hj] at e; cases e
    | some o =>
      rw [hj] at e
      simp only at e
      cases hdst : dstOk nt o.dst with
      | false => simp [hdst] at e
      | true =>
        simp only [hdst, cond_true] at e
        obtain ⟨m, v, h1, lg, h2, h3, h4⟩ := kop_sound (fun g => rfl) e
        have hgo : o.guard = g := by have := hg j (by simp); simpa [guardOf, hj] using this
        have hdj : dstOf ops j = o.dst := by simp [dstOf, hj]
        have hw' : kwant ops (upd σ o.dst v) g = true := by
          rw [kwant_upd fun i w hi => by have := hd i w hi j (by simp); rwa [hdj] at this]; exact hw
        obtain ⟨m2, σ2, hh2, q, h5, h6, h7, h8⟩ := krun_sound l _ _ K (fun i hi => hg i (by simp [hi])) (fun i w hi k hk => hd i w hi k (by simp [hk])) hw' h3
        refine ⟨max m m2, σ2, hh2, ⟨j, h.length, h1.length, lg⟩ :: q, ?_, h6, by simp [h7], ?_⟩
        · unfold gops
          rw [hj]
          simp only
          rw [if_pos hdst, if_pos (by rw [wanted_k, hgo]; exact hw)]
          simp only [Option.bind_eq_bind]
          rw [gop_mono (gcall_mono (Nat.le_max_left m m2)) h2]
          simp only [Option.bind_some]
          rw [gops_mono (gcall_mono (Nat.le_max_right m m2)) _ _ _ _ h5]
          rfl
        · intro x hx
          simp only [List.mem_cons] at hx
          rcases hx with rfl | hx
          · have he : effAt C ops j = effOf C o.op := by simp [effAt, hj]
            exact ⟨by simp only [he]; exact h4.r, by simp only [he]; exact h4.w, by simp only [he]; exact h4.a, by simp only [he]; exact h4.bd⟩
          · exact h8 x hx

theorem kskip_sound {g : Option (Nat × Bool)} : ∀ (l : List Nat) (σ σ' : GS) (h : Heap), (∀ j ∈ l, guardOf ops j = g) → (∀ i w, g = some (i, w) → ∀ j ∈ l, dstEq (dstOf ops j) (dstOf ops i) = false) → kwant ops σ g = false →
    kskip nt ops l σ = some σ' → ∃ q, gops P C (gcall P C 0) nt ops l σ h = some (σ', h, q) ∧ q.map (·.j) = l ∧ ∀ x ∈ q, RecOk C ops x
  | [], σ, σ', h, _, _, _, e => by simp only [kskip, Option.some.injEq] at e; subst e; exact ⟨[], rfl, rfl, by simp⟩
  | j :: l, σ, σ', h, hg, hd, hw, e => by
    unfold kskip at e
    cases hj : ops[j]? with
    | none => rw [hj] at e; cases e
    | some o =>
      rw [hj] at e
      simp only at e
      cases hdst : dstOk nt o.dst with
      | false => simp [hdst] at e
      | true =>
        simp only [hdst, cond_true] at e
        have hgo : o.guard = g := by have := hg j (by simp); simpa [guardOf, hj] using this
        have hdj : dstOf ops j = o.dst := by simp [dstOf, hj]
        have hw' : kwant ops (upd σ o.dst .un) g = false := by
          rw [kwant_upd fun i w hi => by have := hd i w hi j (by simp); rwa [hdj] at this]; exact hw
        obtain ⟨q, h5, h7, h8⟩ := kskip_sound l _ σ' h (fun i hi => hg i (by simp [hi])) (fun i w hi k hk => hd i w hi k (by simp [hk])) hw' e
        refine ⟨⟨j, h.length, h.length, .nil⟩ :: q, ?_, by simp [h7], ?_⟩
        · unfold gops
          rw [hj]
          simp only
          rw [if_pos hdst, if_neg (by rw [wanted_k, hgo, hw]; simp)]
          simp only [Option.bind_eq_bind]
          rw [h5]
          rfl
        · intro x hx
          simp only [List.mem_cons] at hx
          rcases hx with rfl | hx
          · exact ⟨fun _ => rfl, fun _ => rfl, fun _ => rfl, fun _ i hi => by cases hi⟩
          · exact h8 x hx

theorem kskip_soundN {g : Option (Nat × Bool)} : ∀ (l : List Nat) (σ σ' : GS) (h : Heap), (∀ j ∈ l, guardOf ops j = g) → (∀ i w, g = some (i, w) → ∀ j ∈ l, dstEq (dstOf ops j) (dstOf ops i) = false) → kwant ops σ g = false →
    kskip nt ops l σ = some σ' → ∃ q, gops P C (gcall P C 0) nt ops l σ h = some (σ', h, q) ∧ q.map (·.j) = l ∧ (∀ x ∈ q, RecOk C ops x) ∧ ∀ x ∈ q, x.lg = .nil ∧ x.n1 = x.n0
  | [], σ, σ', h, _, _, _, e => by simp only [kskip, Option.some.injEq] at e; subst e; exact ⟨[], rfl, rfl, by simp, by simp⟩
  | j :: l, σ, σ', h, hg, hd, hw, e => by
    unfold kskip at e
    cases hj : ops[j]? with
    | none => rw [hj] at e; cases e
    | some o =>
      rw [hj] at e
      simp only at e
      cases hdst : dstOk nt o.dst with
      | false => simp [hdst] at e
      | true =>
        simp only [hdst, cond_true] at e
        have hgo : o.guard = g := by have := hg j (by simp); simpa [guardOf, hj] using this
        have hdj : dstOf ops j = o.dst := by simp [dstOf, hj]
        have hw' : kwant ops (upd σ o.dst .un) g = false := by
          rw [kwant_upd fun i w hi => by have := hd i w hi j (by simp); rwa [hdj] at this]; exact hw
        obtain ⟨q, h5, h7, h8, h9⟩ := kskip_soundN l _ σ' h (fun i hi => hg i (by simp [hi])) (fun i w hi k hk => hd i w hi k (by simp [hk])) hw' e
        refine ⟨⟨j, h.length, h.length, .nil⟩ :: q, ?_, by simp [h7], ?_, ?_⟩
        · unfold gops
          rw [hj]
          simp only
          rw [if_pos hdst, if_neg (by rw [wanted_k, hgo, hw]; simp)]
          simp only [Option.bind_eq_bind]
          rw [h5]
          rfl
        · intro x hx
          simp only [List.mem_cons] at hx
          rcases hx with rfl | hx
          · exact ⟨fun _ => rfl, fun _ => rfl, fun _ => rfl, fun _ i hi => by cases hi⟩
          · exact h8 x hx
        · intro x hx
          simp only [List.mem_cons] at hx
          rcases hx with rfl | hx
          · exact ⟨rfl, rfl⟩
          · exact h9 x hx

theorem kgroups_sound : ∀ (gs : List (Option (Nat × Bool) × List Nat)) (σ : GS) (h : Heap) (K : GS → Heap → Option R), (∀ q ∈ gs, ∀ j ∈ q.2, guardOf ops j = q.1) → grpOk ops gs = true →
    kgroups P C (nω P C) (kω P C) nt ops gs σ h K = some r → OpsG P C nt ops (gs.flatMap (·.2)) σ h K r
  | [], σ, h, K, _, _, e => ⟨0, σ, h, [], rfl, e, rfl, by simp⟩
  | (g, js) :: rest, σ, h, K, hg, hok, e => by
    have hokr : grpOk ops rest = true := by
      unfold grpOk at hok ⊢
      simp only [List.all_cons, Bool.and_eq_true] at hok
      exact hok.2
    have hd : ∀ i w, g = some (i, w) → ∀ j ∈ js, dstEq (dstOf ops j) (dstOf ops i) = false := by
      intro i w hi j hj
      subst hi
      unfold grpOk at hok
      simp only [List.all_cons, Bool.and_eq_true, List.all_eq_true, Bool.not_eq_true'] at hok
      exact hok.1 j hj
    have hgj : ∀ j ∈ js, guardOf ops j = g := fun j hj => hg (g, js) (by simp) j hj
    have ihr := fun σ h K => kgroups_sound rest σ h K (fun q hq => hg q (by simp [hq])) hokr
    have run : kwant ops σ g = true → krun P C (nω P C) (kω P C) nt ops js σ h (fun σ h => kgroups P C (nω P C) (kω P C) nt ops rest σ h K) = some r → OpsG P C nt ops (((g, js) :: rest).flatMap (·.2)) σ h K r := by
      intro hw e
      obtain ⟨m, σ1, h1, q1, e1, e2, e3, e4⟩ := krun_sound js σ h _ hgj hd hw e
      obtain ⟨m2, σ2, h2, q2, f1, f2, f3, f4⟩ := ihr σ1 h1 K e2
      refine ⟨max m m2, σ2, h2, q1 ++ q2, ?_, f2, by simp [e3, f3], ?_⟩
      · simp only [List.flatMap_cons]
        exact gops_append (gops_mono (gcall_mono (Nat.le_max_left m m2)) _ _ _ _ e1) (gops_mono (gcall_mono (Nat.le_max_right m m2)) _ _ _ _ f1)
      · intro x hx
        rcases List.mem_append.1 hx with hx | hx
        · exact e4 x hx
        · exact f4 x hx
    cases g with
    | none => exact run rfl (by simpa only [kgroups] using e)
    | some g =>
      simp only [kgroups] at e
      cases hw : kwant ops σ (some g) with
      | true =>
        simp only [hw, cond_true] at e
        exact run hw e
      | false =>
        simp only [hw, cond_false, got_iff] at e
        obtain ⟨σ1, e1, e2⟩ := e
        obtain ⟨q1, d1, d2, d3⟩ := kskip_sound (P := P) (C := C) js σ σ1 h hgj hd hw e1
        obtain ⟨m2, σ2, h2, q2, f1, f2, f3, f4⟩ := ihr σ1 h K e2
        refine ⟨m2, σ2, h2, q1 ++ q2, ?_, f2, by simp [d2, f3], ?_⟩
        · simp only [List.flatMap_cons]
          exact gops_append (gops_mono (gcall_mono (Nat.zero_le m2)) _ _ _ _ d1) f1
        · intro x hx
          rcases List.mem_append.1 hx with hx | hx
          · exact d3 x hx
          · exact f4 x hx

theorem meets_of {a b : Rec} (hab : a.n1 ≤ b.n0) (ha : RecOk C ops a) (hb : RecOk C ops b) (hc : clash (effAt C ops a.j) (effAt C ops b.j) = false) : meets a b = false := by
  unfold clash at hc
  simp only [Bool.or_eq_false_iff, Bool.and_eq_false_iff] at hc
  have t : ∀ x : Rec, RecOk C ops x → (effAt C ops x.j).w = false → (effAt C ops x.j).a = false → ∀ i, touches x i = false := by
    intro x hx h1 h2 i
    unfold touches
    rw [hx.w h1, hx.a h2]
    cases h3 : Nat.ble x.n0 i with
    | false => simp
    | true =>
      have := Nat.le_of_ble_eq_true h3
      cases h4 : Nat.blt i x.n0 with
      | false => simp
      | true => have := Nat.le_of_ble_eq_true h4; omega
  unfold meets
  simp only [Bool.or_eq_false_iff]
  refine ⟨⟨⟨?_, ?_⟩, ?_⟩, ?_⟩
  · rcases hc.1.1 with h | h
    · simp [ha.w h]
    · rw [List.any_eq_false]
      intro i _
      simp [hb.r h.1.1, t b hb h.1.2 h.2]
  · rcases hc.1.2 with h | h
    · simp [hb.w h]
    · rw [List.any_eq_false]
      intro i _
      simp [ha.r h.1.1, t a ha h.1.2 h.2]
  · rcases hc.2 with h | h
    · simp [hb.r h]
    · rcases hc.1.1 with h1 | h1
      · rw [List.any_eq_false]; intro i _; simp [t a ha h1 h]
      · simp [hb.r h1.1.1]
  · rw [List.any_eq_false]
    intro i hi
    rcases hc.1.2 with h | h
    · rcases hc.1.1 with h1 | h1
      · have hlt := ha.bd h1 i hi
        cases hbw : (effAt C ops b.j).w with
        | false =>
          unfold touches
          rw [hb.w hbw]
          have : Nat.ble b.n0 i = false := by
            cases h3 : Nat.ble b.n0 i with
            | false => rfl
            | true => have := Nat.le_of_ble_eq_true h3; omega
          simp [this]
        | true => rw [h] at hbw; cases hbw
      · simp [t b hb h h1.2]
    · have := ha.r h.1.1
      rw [this] at hi
      cases hi

/-- Records in their order. -/
def Ord : List Rec → Prop
  | [] => True
  | a :: q => a.n0 ≤ a.n1 ∧ (∀ b ∈ q, a.n1 ≤ b.n0) ∧ Ord q

theorem recs_of {m : List Nat} : ∀ (q : List Rec), (∀ x ∈ q, RecOk C ops x) → Ord q → statIn C ops m (q.map (·.j)) = true → recsOk m q = true
  | [], _, _, _ => rfl
  | a :: q, hq, ho, e => by
    simp only [List.map_cons, statIn, Bool.and_eq_true, List.all_eq_true] at e
    simp only [recsOk, Bool.and_eq_true, List.all_eq_true]
    refine ⟨fun b hb => ?_, recs_of q (fun x hx => hq x (by simp [hx])) ho.2.2 e.2⟩
    have := e.1 b.j (List.mem_map.2 ⟨b, hb, rfl⟩)
    simp only [Bool.or_eq_true, Bool.not_eq_true'] at this ⊢
    exact this.imp id fun h => meets_of (ho.2.1 b hb) (hq a (by simp)) (hq b (by simp [hb])) h

theorem gops_ord {call : GCall} (hcl : CFrame call) : ∀ (l : List Nat) (σ σ' : GS) (h h' : Heap) (q : List Rec), gops P C call nt ops l σ h = some (σ', h', q) →
    Ord q ∧ h.length ≤ h'.length ∧ ∀ b ∈ q, h.length ≤ b.n0
  | [], σ, σ', h, h', q, e => by
    simp only [gops, Option.some.injEq, Prod.mk.injEq] at e
    obtain ⟨_, rfl, rfl⟩ := e
    exact ⟨trivial, Nat.le_refl _, by simp⟩
  | j :: l, σ, σ', h, h', q, e => by
    unfold gops at e
    cases hj : ops[j]? with
    | none => rw [hj] at e; cases e
    | some o =>
      rw [hj] at e
      simp only at e
      split at e
      · split at e
        · simp only [Option.bind_eq_bind, Option.bind_eq_some_iff, Option.some.injEq, Prod.mk.injEq] at e
          obtain ⟨⟨v, h1, lg⟩, hx, ⟨σ3, h3, q3⟩, hy, rfl, rfl, rfl⟩ := e
          have hl := (gop_frame hcl hx).len
          obtain ⟨i1, i2, i3⟩ := gops_ord hcl l _ _ _ _ _ hy
          refine ⟨⟨hl, i3, i1⟩, Nat.le_trans hl i2, fun b hb => ?_⟩
          simp only [List.mem_cons] at hb
          rcases hb with rfl | hb
          · exact Nat.le_refl _
          · exact Nat.le_trans hl (i3 b hb)
        · simp only [Option.bind_eq_bind, Option.bind_eq_some_iff, Option.some.injEq, Prod.mk.injEq] at e
          obtain ⟨⟨σ3, h3, q3⟩, hy, rfl, rfl, rfl⟩ := e
          obtain ⟨i1, i2, i3⟩ := gops_ord hcl l _ _ _ _ _ hy
          refine ⟨⟨Nat.le_refl _, i3, i1⟩, i2, fun b hb => ?_⟩
          simp only [List.mem_cons] at hb
          rcases hb with rfl | hb
          · exact Nat.le_refl _
          · exact i3 b hb
      · cases e

/-- What was written down bears what was touched. -/
def RecIn (bad : List (Nat × Nat)) (rs : List Rec) (x : Rec) : Prop :=
  inBad bad x.j = true → (x.lg = .nil ∧ x.n1 = x.n0) ∨ ∃ y ∈ rs, y.j = x.j ∧ y.n0 = x.n0 ∧ y.n1 = x.n1 ∧ LogIn2 x.n0 x.n1 x.lg y.lg

theorem RecIn.more {bad : List (Nat × Nat)} {rs rs' : List Rec} {x : Rec} (h : RecIn bad rs x) (hs : ∀ y ∈ rs, y ∈ rs') : RecIn bad rs' x := fun hb =>
  (h hb).imp id fun ⟨y, h1, h2⟩ => ⟨y, hs y h1, h2⟩

def OpsD (P : Program) (C : Cfg) (nt : Nat) (ops : Array Oper) (bad : List (Nat × Nat)) (l : List Nat) (rs : List Rec) (σ : GS) (h : Heap) (K : List Rec → GS → Heap → Option R) (r : R) : Prop :=
  ∃ m rs' σ' h' q, gops P C (gcall P C m) nt ops l σ h = some (σ', h', q) ∧ K rs' σ' h' = some r ∧ q.map (·.j) = l ∧ (∀ x ∈ q, RecOk C ops x) ∧ (∀ x ∈ q, RecIn bad rs' x) ∧ (∀ y ∈ rs, y ∈ rs')

theorem krunD_sound [XR C] {bad : List (Nat × Nat)} (hbad : ∀ j, inBad bad j = true → logAt C ops j = true) {g : Option (Nat × Bool)} : ∀ (l : List Nat) (rs : List Rec) (σ : GS) (h : Heap) (K : List Rec → GS → Heap → Option R), (∀ j ∈ l, guardOf ops j = g) → (∀ i w, g = some (i, w) → ∀ j ∈ l, dstEq (dstOf ops j) (dstOf ops i) = false) → kwant ops σ g = true →
    krunD P C (nω P C) (kω P C) nt ops bad l rs σ h K = some r → OpsD P C nt ops bad l rs σ h K r
  | [], rs, σ, h, K, _, _, _, e => ⟨0, rs, σ, h, [], rfl, e, rfl, by simp, by simp, fun _ h => h⟩
  | j :: l, rs, σ, h, K, hg, hd, hw, e => by
    unfold krunD at e
    cases hj : ops[j]? with
    | none => rw [hj] at e; cases e
    | some o =>
      rw [hj] at e
      simp only at e
      cases hdst : dstOk nt o.dst with
      | false => simp [hdst] at e
      | true =>
        simp only [hdst, cond_true] at e
        obtain ⟨hfn, e⟩ : (!inBad bad j || kfine C (eval σ) h o.op) = true ∧ kop P C (nω P C) (kω P C) (eval σ) o h (fun v h1 => krunD P C (nω P C) (kω P C) nt ops bad l (bif inBad bad j then rs ++ [⟨j, h.length, h1.length, klog C (eval σ) h o.op⟩] else rs) (upd σ o.dst v) h1 K) = some r := by
          unfold kchk at e
          cases hfn : (!inBad bad j || kfine C (eval σ) h o.op) with
          | false => rw [hfn] at e; cases e
          | true => rw [hfn] at e; exact ⟨rfl, e⟩
        obtain ⟨m, v, h1, lg, h2, h3, h4⟩ := kop_sound (fun g => rfl) e
        have hgo : o.guard = g := by have := hg j (by simp); simpa [guardOf, hj] using this
        have hdj : dstOf ops j = o.dst := by simp [dstOf, hj]
        have hw' : kwant ops (upd σ o.dst v) g = true := by
          rw [kwant_upd fun i w hi => by have := hd i w hi j (by simp); rwa [hdj] at this]; exact hw
        obtain ⟨m2, rs2, σ2, hh2, q, h5, h6, h7, h8, h9, h10⟩ := krunD_sound hbad l _ _ _ K (fun i hi => hg i (by simp [hi])) (fun i w hi k hk => hd i w hi k (by simp [hk])) hw' h3
        refine ⟨max m m2, rs2, σ2, hh2, ⟨j, h.length, h1.length, lg⟩ :: q, ?_, h6, by simp [h7], ?_, ?_, ?_⟩
        · unfold gops
          rw [hj]
          simp only
          rw [if_pos hdst, if_pos (by rw [wanted_k, hgo]; exact hw)]
          simp only [Option.bind_eq_bind]
          rw [gop_mono (gcall_mono (Nat.le_max_left m m2)) h2]
          simp only [Option.bind_some]
          rw [gops_mono (gcall_mono (Nat.le_max_right m m2)) _ _ _ _ h5]
          rfl
        · intro x hx
          simp only [List.mem_cons] at hx
          rcases hx with rfl | hx
          · have he : effAt C ops j = effOf C o.op := by simp [effAt, hj]
            exact ⟨by simp only [he]; exact h4.r, by simp only [he]; exact h4.w, by simp only [he]; exact h4.a, by simp only [he]; exact h4.bd⟩
          · exact h8 x hx
        · intro x hx
          simp only [List.mem_cons] at hx
          rcases hx with rfl | hx
          · intro hb
            have hlo : logOk C o.op = true := by have := hbad j hb; simpa [logAt, hj] using this
            refine .inr ⟨⟨j, h.length, h1.length, klog C (eval σ) h o.op⟩, h10 _ ?_, rfl, rfl, rfl, gop_klog XR.x (gcall_reach XR.x m) (fun g => rfl) h2 hlo (by have hb0 : inBad bad j = true := hb; simpa [hb0] using hfn) h4⟩
            have hb' : inBad bad j = true := hb
            simp [hb']
          · exact h9 x hx
        · intro y hy
          apply h10
          cases inBad bad j <;> simp [hy]

theorem kgroupsD_sound [XR C] {bad : List (Nat × Nat)} (hbad : ∀ j, inBad bad j = true → logAt C ops j = true) : ∀ (gs : List (Option (Nat × Bool) × List Nat)) (rs : List Rec) (σ : GS) (h : Heap) (K : List Rec → GS → Heap → Option R), (∀ q ∈ gs, ∀ j ∈ q.2, guardOf ops j = q.1) → grpOk ops gs = true →
    kgroupsD P C (nω P C) (kω P C) nt ops bad gs rs σ h K = some r → OpsD P C nt ops bad (gs.flatMap (·.2)) rs σ h K r
  | [], rs, σ, h, K, _, _, e => ⟨0, rs, σ, h, [], rfl, e, rfl, by simp, by simp, fun _ h => h⟩
  | (g, js) :: rest, rs, σ, h, K, hg, hok, e => by
    have hokr : grpOk ops rest = true := by
      unfold grpOk at hok ⊢
      simp only [List.all_cons, Bool.and_eq_true] at hok
      exact hok.2
    have hd : ∀ i w, g = some (i, w) → ∀ j ∈ js, dstEq (dstOf ops j) (dstOf ops i) = false := by
      intro i w hi j hj
      subst hi
      unfold grpOk at hok
      simp only [List.all_cons, Bool.and_eq_true, List.all_eq_true, Bool.not_eq_true'] at hok
      exact hok.1 j hj
    have hgj : ∀ j ∈ js, guardOf ops j = g := fun j hj => hg (g, js) (by simp) j hj
    have ihr := fun rs σ h K => kgroupsD_sound hbad rest rs σ h K (fun q hq => hg q (by simp [hq])) hokr
    have run : kwant ops σ g = true → krunD P C (nω P C) (kω P C) nt ops bad js rs σ h (fun rs σ h => kgroupsD P C (nω P C) (kω P C) nt ops bad rest rs σ h K) = some r → OpsD P C nt ops bad (((g, js) :: rest).flatMap (·.2)) rs σ h K r := by
      intro hw e
      obtain ⟨m, rs1, σ1, h1, q1, e1, e2, e3, e4, e5, e6⟩ := krunD_sound hbad js rs σ h _ hgj hd hw e
      obtain ⟨m2, rs2, σ2, h2, q2, f1, f2, f3, f4, f5, f6⟩ := ihr rs1 σ1 h1 K e2
      refine ⟨max m m2, rs2, σ2, h2, q1 ++ q2, ?_, f2, by simp [e3, f3], ?_, ?_, fun y hy => f6 y (e6 y hy)⟩
      · simp only [List.flatMap_cons]
        exact gops_append (gops_mono (gcall_mono (Nat.le_max_left m m2)) _ _ _ _ e1) (gops_mono (gcall_mono (Nat.le_max_right m m2)) _ _ _ _ f1)
      · intro x hx
        rcases List.mem_append.1 hx with hx | hx
        · exact e4 x hx
        · exact f4 x hx
      · intro x hx
        rcases List.mem_append.1 hx with hx | hx
        · exact (e5 x hx).more f6
        · exact f5 x hx
    cases g with
    | none => exact run rfl (by simpa only [kgroupsD] using e)
    | some g =>
      simp only [kgroupsD] at e
      cases hw : kwant ops σ (some g) with
      | true =>
        simp only [hw, cond_true] at e
        exact run hw e
      | false =>
        simp only [hw, cond_false, got_iff] at e
        obtain ⟨σ1, e1, e2⟩ := e
        obtain ⟨q1, d1, d2, d3, d4⟩ := kskip_soundN (P := P) (C := C) js σ σ1 h hgj hd hw e1
        obtain ⟨m2, rs2, σ2, h2, q2, f1, f2, f3, f4, f5, f6⟩ := ihr rs σ1 h K e2
        refine ⟨m2, rs2, σ2, h2, q1 ++ q2, ?_, f2, by simp [d2, f3], ?_, ?_, f6⟩
        · simp only [List.flatMap_cons]
          exact gops_append (gops_mono (gcall_mono (Nat.zero_le m2)) _ _ _ _ d1) f1
        · intro x hx
          rcases List.mem_append.1 hx with hx | hx
          · exact d3 x hx
          · exact f4 x hx
        · intro x hx
          rcases List.mem_append.1 hx with hx | hx
          · exact fun _ => .inl (d4 x hx)
          · exact f5 x hx

theorem meets_iff {a b : Rec} : meets a b = false ↔ ∀ i, ¬(i ∈ a.lg.w ∧ (i ∈ b.lg.r ∨ i ∈ b.lg.w ∨ (b.n0 ≤ i ∧ i < b.n1))) ∧ ¬(i ∈ b.lg.w ∧ (i ∈ a.lg.r ∨ i ∈ a.lg.w ∨ (a.n0 ≤ i ∧ i < a.n1))) ∧ ¬(i ∈ b.lg.r ∧ (i ∈ a.lg.w ∨ (a.n0 ≤ i ∧ i < a.n1))) ∧ ¬(i ∈ a.lg.r ∧ (i ∈ b.lg.w ∨ (b.n0 ≤ i ∧ i < b.n1))) := by
  have t : ∀ (x : Rec) i, touches x i = true ↔ (i ∈ x.lg.w ∨ (x.n0 ≤ i ∧ i < x.n1)) := fun x i => by
    unfold touches
    rw [Bool.or_eq_true, Bool.and_eq_true, List.contains_iff_mem]
    have h1 : Nat.ble x.n0 i = true ↔ x.n0 ≤ i := ⟨Nat.le_of_ble_eq_true, Nat.ble_eq_true_of_le⟩
    have h2 : Nat.blt i x.n1 = true ↔ i < x.n1 := ⟨fun h => Nat.le_of_ble_eq_true h, fun h => Nat.ble_eq_true_of_le h⟩
    rw [h1, h2]
  unfold meets
  simp only [Bool.or_eq_false_iff, List.any_eq_false, Bool.or_eq_true, t, List.contains_iff_mem]
  constructor
  · rintro ⟨⟨⟨h1, h2⟩, h3⟩, h4⟩ i
    exact ⟨fun h => h1 i h.1 h.2, fun h => h2 i h.1 h.2, fun h => h3 i h.1 h.2, fun h => h4 i h.1 h.2⟩
  · intro h
    exact ⟨⟨⟨fun i hi hx => (h i).1 ⟨hi, hx⟩, fun i hi hx => (h i).2.1 ⟨hi, hx⟩⟩, fun i hi hx => (h i).2.2.1 ⟨hi, hx⟩⟩, fun i hi hx => (h i).2.2.2 ⟨hi, hx⟩⟩
theorem meets_in {a b a' b' : Rec} (hab : a.n1 ≤ b.n0) (h1 : a'.n0 = a.n0) (h2 : a'.n1 = a.n1) (h3 : LogIn2 a.n0 a.n1 a.lg a'.lg) (k1 : b'.n0 = b.n0) (k2 : b'.n1 = b.n1) (k3 : LogIn2 b.n0 b.n1 b.lg b'.lg) (e : meets a' b' = false) : meets a b = false := by
  rw [meets_iff] at e ⊢
  intro i
  obtain ⟨e1, e2, e3, e4⟩ := e i
  rw [h1, h2, k1, k2] at *
  have q1 := h3.1 i
  have q2 := h3.2 i
  have q3 := k3.1 i
  have q4 := k3.2 i
  have no : ¬((a.n0 ≤ i ∧ i < a.n1) ∧ (b.n0 ≤ i ∧ i < b.n1)) := by omega
  generalize (a.n0 ≤ i ∧ i < a.n1) = An at *
  generalize (b.n0 ≤ i ∧ i < b.n1) = Bn at *
  generalize (i ∈ a.lg.r) = x1 at *
  generalize (i ∈ a.lg.w) = x2 at *
  generalize (i ∈ b.lg.r) = x3 at *
  generalize (i ∈ b.lg.w) = x4 at *
  generalize (i ∈ a'.lg.r) = y1 at *
  generalize (i ∈ a'.lg.w) = y2 at *
  generalize (i ∈ b'.lg.r) = y3 at *
  generalize (i ∈ b'.lg.w) = y4 at *
  clear h1 h2 k1 k2 h3 k3 hab
  refine ⟨?_, ?_, ?_, ?_⟩
  · rintro ⟨p, q⟩
    rcases q2 p with p | p
    · rcases q with q | q | q
      · rcases q3 q with q | q
        · exact e1 ⟨p, .inl q⟩
        · exact e1 ⟨p, .inr (.inr q)⟩
      · rcases q4 q with q | q
        · exact e1 ⟨p, .inr (.inl q)⟩
        · exact e1 ⟨p, .inr (.inr q)⟩
      · exact e1 ⟨p, .inr (.inr q)⟩
    · rcases q with q | q | q
      · rcases q3 q with q | q
        · exact e3 ⟨q, .inr p⟩
        · exact no ⟨p, q⟩
      · rcases q4 q with q | q
        · exact e2 ⟨q, .inr (.inr p)⟩
        · exact no ⟨p, q⟩
      · exact no ⟨p, q⟩
  · rintro ⟨p, q⟩
    rcases q4 p with p | p
    · rcases q with q | q | q
      · rcases q1 q with q | q
        · exact e2 ⟨p, .inl q⟩
        · exact e2 ⟨p, .inr (.inr q)⟩
      · rcases q2 q with q | q
        · exact e2 ⟨p, .inr (.inl q)⟩
        · exact e2 ⟨p, .inr (.inr q)⟩
      · exact e2 ⟨p, .inr (.inr q)⟩
    · rcases q with q | q | q
      · rcases q1 q with q | q
        · exact e4 ⟨q, .inr p⟩
        · exact no ⟨q, p⟩
      · rcases q2 q with q | q
        · exact e1 ⟨q, .inr (.inr p)⟩
        · exact no ⟨q, p⟩
      · exact no ⟨q, p⟩
  · rintro ⟨p, q⟩
    rcases q3 p with p | p
    · rcases q with q | q
      · rcases q2 q with q | q
        · exact e3 ⟨p, .inl q⟩
        · exact e3 ⟨p, .inr q⟩
      · exact e3 ⟨p, .inr q⟩
    · rcases q with q | q
      · rcases q2 q with q | q
        · exact e1 ⟨q, .inr (.inr p)⟩
        · exact no ⟨q, p⟩
      · exact no ⟨q, p⟩
  · rintro ⟨p, q⟩
    rcases q1 p with p | p
    · rcases q with q | q
      · rcases q4 q with q | q
        · exact e4 ⟨p, .inl q⟩
        · exact e4 ⟨p, .inr q⟩
      · exact e4 ⟨p, .inr q⟩
    · rcases q with q | q
      · rcases q4 q with q | q
        · exact e2 ⟨q, .inr (.inr p)⟩
        · exact no ⟨p, q⟩
      · exact no ⟨p, q⟩
theorem meets_nil {a b : Rec} (h : (a.lg = .nil ∧ a.n1 = a.n0) ∨ (b.lg = .nil ∧ b.n1 = b.n0)) : meets a b = false := by
  have t : ∀ x : Rec, x.lg = .nil → x.n1 = x.n0 → ∀ i, touches x i = false := by
    intro x h1 h2 i
    unfold touches
    rw [h1, h2]
    cases h3 : Nat.ble x.n0 i with
    | false => simp [Lg.nil]
    | true =>
      have := Nat.le_of_ble_eq_true h3
      cases h4 : Nat.blt i x.n0 with
      | false => simp [Lg.nil]
      | true => have := Nat.le_of_ble_eq_true h4; omega
  unfold meets
  rcases h with ⟨h1, h2⟩ | ⟨h1, h2⟩
  · simp only [h1, Lg.nil, List.any_nil, Bool.false_or, List.contains_nil, Bool.or_false, Bool.or_eq_false_iff]
    exact ⟨by rw [List.any_eq_false]; intro i _; simp [t a h1 h2], by rw [List.any_eq_false]; intro i _; simp [t a h1 h2]⟩
  · simp only [h1, Lg.nil, List.any_nil, Bool.false_or, List.contains_nil, Bool.or_false, Bool.or_eq_false_iff]
    exact ⟨by rw [List.any_eq_false]; intro i _; simp [t b h1 h2], by rw [List.any_eq_false]; intro i _; simp [t b h1 h2]⟩

theorem badIn_mem {m : List Nat} : ∀ (l : List Nat) (a b : Nat), (∃ l1 l2 l3, l = l1 ++ a :: (l2 ++ b :: l3)) → (m.getD b 0).testBit a = false → clash (effAt C ops a) (effAt C ops b) = true → (a, b) ∈ badIn C ops m l
  | [], a, b, ⟨l1, l2, l3, e⟩, _, _ => by simp at e
  | x :: l, a, b, ⟨l1, l2, l3, e⟩, ht, hc => by
    unfold badIn
    cases l1 with
    | nil =>
      simp only [List.nil_append, List.cons.injEq] at e
      obtain ⟨rfl, rfl⟩ := e
      refine List.mem_append.2 (.inl ?_)
      refine List.mem_map.2 ⟨b, List.mem_filter.2 ⟨by simp, by rw [ht, hc]; rfl⟩, rfl⟩
    | cons y l1 =>
      simp only [List.cons_append, List.cons.injEq] at e
      exact List.mem_append.2 (.inr (badIn_mem l a b ⟨l1, l2, l3, e.2⟩ ht hc))

theorem recsD_of {m : List Nat} {bad : List (Nat × Nat)} {rs : List Rec} (hbm : ∀ a b, (a, b) ∈ bad → inBad bad a = true ∧ inBad bad b = true) (hchk : chk bad rs = true) : ∀ (q : List Rec), (∀ x ∈ q, RecOk C ops x) → (∀ x ∈ q, RecIn bad rs x) → Ord q →
    (∀ (a b : Rec) (l1 l2 l3 : List Rec), q = l1 ++ a :: (l2 ++ b :: l3) → (m.getD b.j 0).testBit a.j = false → clash (effAt C ops a.j) (effAt C ops b.j) = true → (a.j, b.j) ∈ bad) → recsOk m q = true
  | [], _, _, _, _ => rfl
  | a :: q, hq, hin, ho, hb => by
    simp only [recsOk, Bool.and_eq_true, List.all_eq_true]
    refine ⟨fun b hbq => ?_, recsD_of hbm hchk q (fun x hx => hq x (by simp [hx])) (fun x hx => hin x (by simp [hx])) ho.2.2 fun a' b' l1 l2 l3 e => hb a' b' (a :: l1) l2 l3 (by rw [e]; rfl)⟩
    simp only [Bool.or_eq_true, Bool.not_eq_true']
    cases ht : (m.getD b.j 0).testBit a.j with
    | true => exact .inl rfl
    | false =>
      right
      cases hc : clash (effAt C ops a.j) (effAt C ops b.j) with
      | false => exact meets_of (ho.2.1 b hbq) (hq a (by simp)) (hq b (by simp [hbq])) hc
      | true =>
        obtain ⟨l2, l3, e⟩ := List.append_of_mem hbq
        have hmem := hb a b [] l2 l3 (by rw [e]; rfl) ht hc
        obtain ⟨i1, i2⟩ := hbm _ _ hmem
        rcases hin a (by simp) i1 with h1 | ⟨a', ha', e1, e2, e3, e4⟩
        · exact meets_nil (.inl h1)
        rcases hin b (by simp [hbq]) i2 with h1 | ⟨b', hb', f1, f2, f3, f4⟩
        · exact meets_nil (.inr h1)
        have := hchk
        unfold chk at this
        simp only [List.all_eq_true] at this
        have h2 := this _ hmem a' ha' b' hb'
        rw [e1, f1] at h2
        simp only [Nat.beq_refl, Bool.and_self, Bool.not_true, Bool.false_or, Bool.not_eq_true'] at h2
        exact meets_in (ho.2.1 b hbq) e2 e3 e4 f2 f3 f4 h2

theorem kregion_sound [XR C] {draw : Bool} {K : GS → Heap → Option R} (e : kregion P C (nω P C) (kω P C) nt ops draw σ h K = some r) :
    ∃ m σ' h' lg, gregion P C (gcall P C m) nt ops draw σ h = some (σ', h', lg) ∧ K σ' h' = some r := by
  unfold kregion at e
  cases hc : (grpOk ops (grp ops (List.range ops.size)) && (!draw || statOk C ops)) with
  | false =>
    simp only [hc, cond_false] at e
    cases hd : (grpOk ops (grp ops (List.range ops.size)) && dynOk C ops) with
    | false => simp only [hd, cond_false] at e; cases e
    | true =>
      simp only [hd, cond_true] at e
      simp only [Bool.and_eq_true] at hd
      obtain ⟨hd1, hd2⟩ := hd
      unfold dynOk at hd2
      simp only [Bool.and_eq_true, List.all_eq_true] at hd2
      have hbad : ∀ j, inBad (badOf C ops) j = true → logAt C ops j = true := by
        intro j hj
        unfold inBad at hj
        rw [List.any_eq_true] at hj
        obtain ⟨p, hp, hj⟩ := hj
        have := hd2.2 p hp
        simp only [Bool.or_eq_true, Nat.beq_eq] at hj
        rcases hj with rfl | rfl
        · exact this.1
        · exact this.2
      obtain ⟨m, rs', σ', h', q, e1, e2, e3, e4, e5, _⟩ := kgroupsD_sound hbad _ [] σ h _ (grp_guard _) hd1 e
      rw [grp_flat] at e1 e3
      cases hchk : chk (badOf C ops) rs' with
      | false => simp only [hchk, cond_false] at e2; cases e2
      | true =>
        simp only [hchk, cond_true] at e2
        refine ⟨m, σ', h', logOf q, ?_, e2⟩
        unfold gregion
        simp only [Option.bind_eq_bind, e1, Option.bind_some]
        by_cases hdr : draw = true
        · rw [if_pos hdr]
          have hrec : recsOk (masks ops) q = true := by
            refine recsD_of (bad := badOf C ops) (rs := rs') (fun a b hab => ⟨?_, ?_⟩) hchk q e4 e5 (gops_ord (gcall_frame m) _ _ _ _ _ _ e1).1 fun a b l1 l2 l3 heq ht hcl => ?_
            · unfold inBad; rw [List.any_eq_true]; exact ⟨_, hab, by simp⟩
            · unfold inBad; rw [List.any_eq_true]; exact ⟨_, hab, by simp⟩
            · refine badIn_mem _ _ _ ⟨l1.map (·.j), l2.map (·.j), l3.map (·.j), ?_⟩ ht hcl
              rw [← e3, heq]
              simp
          rw [if_pos ⟨hd2.1.1, hd2.1.2, hrec⟩]
        · rw [if_neg hdr]
  | true =>
    simp only [hc, cond_true] at e
    simp only [Bool.and_eq_true, Bool.or_eq_true, Bool.not_eq_true'] at hc
    obtain ⟨m, σ', h', q, e1, e2, e3, e4⟩ := kgroups_sound _ σ h K (grp_guard _) hc.1 e
    rw [grp_flat] at e1 e3
    refine ⟨m, σ', h', logOf q, ?_, e2⟩
    unfold gregion
    simp only [Option.bind_eq_bind, e1, Option.bind_some]
    by_cases hd : draw = true
    · rw [if_pos hd]
      have hs := hc.2.resolve_left (by simp [hd])
      unfold statOk at hs
      simp only [Bool.and_eq_true] at hs
      rw [if_pos ⟨hs.1.1, hs.1.2, recs_of q e4 (gops_ord (gcall_frame m) _ _ _ _ _ _ e1).1 (by rw [e3]; exact hs.2)⟩]
    · rw [if_neg hd]

/-- What a piece of code answers here, it answers there. -/
def CodeG (P : Program) (C : Cfg) (g : Nat → GR) (K : GX → GS → Heap → Option R) (r : R) : Prop :=
  ∃ m x σ' h' lg, g m = some (x, σ', h', lg) ∧ K x σ' h' = some r

theorem kloop_sound {body : GS → Heap → (GX → GS → Heap → Option R) → Option R} {g : Nat → GS → Heap → GR} (hm : ∀ m m' σ h r, m ≤ m' → g m σ h = some r → g m' σ h = some r)
    (hb : ∀ σ h K, body σ h K = some r → CodeG P C (fun m => g m σ h) K r) : ∀ (n : Nat) (σ : GS) (h : Heap) (K : GX → GS → Heap → Option R), kloop body n σ h K = some r → CodeG P C (fun m => gloop (g m) n σ h) K r
  | 0, σ, h, K, e => by cases e
  | n + 1, σ, h, K, e => by
    unfold kloop at e
    obtain ⟨m, x, σ', h', lg, h1, h2⟩ := hb _ _ _ e
    cases x with
    | nrm =>
      simp only at h2
      obtain ⟨m2, x2, σ2, hh2, lg2, h3, h4⟩ := kloop_sound hm hb n σ' h' K h2
      refine ⟨max m m2, x2, σ2, hh2, lg.add lg2, ?_, h4⟩
      simp only [gloop]
      rw [hm _ _ _ _ _ (Nat.le_max_left m m2) h1]
      simp only
      rw [gloop_mono (fun σ h r e => hm _ _ _ _ _ (Nat.le_max_right m m2) e) n n σ' h' _ (Nat.le_refl n) h3]
      rfl
    | ext id => exact ⟨m, .ext id, σ', h', lg, by have h1 := h1; (try dsimp only at h1); simp only [gloop, h1], h2⟩
    | ret => exact ⟨m, .ret, σ', h', lg, by have h1 := h1; (try dsimp only at h1); simp only [gloop, h1], h2⟩

theorem kcode_sound [XR C] {k : Nat} : ∀ (c : Code) (σ : GS) (h : Heap) (K : GX → GS → Heap → Option R), kcode P C (nω P C) (kω P C) k nt c σ h K = some r → CodeG P C (fun m => gcode P C (gcall P C m) k nt c σ h) K r
  | .skip, σ, h, K, e => ⟨0, .nrm, σ, h, .nil, rfl, e⟩
  | .region id ops draw, σ, h, K, e => by
    obtain ⟨m, σ', h', lg, h1, h2⟩ := kregion_sound (K := fun σ h => K .nrm σ h) e
    exact ⟨m, .nrm, σ', h', lg, by have h1 := h1; (try dsimp only at h1); simp only [gcode, h1]; rfl, h2⟩
  | .seq a b, σ, h, K, e => by
    obtain ⟨m, x, σ', h', lg, h1, h2⟩ := kcode_sound a σ h _ e
    cases x with
    | nrm =>
      simp only at h2
      obtain ⟨m2, x2, σ2, hh2, lg2, h3, h4⟩ := kcode_sound b σ' h' K h2
      refine ⟨max m m2, x2, σ2, hh2, lg.add lg2, ?_, h4⟩
      simp only [gcode]
      rw [gcode_mono (gcall_mono (Nat.le_max_left m m2)) (Nat.le_refl k) a _ _ _ h1]
      simp only
      rw [gcode_mono (gcall_mono (Nat.le_max_right m m2)) (Nat.le_refl k) b _ _ _ h3]
      rfl
    | ext id => exact ⟨m, .ext id, σ', h', lg, by have h1 := h1; (try dsimp only at h1); simp only [gcode, h1], h2⟩
    | ret => exact ⟨m, .ret, σ', h', lg, by have h1 := h1; (try dsimp only at h1); simp only [gcode, h1], h2⟩
  | .cond c a b, σ, h, K, e => by
    simp only [kcode, got_iff] at e
    obtain ⟨v, h1, e⟩ := e
    split at e
    · rename_i t
      cases t with
      | true =>
        obtain ⟨m, x, σ', h', lg, h2, h3⟩ := kcode_sound a σ h K e
        exact ⟨m, x, σ', h', lg, by simp only [gcode]; rw [h1]; exact h2, h3⟩
      | false =>
        obtain ⟨m, x, σ', h', lg, h2, h3⟩ := kcode_sound b σ h K e
        exact ⟨m, x, σ', h', lg, by simp only [gcode]; rw [h1]; exact h2, h3⟩
    · cases e
  | .block id c, σ, h, K, e => by
    obtain ⟨m, x, σ', h', lg, h1, h2⟩ := kcode_sound c σ h _ e
    cases x with
    | nrm => exact ⟨m, .nrm, σ', h', lg, by have h1 := h1; (try dsimp only at h1); simp only [gcode, h1], h2⟩
    | ret => exact ⟨m, .ret, σ', h', lg, by have h1 := h1; (try dsimp only at h1); simp only [gcode, h1], h2⟩
    | ext id' =>
      simp only at h2
      cases hb : Nat.beq id' id with
      | true =>
        simp only [hb, cond_true] at h2
        exact ⟨m, .nrm, σ', h', lg, by have h1 := h1; (try dsimp only at h1); simp only [gcode, h1]; simp [Nat.eq_of_beq_eq_true hb], h2⟩
      | false =>
        simp only [hb, cond_false] at h2
        exact ⟨m, .ext id', σ', h', lg, by have h1 := h1; (try dsimp only at h1); simp only [gcode, h1]; simp [Nat.ne_of_beq_eq_false hb], h2⟩
  | .loop c, σ, h, K, e => by
    exact kloop_sound (P := P) (C := C) (g := fun m => gcode P C (gcall P C m) k nt c) (fun m m' σ h r hm e => gcode_mono (gcall_mono hm) (Nat.le_refl k) c σ h r e)
      (fun σ h K e => kcode_sound c σ h K e) k σ h K e
  | .exit id, σ, h, K, e => ⟨0, .ext id, σ, h, .nil, rfl, e⟩
  | .ret, σ, h, K, e => ⟨0, .ret, σ, h, .nil, rfl, e⟩
  | .label l, σ, h, K, e => ⟨0, .nrm, σ, h, .nil, rfl, e⟩
  | .goto l, σ, h, K, e => by simp only [kcode] at e; cases e
  | .scope a, σ, h, K, e => by simp only [kcode] at e; cases e
  | .rangeFunc .., σ, h, K, e => by simp only [kcode] at e; cases e
  | .refuse _, σ, h, K, e => by simp only [kcode] at e; cases e

theorem kres_sound : ∀ (l : List ResultVar) (acc : List GV) (K : GV → Option R), kres P σ h l acc K = some r →
    ∃ ws, l.mapM (gresult P σ h) = some ws ∧ (match acc ++ ws.map (·.1) with | [v] => K v | vs => K (.tup vs)) = some r
  | [], acc, K, e => by
    refine ⟨[], rfl, ?_⟩
    simp only [List.map_nil, List.append_nil]
    match acc, e with
    | [], e => exact e
    | [v], e => exact e
    | a :: b :: l, e => exact e
  | .tmp t :: l, acc, K, e => by
    simp only [kres] at e
    obtain ⟨ws, h1, h2⟩ := kres_sound l _ K e
    exact ⟨(σ t, []) :: ws, by simp [List.mapM_cons, gresult, h1], by simpa using h2⟩
  | .cell a t :: l, acc, K, e => by
    simp only [kres] at e
    obtain ⟨v, h0, e⟩ := Option.bind_eq_some_iff.1 e
    obtain ⟨q, h3⟩ := kload_g h0
    obtain ⟨ws, h1, h2⟩ := kres_sound l _ K e
    exact ⟨(v, q) :: ws, by simp [List.mapM_cons, gresult, h1, h3], by simpa using h2⟩

theorem kfun_sound [XR C] {k : Nat} {f : FuncId} {args : List GV} {fin : GV → Heap → Option R} (e : kfun P C (nω P C) (kω P C) k f args h fin = some r) : ∃ v h', kω P C f args h = some (v, h') ∧ fin v h' = some r := by
  unfold kfun at e
  cases hf : P.funcs[f]? with
  | none => simp only [hf] at e; cases e
  | some fn =>
    simp only [hf] at e
    cases hb : fn.body with
    | none => simp only [hb] at e; cases e
    | some b =>
      simp only [hb] at e
      obtain ⟨m, x, σ', h', lg, h1, h2⟩ := kcode_sound b _ h _ e
      have key : kres P σ' h' fn.results.toList [] (fun v => fin v h') = some r → ∃ v l, gresults P fn σ' h' = some (v, l) ∧ fin v h' = some r := by
        intro e
        obtain ⟨ws, e1, e2⟩ := kres_sound _ _ _ e
        unfold gresults
        simp only [Option.bind_eq_bind, e1, Option.bind_some]
        simp only [List.nil_append] at e2
        match ws, e2 with
        | [], e2 => exact ⟨_, _, rfl, e2⟩
        | [v], e2 => exact ⟨_, _, rfl, e2⟩
        | a :: b :: l, e2 => exact ⟨_, _, rfl, e2⟩
      have fin' : ∀ y, (y = GX.nrm ∨ y = GX.ret) → gcode P C (gcall P C m) k (max args.length fn.ntmps) b (fun t => args.getD t .un) h = some (y, σ', h', lg) → (∃ v l, gresults P fn σ' h' = some (v, l) ∧ fin v h' = some r) → ∃ v h', kω P C f args h = some (v, h') ∧ fin v h' = some r := by
        rintro y hy e ⟨v, l, e1, e2⟩
        refine ⟨v, h', kω_some.2 ⟨max m k + 1, lg.add ⟨l, []⟩, ?_⟩, e2⟩
        simp only [gcall, hf, hb]
        rw [gcode_mono (gcall_mono (Nat.le_max_left m k)) (Nat.le_max_right m k) b _ _ _ e]
        rcases hy with rfl | rfl <;> simp [e1]
      cases x with
      | ext id => cases h2
      | nrm => exact fin' .nrm (.inl rfl) h1 (key h2)
      | ret => exact fin' .ret (.inr rfl) h1 (key h2)

/-- The two kinds of ends. -/
def finN (v : GV) (h : Heap) : Option GV := (frz 9 h v).map (·.1)
def finO (b : Nat) (v : GV) (h : Heap) : Option (GV × List (List GV)) := ownOk (v, h) b
/-- What a function hands back that hands back new memory. -/
noncomputable def oω (P : Program) (C : Cfg) (f : FuncId) (xs : List GV) (b : Nat) : Option (GV × List (List GV)) := (kω P C f xs []).bind fun r => ownOk r b
theorem oω_of [XR C] {k : Nat} {f : FuncId} {args : List GV} {b : Nat} {q : GV × List (List GV)} (e : kfun P C (nω P C) (kω P C) k f args [] (finO b) = some q) : oω P C f args b = some q := by
  obtain ⟨u, h', h1, h2⟩ := kfun_sound e
  unfold oω
  simp only [h1, Option.bind_some]
  exact h2
def finH (v : GV) (h : Heap) : Option (GV × Heap) := some (v, h)

theorem nω_of [XR C] {k : Nat} {f : FuncId} {args : List GV} {v : GV} (hx : C.ext f = none) (e : kfun P C (nω P C) (kω P C) k f args [] finN = some v) : nω P C f args = some v := by
  obtain ⟨u, h', h1, h2⟩ := kfun_sound e
  unfold nω
  simp only [hx, h1, Option.bind_some]
  exact h2
theorem kω_of [XR C] {k : Nat} {f : FuncId} {args : List GV} {v : GV} {h' : Heap} (e : kfun P C (nω P C) (kω P C) k f args h finH = some (v, h')) : kω P C f args h = some (v, h') := by
  obtain ⟨u, h2, h1, h3⟩ := kfun_sound e
  cases h3
  exact h1
end

end Go.Proofs.YtklhdbkaejbajaaDoor.G
