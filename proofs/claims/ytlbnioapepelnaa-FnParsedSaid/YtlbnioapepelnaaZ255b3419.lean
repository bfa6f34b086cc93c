/- What the machine with continuations answers, the machine G answers: regions, code, functions. Words and lemmas for what is printed: pieces of code one -/
import Derived.Test.YtlbnioapepelnaaZe9269fa9
import Derived.Test.YtlbnioapepelnaaProg
import Derived.KernelRfl
set_option linter.unusedSimpArgs false
set_option linter.unusedVariables false
namespace Go.Proofs.Ytlbnioapepelnaa.G
open Go.RowKit

section
variable {P : Program} {C : Cfg} {R : Type} {r : R} {h : Heap} {σ : GS} {nt : Nat} {ops : Array Oper}

theorem wanted_k {o : Oper} : Region.wanted o (gyield ops σ) = kwant ops σ o.guard := by
  unfold Region.wanted kwant
  cases o.guard with
  | none => rfl
  | some g =>
    obtain ⟨j, want⟩ := g
    simp only
    unfold gyield dstOf
    cases ops[j]? with
    | none => rfl
    | some o' =>
      simp only [Option.bind_some]
      cases o'.dst with
      | none => rfl
      | some d => cases hd : σ d <;> simp [hd, tr]

theorem guardEq_eq {a b : Option (Nat × Bool)} (e : guardEq a b = true) : a = b := by
  unfold guardEq at e
  split at e
  · rfl
  · simp only [Bool.and_eq_true, Nat.beq_eq, beq_iff_eq] at e
    rw [e.1, e.2]
  · cases e

theorem grp_flat : ∀ l : List Nat, (grp ops l).flatMap (·.2) = l
  | [] => rfl
  | j :: js => by
    have ih := grp_flat js
    unfold grp
    split
    · rename_i g l rest heq
      rw [heq] at ih
      simp only [List.flatMap_cons] at ih
      cases guardEq (guardOf ops j) g <;> simp [← ih]
    · rename_i heq
      rw [heq] at ih
      simp only [List.flatMap_nil] at ih
      simp [← ih]

theorem grp_guard : ∀ (l : List Nat), ∀ q ∈ grp ops l, ∀ j ∈ q.2, guardOf ops j = q.1
  | [], q, hq => by simp [grp] at hq
  | j :: js, q, hq => by
    have ih := grp_guard js
    unfold grp at hq
    split at hq
    · rename_i g l rest heq
      rw [heq] at ih
      cases hg : guardEq (guardOf ops j) g with
      | true =>
        simp only [hg, cond_true, List.mem_cons] at hq
        rcases hq with rfl | hq
        · intro i hi
          simp only [List.mem_cons] at hi
          rcases hi with rfl | hi
          · exact guardEq_eq hg
          · exact ih (g, l) (by simp) i hi
        · exact ih q (by simp [hq])
      | false =>
        simp only [hg, cond_false, List.mem_cons] at hq
        rcases hq with rfl | hq
        · intro i hi; simp at hi; subst hi; rfl
        · exact ih q (by simpa using hq)
    · simp only [List.mem_cons, List.not_mem_nil, or_false] at hq
      subst hq
      intro i hi; simp at hi; subst hi; rfl

structure RecOk (C : Cfg) (ops : Array Oper) (q : Rec) : Prop where
  r : (effAt C ops q.j).r = false → q.lg.r = []
  w : (effAt C ops q.j).w = false → q.lg.w = []
  a : (effAt C ops q.j).a = false → q.n1 = q.n0
  bd : (effAt C ops q.j).w = false → ∀ i ∈ q.lg.r, i < q.n1

theorem gops_append {call : GCall} : ∀ {l1 l2 : List Nat} {σ σ1 σ2 : GS} {h h1 h2 : Heap} {q1 q2 : List Rec}, gops P C call nt ops l1 σ h = some (σ1, h1, q1) → gops P C call nt ops l2 σ1 h1 = some (σ2, h2, q2) →
    gops P C call nt ops (l1 ++ l2) σ h = some (σ2, h2, q1 ++ q2)
  | [], l2, σ, σ1, σ2, h, h1, h2, q1, q2, e1, e2 => by
    simp only [gops, Option.some.injEq, Prod.mk.injEq] at e1
    obtain ⟨rfl, rfl, rfl⟩ := e1
    exact e2
  | j :: l1, l2, σ, σ1, σ2, h, h1, h2, q1, q2, e1, e2 => by
    simp only [List.cons_append]
    unfold gops at e1 ⊢
    cases hj : ops[j]? with
    | none => rw [hj] at e1; cases e1
    | some o =>
      rw [hj] at e1
      simp only at e1 ⊢
      split at e1
      · rename_i hd
        rw [if_pos hd]
        split at e1
        · rename_i hw
          rw [if_pos hw]
          simp only [Option.bind_eq_bind, obsi, Option.some.injEq, Prod.mk.injEq] at e1 ⊢
          obtain ⟨x, hx, ⟨σ3, h3, q3⟩, hy, rfl, rfl, rfl⟩ := e1
          exact ⟨x, hx, _, gops_append hy e2, rfl, rfl, rfl⟩
        · rename_i hw
          rw [if_neg hw]
          simp only [Option.bind_eq_bind, obsi, Option.some.injEq, Prod.mk.injEq] at e1 ⊢
          obtain ⟨⟨σ3, h3, q3⟩, hy, rfl, rfl, rfl⟩ := e1
          exact ⟨_, gops_append hy e2, rfl, rfl, rfl⟩
      · cases e1

theorem kwant_upd {g : Option (Nat × Bool)} {d : Option Tmp} {v : GV} (hne : ∀ i w, g = some (i, w) → dstEq d (dstOf ops i) = false) : kwant ops (upd σ d v) g = kwant ops σ g := by
  cases g with
  | none => rfl
  | some g =>
    obtain ⟨i, w⟩ := g
    have := hne i w rfl
    unfold kwant
    simp only
    cases hd : dstOf ops i with
    | none => rfl
    | some d' =>
      rw [hd] at this
      cases d with
      | none => rfl
      | some d =>
        simp only [dstEq] at this
        simp only [upd]
        cases hb : Nat.beq d' d with
        | false => rfl
        | true =>
          have := Nat.ne_of_beq_eq_false this
          exact absurd (Nat.eq_of_beq_eq_true hb).symm this

def OpsG (P : Program) (C : Cfg) (nt : Nat) (ops : Array Oper) (l : List Nat) (σ : GS) (h : Heap) (K : GS → Heap → Option R) (r : R) : Prop :=
  ∃ m σ' h' q, gops P C (gcall P C m) nt ops l σ h = some (σ', h', q) ∧ K σ' h' = some r ∧ q.map (·.j) = l ∧ ∀ x ∈ q, RecOk C ops x

theorem krun_sound {g : Option (Nat × Bool)} : ∀ (l : List Nat) (σ : GS) (h : Heap) (K : GS → Heap → Option R), (∀ j ∈ l, guardOf ops j = g) → (∀ i w, g = some (i, w) → ∀ j ∈ l, dstEq (dstOf ops j) (dstOf ops i) = false) → kwant ops σ g = true →
    krun P C (nω P C) (kω P C) nt ops l σ h K = some r → OpsG P C nt ops l σ h K r
  | [], σ, h, K, _, _, _, e => ⟨0, σ, h, [], rfl, e, rfl, by simp⟩
  | j :: l, σ, h, K, hg, hd, hw, e => by
    unfold krun at e
    cases hj : ops[j]? with
    | none => rw [hj] at e; cases e
    | some o =>
      rw [hj] at e
      simp only at e
      cases hdst : dstOk nt o.dst with
      | false => simp [hdst] at e
      | true =>
        simp only [hdst, cond_true] at e
        obtain ⟨m, v, h1, lg, h2, h3, h4⟩ := kop_sound (fun g => rfl) e
        have hgo : o.guard = g := by have := hg j (by simp); simpa [guardOf, hj] using this
        have hdj : dstOf ops j = o.dst := by simp [dstOf, hj]
        have hw' : kwant ops (upd σ o.dst v) g = true := by
          rw [kwant_upd fun i w hi => by have := hd i w hi j (by simp); rwa [hdj] at this]; exact hw
        obtain ⟨m2, σ2, hh2, q, h5, h6, h7, h8⟩ := krun_sound l _ _ K (fun i hi => hg i (by simp [hi])) (fun i w hi k hk => hd i w hi k (by simp [hk])) hw' h3
        refine ⟨max m m2, σ2, hh2, ⟨j, h.length, h1.length, lg⟩ :: q, ?_, h6, by simp [h7], ?_⟩
        · unfold gops
          rw [hj]
          simp only
          rw [if_pos hdst, if_pos (by rw [wanted_k, hgo]; exact hw)]
          simp only [Option.bind_eq_bind]
          rw [gop_mono (gcall_mono (Nat.le_max_left m m2)) h2]
          simp only [Option.bind_some]
          rw [gops_mono (gcall_mono (Nat.le_max_right m m2)) _ _ _ _ h5]
          rfl
        · intro x hx
          simp only [List.mem_cons] at hx
          rcases hx with rfl | hx
          · have he : effAt C ops j = effOf C o.op := by simp [effAt, hj]
            exact ⟨by simp only [he]; exact h4.r, by simp only [he]; exact h4.w, by simp only [he]; exact h4.a, by simp only [he]; exact h4.bd⟩
          · exact h8 x hx

theorem kskip_sound {g : Option (Nat × Bool)} : ∀ (l : List Nat) (σ σ' : GS) (h : Heap), (∀ j ∈ l, guardOf ops j = g) → (∀ i w, g = some (i, w) → ∀ j ∈ l, dstEq (dstOf ops j) (dstOf ops i) = false) → kwant ops σ g = false →
    kskip nt ops l σ = some σ' → ∃ q, gops P C (gcall P C 0) nt ops l σ h = some (σ', h, q) ∧ q.map (·.j) = l ∧ ∀ x ∈ q, RecOk C ops x
  | [], σ, σ', h, _, _, _, e => by simp only [kskip, Option.some.injEq] at e; subst e; exact ⟨[], rfl, rfl, by simp⟩
  | j :: l, σ, σ', h, hg, hd, hw, e => by
    unfold kskip at e
    cases hj : ops[j]? with
    | none => rw [hj] at e; cases e
    | some o =>
      rw [hj] at e
      simp only at e
      cases hdst : dstOk nt o.dst with
      | false => simp [hdst] at e
      | true =>
        simp only [hdst, cond_true] at e
        have hgo : o.guard = g := by have := hg j (by simp); simpa [guardOf, hj] using this
        have hdj : dstOf ops j = o.dst := by simp [dstOf, hj]
        have hw' : kwant ops (upd σ o.dst .un) g = false := by
          rw [kwant_upd fun i w hi => by have := hd i w hi j (by simp); rwa [hdj] at this]; exact hw
        obtain ⟨q, h5, h7, h8⟩ := kskip_sound l _ σ' h (fun i hi => hg i (by simp [hi])) (fun i w hi k hk => hd i w hi k (by simp [hk])) hw' e
        refine ⟨⟨j, h.length, h.length, .nil⟩ :: q, ?_, by simp [h7], ?_⟩
        · unfold gops
          rw [hj]
          simp only
          rw [if_pos hdst, if_neg (by rw [wanted_k, hgo, hw]; simp)]
          simp only [Option.bind_eq_bind]
          rw [h5]
          rfl
        · intro x hx
          simp only [List.mem_cons] at hx
          rcases hx with rfl | hx
          · exact ⟨fun _ => rfl, fun _ => rfl, fun _ => rfl, fun _ i hi => by cases hi⟩
          · exact h8 x hx

theorem kskip_soundN {g : Option (Nat × Bool)} : ∀ (l : List Nat) (σ σ' : GS) (h : Heap), (∀ j ∈ l, guardOf ops j = g) → (∀ i w, g = some (i, w) → ∀ j ∈ l, dstEq (dstOf ops j) (dstOf ops i) = false) → kwant ops σ g = false →
    kskip nt ops l σ = some σ' → ∃ q, gops P C (gcall P C 0) nt ops l σ h = some (σ', h, q) ∧ q.map (·.j) = l ∧ (∀ x ∈ q, RecOk C ops x) ∧ ∀ x ∈ q, x.lg = .nil ∧ x.n1 = x.n0
  | [], σ, σ', h, _, _, _, e => by simp only [kskip, Option.some.injEq] at e; subst e; exact ⟨[], rfl, rfl, by simp, by simp⟩
  | j :: l, σ, σ', h, hg, hd, hw, e => by
    unfold kskip at e
    cases hj : ops[j]? with
    | none => rw [hj] at e; cases e
    | some o =>
      rw [hj] at e
      simp only at e
      cases hdst : dstOk nt o.dst with
      | false => simp [hdst] at e
      | true =>
        simp only [hdst, cond_true] at e
        have hgo : o.guard = g := by have := hg j (by simp); simpa [guardOf, hj] using this
        have hdj : dstOf ops j = o.dst := by simp [dstOf, hj]
        have hw' : kwant ops (upd σ o.dst .un) g = false := by
          rw [kwant_upd fun i w hi => by have := hd i w hi j (by simp); rwa [hdj] at this]; exact hw
        obtain ⟨q, h5, h7, h8, h9⟩ := kskip_soundN l _ σ' h (fun i hi => hg i (by simp [hi])) (fun i w hi k hk => hd i w hi k (by simp [hk])) hw' e
        refine ⟨⟨j, h.length, h.length, .nil⟩ :: q, ?_, by simp [h7], ?_, ?_⟩
        · unfold gops
          rw [hj]
          simp only
          rw [if_pos hdst, if_neg (by rw [wanted_k, hgo, hw]; simp)]
          simp only [Option.bind_eq_bind]
          rw [h5]
          rfl
        · intro x hx
          simp only [List.mem_cons] at hx
          rcases hx with rfl | hx
          · exact ⟨fun _ => rfl, fun _ => rfl, fun _ => rfl, fun _ i hi => by cases hi⟩
          · exact h8 x hx
        · intro x hx
          simp only [List.mem_cons] at hx
          rcases hx with rfl | hx
          · exact ⟨rfl, rfl⟩
          · exact h9 x hx

theorem kgroups_sound : ∀ (gs : List (Option (Nat × Bool) × List Nat)) (σ : GS) (h : Heap) (K : GS → Heap → Option R), (∀ q ∈ gs, ∀ j ∈ q.2, guardOf ops j = q.1) → grpOk ops gs = true →
    kgroups P C (nω P C) (kω P C) nt ops gs σ h K = some r → OpsG P C nt ops (gs.flatMap (·.2)) σ h K r
  | [], σ, h, K, _, _, e => ⟨0, σ, h, [], rfl, e, rfl, by simp⟩
  | (g, js) :: rest, σ, h, K, hg, hok, e => by
    have hokr : grpOk ops rest = true := by
      unfold grpOk at hok ⊢
      simp only [List.all_cons, Bool.and_eq_true] at hok
      exact hok.2
    have hd : ∀ i w, g = some (i, w) → ∀ j ∈ js, dstEq (dstOf ops j) (dstOf ops i) = false := by
      intro i w hi j hj
      subst hi
      unfold grpOk at hok
      simp only [List.all_cons, Bool.and_eq_true, List.all_eq_true, Bool.not_eq_true'] at hok
      exact hok.1 j hj
    have hgj : ∀ j ∈ js, guardOf ops j = g := fun j hj => hg (g, js) (by simp) j hj
    have ihr := fun σ h K => kgroups_sound rest σ h K (fun q hq => hg q (by simp [hq])) hokr
    have run : kwant ops σ g = true → krun P C (nω P C) (kω P C) nt ops js σ h (fun σ h => kgroups P C (nω P C) (kω P C) nt ops rest σ h K) = some r → OpsG P C nt ops (((g, js) :: rest).flatMap (·.2)) σ h K r := by
      intro hw e
      obtain ⟨m, σ1, h1, q1, e1, e2, e3, e4⟩ := krun_sound js σ h _ hgj hd hw e
      obtain ⟨m2, σ2, h2, q2, f1, f2, f3, f4⟩ := ihr σ1 h1 K e2
      refine ⟨max m m2, σ2, h2, q1 ++ q2, ?_, f2, by simp [e3, f3], ?_⟩
      · simp only [List.flatMap_cons]
        exact gops_append (gops_mono (gcall_mono (Nat.le_max_left m m2)) _ _ _ _ e1) (gops_mono (gcall_mono (Nat.le_max_right m m2)) _ _ _ _ f1)
      · intro x hx
        rcases List.mem_append.1 hx with hx | hx
        · exact e4 x hx
        · exact f4 x hx
    cases g with
    | none => exact run rfl (by simpa only [kgroups] using e)
    | some g =>
      simp only [kgroups] at e
      cases hw : kwant ops σ (some g) with
      | true =>
        simp only [hw, cond_true] at e
        exact run hw e
      | false =>
        simp only [hw, cond_false, got_iff] at e
        obtain ⟨σ1, e1, e2⟩ := e
        obtain ⟨q1, d1, d2, d3⟩ := kskip_sound (P := P) (C := C) js σ σ1 h hgj hd hw e1
        obtain ⟨m2, σ2, h2, q2, f1, f2, f3, f4⟩ := ihr σ1 h K e2
        refine ⟨m2, σ2, h2, q1 ++ q2, ?_, f2, by simp [d2, f3], ?_⟩
        · simp only [List.flatMap_cons]
          exact gops_append (gops_mono (gcall_mono (Nat.zero_le m2)) _ _ _ _ d1) f1
        · intro x hx
          rcases List.mem_append.1 hx with hx | hx
          · exact d3 x hx
          · exact f4 x hx

theorem meets_of {a b : Rec} (hab : a.n1 ≤ b.n0) (ha : RecOk C ops a) (hb : RecOk C ops b) (hc : clash (effAt C ops a.j) (effAt C ops b.j) = false) : meets a b = false := by
  unfold clash at hc
  simp only [Bool.or_eq_false_iff, Bool.and_eq_false_iff] at hc
  have t : ∀ x : Rec, RecOk C ops x → (effAt C ops x.j).w = false → (effAt C ops x.j).a = false → ∀ i, touches x i = false := by
    intro x hx h1 h2 i
    unfold touches
    rw [hx.w h1, hx.a h2]
    cases h3 : Nat.ble x.n0 i with
    | false => simp
    | true =>
      have := Nat.le_of_ble_eq_true h3
      cases h4 : Nat.blt i x.n0 with
      | false => simp
      | true => have := Nat.le_of_ble_eq_true h4; omega
  unfold meets
  simp only [Bool.or_eq_false_iff]
  refine ⟨⟨⟨?_, ?_⟩, ?_⟩, ?_⟩
  · rcases hc.1.1 with h | h
    · simp [ha.w h]
    · rw [List.any_eq_false]
      intro i _
      simp [hb.r h.1.1, t b hb h.1.2 h.2]
  · rcases hc.1.2 with h | h
    · simp [hb.w h]
    · rw [List.any_eq_false]
      intro i _
      simp [ha.r h.1.1, t a ha h.1.2 h.2]
  · rcases hc.2 with h | h
    · simp [hb.r h]
    · rcases hc.1.1 with h1 | h1
      · rw [List.any_eq_false]; intro i _; simp [t a ha h1 h]
      · simp [hb.r h1.1.1]
  · rw [List.any_eq_false]
    intro i hi
    rcases hc.1.2 with h | h
    · rcases hc.1.1 with h1 | h1
      · have hlt := ha.bd h1 i hi
        cases hbw : (effAt C ops b.j).w with
        | false =>
          unfold touches
          rw [hb.w hbw]
          have : Nat.ble b.n0 i = false := by
            cases h3 : Nat.ble b.n0 i with
            | false => rfl
            | true => have := Nat.le_of_ble_eq_true h3; omega
          simp [this]
        | true => rw [h] at hbw; cases hbw
      · simp [t b hb h h1.2]
    · have := ha.r h.1.1
      rw [this] at hi
      cases hi

def Ord : List Rec → Prop
  | [] => True
  | a :: q => a.n0 ≤ a.n1 ∧ (∀ b ∈ q, a.n1 ≤ b.n0) ∧ Ord q

theorem recs_of {m : List Nat} : ∀ (q : List Rec), (∀ x ∈ q, RecOk C ops x) → Ord q → statIn C ops m (q.map (·.j)) = true → recsOk m q = true
  | [], _, _, _ => rfl
  | a :: q, hq, ho, e => by
    simp only [List.map_cons, statIn, Bool.and_eq_true, List.all_eq_true] at e
    simp only [recsOk, Bool.and_eq_true, List.all_eq_true]
    refine ⟨fun b hb => ?_, recs_of q (fun x hx => hq x (by simp [hx])) ho.2.2 e.2⟩
    have := e.1 b.j (List.mem_map.2 ⟨b, hb, rfl⟩)
    simp only [Bool.or_eq_true, Bool.not_eq_true'] at this ⊢
    exact this.imp id fun h => meets_of (ho.2.1 b hb) (hq a (by simp)) (hq b (by simp [hb])) h

theorem gops_ord {call : GCall} (hcl : CFrame call) : ∀ (l : List Nat) (σ σ' : GS) (h h' : Heap) (q : List Rec), gops P C call nt ops l σ h = some (σ', h', q) →
    Ord q ∧ h.length ≤ h'.length ∧ ∀ b ∈ q, h.length ≤ b.n0
  | [], σ, σ', h, h', q, e => by
    simp only [gops, Option.some.injEq, Prod.mk.injEq] at e
    obtain ⟨_, rfl, rfl⟩ := e
    exact ⟨trivial, Nat.le_refl _, by simp⟩
  | j :: l, σ, σ', h, h', q, e => by
    unfold gops at e
    cases hj : ops[j]? with
    | none => rw [hj] at e; cases e
    | some o =>
      rw [hj] at e
      simp only at e
      split at e
      · split at e
        · simp only [Option.bind_eq_bind, obsi, Option.some.injEq, Prod.mk.injEq] at e
          obtain ⟨⟨v, h1, lg⟩, hx, ⟨σ3, h3, q3⟩, hy, rfl, rfl, rfl⟩ := e
          have hl := (gop_frame hcl hx).len
          obtain ⟨i1, i2, i3⟩ := gops_ord hcl l _ _ _ _ _ hy
          refine ⟨⟨hl, i3, i1⟩, Nat.le_trans hl i2, fun b hb => ?_⟩
          simp only [List.mem_cons] at hb
          rcases hb with rfl | hb
          · exact Nat.le_refl _
          · exact Nat.le_trans hl (i3 b hb)
        · simp only [Option.bind_eq_bind, obsi, Option.some.injEq, Prod.mk.injEq] at e
          obtain ⟨⟨σ3, h3, q3⟩, hy, rfl, rfl, rfl⟩ := e
          obtain ⟨i1, i2, i3⟩ := gops_ord hcl l _ _ _ _ _ hy
          refine ⟨⟨Nat.le_refl _, i3, i1⟩, i2, fun b hb => ?_⟩
          simp only [List.mem_cons] at hb
          rcases hb with rfl | hb
          · exact Nat.le_refl _
          · exact i3 b hb
      · cases e

def RecIn (bad : List (Nat × Nat)) (rs : List Rec) (x : Rec) : Prop :=
  inBad bad x.j = true → (x.lg = .nil ∧ x.n1 = x.n0) ∨ ∃ y ∈ rs, y.j = x.j ∧ y.n0 = x.n0 ∧ y.n1 = x.n1 ∧ LogIn2 x.n0 x.n1 x.lg y.lg

theorem RecIn.more {bad : List (Nat × Nat)} {rs rs' : List Rec} {x : Rec} (h : RecIn bad rs x) (hs : ∀ y ∈ rs, y ∈ rs') : RecIn bad rs' x := fun hb =>
  (h hb).imp id fun ⟨y, h1, h2⟩ => ⟨y, hs y h1, h2⟩

def OpsD (P : Program) (C : Cfg) (nt : Nat) (ops : Array Oper) (bad : List (Nat × Nat)) (l : List Nat) (rs : List Rec) (σ : GS) (h : Heap) (K : List Rec → GS → Heap → Option R) (r : R) : Prop :=
  ∃ m rs' σ' h' q, gops P C (gcall P C m) nt ops l σ h = some (σ', h', q) ∧ K rs' σ' h' = some r ∧ q.map (·.j) = l ∧ (∀ x ∈ q, RecOk C ops x) ∧ (∀ x ∈ q, RecIn bad rs' x) ∧ (∀ y ∈ rs, y ∈ rs')

theorem krunD_sound [XR C] {bad : List (Nat × Nat)} (hbad : ∀ j, inBad bad j = true → logAt C ops j = true) {g : Option (Nat × Bool)} : ∀ (l : List Nat) (rs : List Rec) (σ : GS) (h : Heap) (K : List Rec → GS → Heap → Option R), (∀ j ∈ l, guardOf ops j = g) → (∀ i w, g = some (i, w) → ∀ j ∈ l, dstEq (dstOf ops j) (dstOf ops i) = false) → kwant ops σ g = true →
    krunD P C (nω P C) (kω P C) nt ops bad l rs σ h K = some r → OpsD P C nt ops bad l rs σ h K r
  | [], rs, σ, h, K, _, _, _, e => ⟨0, rs, σ, h, [], rfl, e, rfl, by simp, by simp, fun _ h => h⟩
  | j :: l, rs, σ, h, K, hg, hd, hw, e => by
    unfold krunD at e
    cases hj : ops[j]? with
    | none => rw [hj] at e; cases e
    | some o =>
      rw [hj] at e
      simp only at e
      cases hdst : dstOk nt o.dst with
      | false => simp [hdst] at e
      | true =>
        simp only [hdst, cond_true] at e
        obtain ⟨hfn, e⟩ : (!inBad bad j || kfine C (eval σ) h o.op) = true ∧ kop P C (nω P C) (kω P C) (eval σ) o h (fun v h1 => krunD P C (nω P C) (kω P C) nt ops bad l (bif inBad bad j then rs ++ [⟨j, h.length, h1.length, klog C (eval σ) h o.op⟩] else rs) (upd σ o.dst v) h1 K) = some r := by
          unfold kchk at e
          cases hfn : (!inBad bad j || kfine C (eval σ) h o.op) with
          | false => rw [hfn] at e; cases e
          | true => rw [hfn] at e; exact ⟨rfl, e⟩
        obtain ⟨m, v, h1, lg, h2, h3, h4⟩ := kop_sound (fun g => rfl) e
        have hgo : o.guard = g := by have := hg j (by simp); simpa [guardOf, hj] using this
        have hdj : dstOf ops j = o.dst := by simp [dstOf, hj]
        have hw' : kwant ops (upd σ o.dst v) g = true := by
          rw [kwant_upd fun i w hi => by have := hd i w hi j (by simp); rwa [hdj] at this]; exact hw
        obtain ⟨m2, rs2, σ2, hh2, q, h5, h6, h7, h8, h9, h10⟩ := krunD_sound hbad l _ _ _ K (fun i hi => hg i (by simp [hi])) (fun i w hi k hk => hd i w hi k (by simp [hk])) hw' h3
        refine ⟨max m m2, rs2, σ2, hh2, ⟨j, h.length, h1.length, lg⟩ :: q, ?_, h6, by simp [h7], ?_, ?_, ?_⟩
        · unfold gops
          rw [hj]
          simp only
          rw [if_pos hdst, if_pos (by rw [wanted_k, hgo]; exact hw)]
          simp only [Option.bind_eq_bind]
          rw [gop_mono (gcall_mono (Nat.le_max_left m m2)) h2]
          simp only [Option.bind_some]
          rw [gops_mono (gcall_mono (Nat.le_max_right m m2)) _ _ _ _ h5]
          rfl
        · intro x hx
          simp only [List.mem_cons] at hx
          rcases hx with rfl | hx
          · have he : effAt C ops j = effOf C o.op := by simp [effAt, hj]
            exact ⟨by simp only [he]; exact h4.r, by simp only [he]; exact h4.w, by simp only [he]; exact h4.a, by simp only [he]; exact h4.bd⟩
          · exact h8 x hx
        · intro x hx
          simp only [List.mem_cons] at hx
          rcases hx with rfl | hx
          · intro hb
            have hlo : logOk C o.op = true := by have := hbad j hb; simpa [logAt, hj] using this
            refine .inr ⟨⟨j, h.length, h1.length, klog C (eval σ) h o.op⟩, h10 _ ?_, rfl, rfl, rfl, gop_klog XR.x (gcall_reach XR.x m) (fun g => rfl) h2 hlo (by have hb0 : inBad bad j = true := hb; simpa [hb0] using hfn) h4⟩
            have hb' : inBad bad j = true := hb
            simp [hb']
          · exact h9 x hx
        · intro y hy
          apply h10
          cases inBad bad j <;> simp [hy]

theorem kgroupsD_sound [XR C] {bad : List (Nat × Nat)} (hbad : ∀ j, inBad bad j = true → logAt C ops j = true) : ∀ (gs : List (Option (Nat × Bool) × List Nat)) (rs : List Rec) (σ : GS) (h : Heap) (K : List Rec → GS → Heap → Option R), (∀ q ∈ gs, ∀ j ∈ q.2, guardOf ops j = q.1) → grpOk ops gs = true →
    kgroupsD P C (nω P C) (kω P C) nt ops bad gs rs σ h K = some r → OpsD P C nt ops bad (gs.flatMap (·.2)) rs σ h K r
  | [], rs, σ, h, K, _, _, e => ⟨0, rs, σ, h, [], rfl, e, rfl, by simp, by simp, fun _ h => h⟩
  | (g, js) :: rest, rs, σ, h, K, hg, hok, e => by
    have hokr : grpOk ops rest = true := by
      unfold grpOk at hok ⊢
      simp only [List.all_cons, Bool.and_eq_true] at hok
      exact hok.2
    have hd : ∀ i w, g = some (i, w) → ∀ j ∈ js, dstEq (dstOf ops j) (dstOf ops i) = false := by
      intro i w hi j hj
      subst hi
      unfold grpOk at hok
      simp only [List.all_cons, Bool.and_eq_true, List.all_eq_true, Bool.not_eq_true'] at hok
      exact hok.1 j hj
    have hgj : ∀ j ∈ js, guardOf ops j = g := fun j hj => hg (g, js) (by simp) j hj
    have ihr := fun rs σ h K => kgroupsD_sound hbad rest rs σ h K (fun q hq => hg q (by simp [hq])) hokr
    have run : kwant ops σ g = true → krunD P C (nω P C) (kω P C) nt ops bad js rs σ h (fun rs σ h => kgroupsD P C (nω P C) (kω P C) nt ops bad rest rs σ h K) = some r → OpsD P C nt ops bad (((g, js) :: rest).flatMap (·.2)) rs σ h K r := by
      intro hw e
      obtain ⟨m, rs1, σ1, h1, q1, e1, e2, e3, e4, e5, e6⟩ := krunD_sound hbad js rs σ h _ hgj hd hw e
      obtain ⟨m2, rs2, σ2, h2, q2, f1, f2, f3, f4, f5, f6⟩ := ihr rs1 σ1 h1 K e2
      refine ⟨max m m2, rs2, σ2, h2, q1 ++ q2, ?_, f2, by simp [e3, f3], ?_, ?_, fun y hy => f6 y (e6 y hy)⟩
      · simp only [List.flatMap_cons]
        exact gops_append (gops_mono (gcall_mono (Nat.le_max_left m m2)) _ _ _ _ e1) (gops_mono (gcall_mono (Nat.le_max_right m m2)) _ _ _ _ f1)
      · intro x hx
        rcases List.mem_append.1 hx with hx | hx
        · exact e4 x hx
        · exact f4 x hx
      · intro x hx
        rcases List.mem_append.1 hx with hx | hx
        · exact (e5 x hx).more f6
        · exact f5 x hx
    cases g with
    | none => exact run rfl (by simpa only [kgroupsD] using e)
    | some g =>
      simp only [kgroupsD] at e
      cases hw : kwant ops σ (some g) with
      | true =>
        simp only [hw, cond_true] at e
        exact run hw e
      | false =>
        simp only [hw, cond_false, got_iff] at e
        obtain ⟨σ1, e1, e2⟩ := e
        obtain ⟨q1, d1, d2, d3, d4⟩ := kskip_soundN (P := P) (C := C) js σ σ1 h hgj hd hw e1
        obtain ⟨m2, rs2, σ2, h2, q2, f1, f2, f3, f4, f5, f6⟩ := ihr rs σ1 h K e2
        refine ⟨m2, rs2, σ2, h2, q1 ++ q2, ?_, f2, by simp [d2, f3], ?_, ?_, f6⟩
        · simp only [List.flatMap_cons]
          exact gops_append (gops_mono (gcall_mono (Nat.zero_le m2)) _ _ _ _ d1) f1
        · intro x hx
          rcases List.mem_append.1 hx with hx | hx
          · exact d3 x hx
          · exact f4 x hx
        · intro x hx
          rcases List.mem_append.1 hx with hx | hx
          · exact fun _ => .inl (d4 x hx)
          · exact f5 x hx

theorem meets_iff {a b : Rec} : meets a b = false ↔ ∀ i, ¬(i ∈ a.lg.w ∧ (i ∈ b.lg.r ∨ i ∈ b.lg.w ∨ (b.n0 ≤ i ∧ i < b.n1))) ∧ ¬(i ∈ b.lg.w ∧ (i ∈ a.lg.r ∨ i ∈ a.lg.w ∨ (a.n0 ≤ i ∧ i < a.n1))) ∧ ¬(i ∈ b.lg.r ∧ (i ∈ a.lg.w ∨ (a.n0 ≤ i ∧ i < a.n1))) ∧ ¬(i ∈ a.lg.r ∧ (i ∈ b.lg.w ∨ (b.n0 ≤ i ∧ i < b.n1))) := by
  have t : ∀ (x : Rec) i, touches x i = true ↔ (i ∈ x.lg.w ∨ (x.n0 ≤ i ∧ i < x.n1)) := fun x i => by
    unfold touches
    rw [Bool.or_eq_true, Bool.and_eq_true, List.contains_iff_mem]
    have h1 : Nat.ble x.n0 i = true ↔ x.n0 ≤ i := ⟨Nat.le_of_ble_eq_true, Nat.ble_eq_true_of_le⟩
    have h2 : Nat.blt i x.n1 = true ↔ i < x.n1 := ⟨fun h => Nat.le_of_ble_eq_true h, fun h => Nat.ble_eq_true_of_le h⟩
    rw [h1, h2]
  unfold meets
  simp only [Bool.or_eq_false_iff, List.any_eq_false, Bool.or_eq_true, t, List.contains_iff_mem]
  constructor
  · rintro ⟨⟨⟨h1, h2⟩, h3⟩, h4⟩ i
    exact ⟨fun h => h1 i h.1 h.2, fun h => h2 i h.1 h.2, fun h => h3 i h.1 h.2, fun h => h4 i h.1 h.2⟩
  · intro h
    exact ⟨⟨⟨fun i hi hx => (h i).1 ⟨hi, hx⟩, fun i hi hx => (h i).2.1 ⟨hi, hx⟩⟩, fun i hi hx => (h i).2.2.1 ⟨hi, hx⟩⟩, fun i hi hx => (h i).2.2.2 ⟨hi, hx⟩⟩
theorem meets_in {a b a' b' : Rec} (hab : a.n1 ≤ b.n0) (h1 : a'.n0 = a.n0) (h2 : a'.n1 = a.n1) (h3 : LogIn2 a.n0 a.n1 a.lg a'.lg) (k1 : b'.n0 = b.n0) (k2 : b'.n1 = b.n1) (k3 : LogIn2 b.n0 b.n1 b.lg b'.lg) (e : meets a' b' = false) : meets a b = false := by
  rw [meets_iff] at e ⊢
  intro i
  obtain ⟨e1, e2, e3, e4⟩ := e i
  rw [h1, h2, k1, k2] at *
  have q1 := h3.1 i
  have q2 := h3.2 i
  have q3 := k3.1 i
  have q4 := k3.2 i
  have no : ¬((a.n0 ≤ i ∧ i < a.n1) ∧ (b.n0 ≤ i ∧ i < b.n1)) := by omega
  generalize (a.n0 ≤ i ∧ i < a.n1) = An at *
  generalize (b.n0 ≤ i ∧ i < b.n1) = Bn at *
  generalize (i ∈ a.lg.r) = x1 at *
  generalize (i ∈ a.lg.w) = x2 at *
  generalize (i ∈ b.lg.r) = x3 at *
  generalize (i ∈ b.lg.w) = x4 at *
  generalize (i ∈ a'.lg.r) = y1 at *
  generalize (i ∈ a'.lg.w) = y2 at *
  generalize (i ∈ b'.lg.r) = y3 at *
  generalize (i ∈ b'.lg.w) = y4 at *
  clear h1 h2 k1 k2 h3 k3 hab
  refine ⟨?_, ?_, ?_, ?_⟩
  · rintro ⟨p, q⟩
    rcases q2 p with p | p
    · rcases q with q | q | q
      · rcases q3 q with q | q
        · exact e1 ⟨p, .inl q⟩
        · exact e1 ⟨p, .inr (.inr q)⟩
      · rcases q4 q with q | q
        · exact e1 ⟨p, .inr (.inl q)⟩
        · exact e1 ⟨p, .inr (.inr q)⟩
      · exact e1 ⟨p, .inr (.inr q)⟩
    · rcases q with q | q | q
      · rcases q3 q with q | q
        · exact e3 ⟨q, .inr p⟩
        · exact no ⟨p, q⟩
      · rcases q4 q with q | q
        · exact e2 ⟨q, .inr (.inr p)⟩
        · exact no ⟨p, q⟩
      · exact no ⟨p, q⟩
  · rintro ⟨p, q⟩
    rcases q4 p with p | p
    · rcases q with q | q | q
      · rcases q1 q with q | q
        · exact e2 ⟨p, .inl q⟩
        · exact e2 ⟨p, .inr (.inr q)⟩
      · rcases q2 q with q | q
        · exact e2 ⟨p, .inr (.inl q)⟩
        · exact e2 ⟨p, .inr (.inr q)⟩
      · exact e2 ⟨p, .inr (.inr q)⟩
    · rcases q with q | q | q
      · rcases q1 q with q | q
        · exact e4 ⟨q, .inr p⟩
        · exact no ⟨q, p⟩
      · rcases q2 q with q | q
        · exact e1 ⟨q, .inr (.inr p)⟩
        · exact no ⟨q, p⟩
      · exact no ⟨q, p⟩
  · rintro ⟨p, q⟩
    rcases q3 p with p | p
    · rcases q with q | q
      · rcases q2 q with q | q
        · exact e3 ⟨p, .inl q⟩
        · exact e3 ⟨p, .inr q⟩
      · exact e3 ⟨p, .inr q⟩
    · rcases q with q | q
      · rcases q2 q with q | q
        · exact e1 ⟨q, .inr (.inr p)⟩
        · exact no ⟨q, p⟩
      · exact no ⟨q, p⟩
  · rintro ⟨p, q⟩
    rcases q1 p with p | p
    · rcases q with q | q
      · rcases q4 q with q | q
        · exact e4 ⟨p, .inl q⟩
        · exact e4 ⟨p, .inr q⟩
      · exact e4 ⟨p, .inr q⟩
    · rcases q with q | q
      · rcases q4 q with q | q
        · exact e2 ⟨q, .inr (.inr p)⟩
        · exact no ⟨p, q⟩
      · exact no ⟨p, q⟩
theorem meets_nil {a b : Rec} (h : (a.lg = .nil ∧ a.n1 = a.n0) ∨ (b.lg = .nil ∧ b.n1 = b.n0)) : meets a b = false := by
  have t : ∀ x : Rec, x.lg = .nil → x.n1 = x.n0 → ∀ i, touches x i = false := by
    intro x h1 h2 i
    unfold touches
    rw [h1, h2]
    cases h3 : Nat.ble x.n0 i with
    | false => simp [Lg.nil]
    | true =>
      have := Nat.le_of_ble_eq_true h3
      cases h4 : Nat.blt i x.n0 with
      | false => simp [Lg.nil]
      | true => have := Nat.le_of_ble_eq_true h4; omega
  unfold meets
  rcases h with ⟨h1, h2⟩ | ⟨h1, h2⟩
  · simp only [h1, Lg.nil, List.any_nil, Bool.false_or, List.contains_nil, Bool.or_false, Bool.or_eq_false_iff]
    exact ⟨by rw [List.any_eq_false]; intro i _; simp [t a h1 h2], by rw [List.any_eq_false]; intro i _; simp [t a h1 h2]⟩
  · simp only [h1, Lg.nil, List.any_nil, Bool.false_or, List.contains_nil, Bool.or_false, Bool.or_eq_false_iff]
    exact ⟨by rw [List.any_eq_false]; intro i _; simp [t b h1 h2], by rw [List.any_eq_false]; intro i _; simp [t b h1 h2]⟩

theorem badIn_mem {m : List Nat} : ∀ (l : List Nat) (a b : Nat), (∃ l1 l2 l3, l = l1 ++ a :: (l2 ++ b :: l3)) → (m.getD b 0).testBit a = false → clash (effAt C ops a) (effAt C ops b) = true → (a, b) ∈ badIn C ops m l
  | [], a, b, ⟨l1, l2, l3, e⟩, _, _ => by simp at e
  | x :: l, a, b, ⟨l1, l2, l3, e⟩, ht, hc => by
    unfold badIn
    cases l1 with
    | nil =>
      simp only [List.nil_append, List.cons.injEq] at e
      obtain ⟨rfl, rfl⟩ := e
      refine List.mem_append.2 (.inl ?_)
      refine List.mem_map.2 ⟨b, List.mem_filter.2 ⟨by simp, by rw [ht, hc]; rfl⟩, rfl⟩
    | cons y l1 =>
      simp only [List.cons_append, List.cons.injEq] at e
      exact List.mem_append.2 (.inr (badIn_mem l a b ⟨l1, l2, l3, e.2⟩ ht hc))

theorem recsD_of {m : List Nat} {bad : List (Nat × Nat)} {rs : List Rec} (hbm : ∀ a b, (a, b) ∈ bad → inBad bad a = true ∧ inBad bad b = true) (hchk : chk bad rs = true) : ∀ (q : List Rec), (∀ x ∈ q, RecOk C ops x) → (∀ x ∈ q, RecIn bad rs x) → Ord q →
    (∀ (a b : Rec) (l1 l2 l3 : List Rec), q = l1 ++ a :: (l2 ++ b :: l3) → (m.getD b.j 0).testBit a.j = false → clash (effAt C ops a.j) (effAt C ops b.j) = true → (a.j, b.j) ∈ bad) → recsOk m q = true
  | [], _, _, _, _ => rfl
  | a :: q, hq, hin, ho, hb => by
    simp only [recsOk, Bool.and_eq_true, List.all_eq_true]
    refine ⟨fun b hbq => ?_, recsD_of hbm hchk q (fun x hx => hq x (by simp [hx])) (fun x hx => hin x (by simp [hx])) ho.2.2 fun a' b' l1 l2 l3 e => hb a' b' (a :: l1) l2 l3 (by rw [e]; rfl)⟩
    simp only [Bool.or_eq_true, Bool.not_eq_true']
    cases ht : (m.getD b.j 0).testBit a.j with
    | true => exact .inl rfl
    | false =>
      right
      cases hc : clash (effAt C ops a.j) (effAt C ops b.j) with
      | false => exact meets_of (ho.2.1 b hbq) (hq a (by simp)) (hq b (by simp [hbq])) hc
      | true =>
        obtain ⟨l2, l3, e⟩ := List.append_of_mem hbq
        have hmem := hb a b [] l2 l3 (by rw [e]; rfl) ht hc
        obtain ⟨i1, i2⟩ := hbm _ _ hmem
        rcases hin a (by simp) i1 with h1 | ⟨a', ha', e1, e2, e3, e4⟩
        · exact meets_nil (.inl h1)
        rcases hin b (by simp [hbq]) i2 with h1 | ⟨b', hb', f1, f2, f3, f4⟩
        · exact meets_nil (.inr h1)
        have := hchk
        unfold chk at this
        simp only [List.all_eq_true] at this
        have h2 := this _ hmem a' ha' b' hb'
        rw [e1, f1] at h2
        simp only [Nat.beq_refl, Bool.and_self, Bool.not_true, Bool.false_or, Bool.not_eq_true'] at h2
        exact meets_in (ho.2.1 b hbq) e2 e3 e4 f2 f3 f4 h2

theorem kregion_sound [XR C] {draw : Bool} {K : GS → Heap → Option R} (e : kregion P C (nω P C) (kω P C) nt ops draw σ h K = some r) :
    ∃ m σ' h' lg, gregion P C (gcall P C m) nt ops draw σ h = some (σ', h', lg) ∧ K σ' h' = some r := by
  unfold kregion at e
  cases hc : (grpOk ops (grp ops (List.range ops.size)) && (!draw || statOk C ops)) with
  | false =>
    simp only [hc, cond_false] at e
    cases hd : (grpOk ops (grp ops (List.range ops.size)) && dynOk C ops) with
    | false => simp only [hd, cond_false] at e; cases e
    | true =>
      simp only [hd, cond_true] at e
      simp only [Bool.and_eq_true] at hd
      obtain ⟨hd1, hd2⟩ := hd
      unfold dynOk at hd2
      simp only [Bool.and_eq_true, List.all_eq_true] at hd2
      have hbad : ∀ j, inBad (badOf C ops) j = true → logAt C ops j = true := by
        intro j hj
        unfold inBad at hj
        rw [List.any_eq_true] at hj
        obtain ⟨p, hp, hj⟩ := hj
        have := hd2.2 p hp
        simp only [Bool.or_eq_true, Nat.beq_eq] at hj
        rcases hj with rfl | rfl
        · exact this.1
        · exact this.2
      obtain ⟨m, rs', σ', h', q, e1, e2, e3, e4, e5, _⟩ := kgroupsD_sound hbad _ [] σ h _ (grp_guard _) hd1 e
      rw [grp_flat] at e1 e3
      cases hchk : chk (badOf C ops) rs' with
      | false => simp only [hchk, cond_false] at e2; cases e2
      | true =>
        simp only [hchk, cond_true] at e2
        refine ⟨m, σ', h', logOf q, ?_, e2⟩
        unfold gregion
        simp only [Option.bind_eq_bind, e1, Option.bind_some]
        by_cases hdr : draw = true
        · rw [if_pos hdr]
          have hrec : recsOk (masks ops) q = true := by
            refine recsD_of (bad := badOf C ops) (rs := rs') (fun a b hab => ⟨?_, ?_⟩) hchk q e4 e5 (gops_ord (gcall_frame m) _ _ _ _ _ _ e1).1 fun a b l1 l2 l3 heq ht hcl => ?_
            · unfold inBad; rw [List.any_eq_true]; exact ⟨_, hab, by simp⟩
            · unfold inBad; rw [List.any_eq_true]; exact ⟨_, hab, by simp⟩
            · refine badIn_mem _ _ _ ⟨l1.map (·.j), l2.map (·.j), l3.map (·.j), ?_⟩ ht hcl
              rw [← e3, heq]
              simp
          rw [if_pos ⟨hd2.1.1, hd2.1.2, hrec⟩]
        · rw [if_neg hdr]
  | true =>
    simp only [hc, cond_true] at e
    simp only [Bool.and_eq_true, Bool.or_eq_true, Bool.not_eq_true'] at hc
    obtain ⟨m, σ', h', q, e1, e2, e3, e4⟩ := kgroups_sound _ σ h K (grp_guard _) hc.1 e
    rw [grp_flat] at e1 e3
    refine ⟨m, σ', h', logOf q, ?_, e2⟩
    unfold gregion
    simp only [Option.bind_eq_bind, e1, Option.bind_some]
    by_cases hd : draw = true
    · rw [if_pos hd]
      have hs := hc.2.resolve_left (by simp [hd])
      unfold statOk at hs
      simp only [Bool.and_eq_true] at hs
      rw [if_pos ⟨hs.1.1, hs.1.2, recs_of q e4 (gops_ord (gcall_frame m) _ _ _ _ _ _ e1).1 (by rw [e3]; exact hs.2)⟩]
    · rw [if_neg hd]

def CodeG (P : Program) (C : Cfg) (g : Nat → GR) (K : GX → GS → Heap → Option R) (r : R) : Prop :=
  ∃ m x σ' h' lg, g m = some (x, σ', h', lg) ∧ K x σ' h' = some r

theorem kloop_sound {body : GS → Heap → (GX → GS → Heap → Option R) → Option R} {g : Nat → GS → Heap → GR} (hm : ∀ m m' σ h r, m ≤ m' → g m σ h = some r → g m' σ h = some r)
    (hb : ∀ σ h K, body σ h K = some r → CodeG P C (fun m => g m σ h) K r) : ∀ (n : Nat) (σ : GS) (h : Heap) (K : GX → GS → Heap → Option R), kloop body n σ h K = some r → CodeG P C (fun m => gloop (g m) n σ h) K r
  | 0, σ, h, K, e => by cases e
  | n + 1, σ, h, K, e => by
    unfold kloop at e
    obtain ⟨m, x, σ', h', lg, h1, h2⟩ := hb _ _ _ e
    cases x with
    | nrm =>
      simp only at h2
      obtain ⟨m2, x2, σ2, hh2, lg2, h3, h4⟩ := kloop_sound hm hb n σ' h' K h2
      refine ⟨max m m2, x2, σ2, hh2, lg.add lg2, ?_, h4⟩
      simp only [gloop]
      rw [hm _ _ _ _ _ (Nat.le_max_left m m2) h1]
      simp only
      rw [gloop_mono (fun σ h r e => hm _ _ _ _ _ (Nat.le_max_right m m2) e) n n σ' h' _ (Nat.le_refl n) h3]
      rfl
    | ext id => exact ⟨m, .ext id, σ', h', lg, by have h1 := h1; (try dsimp only at h1); simp only [gloop, h1], h2⟩
    | ret => exact ⟨m, .ret, σ', h', lg, by have h1 := h1; (try dsimp only at h1); simp only [gloop, h1], h2⟩

theorem kcode_sound [XR C] {k : Nat} : ∀ (c : Code) (σ : GS) (h : Heap) (K : GX → GS → Heap → Option R), kcode P C (nω P C) (kω P C) k nt c σ h K = some r → CodeG P C (fun m => gcode P C (gcall P C m) k nt c σ h) K r
  | .skip, σ, h, K, e => ⟨0, .nrm, σ, h, .nil, rfl, e⟩
  | .region id ops draw, σ, h, K, e => by
    obtain ⟨m, σ', h', lg, h1, h2⟩ := kregion_sound (K := fun σ h => K .nrm σ h) e
    exact ⟨m, .nrm, σ', h', lg, by have h1 := h1; (try dsimp only at h1); simp only [gcode, h1]; rfl, h2⟩
  | .seq a b, σ, h, K, e => by
    obtain ⟨m, x, σ', h', lg, h1, h2⟩ := kcode_sound a σ h _ e
    cases x with
    | nrm =>
      simp only at h2
      obtain ⟨m2, x2, σ2, hh2, lg2, h3, h4⟩ := kcode_sound b σ' h' K h2
      refine ⟨max m m2, x2, σ2, hh2, lg.add lg2, ?_, h4⟩
      simp only [gcode]
      rw [gcode_mono (gcall_mono (Nat.le_max_left m m2)) (Nat.le_refl k) a _ _ _ h1]
      simp only
      rw [gcode_mono (gcall_mono (Nat.le_max_right m m2)) (Nat.le_refl k) b _ _ _ h3]
      rfl
    | ext id => exact ⟨m, .ext id, σ', h', lg, by have h1 := h1; (try dsimp only at h1); simp only [gcode, h1], h2⟩
    | ret => exact ⟨m, .ret, σ', h', lg, by have h1 := h1; (try dsimp only at h1); simp only [gcode, h1], h2⟩
  | .cond c a b, σ, h, K, e => by
    simp only [kcode, got_iff] at e
    obtain ⟨v, h1, e⟩ := e
    split at e
    · rename_i t
      cases t with
      | true =>
        obtain ⟨m, x, σ', h', lg, h2, h3⟩ := kcode_sound a σ h K e
        exact ⟨m, x, σ', h', lg, by simp only [gcode]; rw [h1]; exact h2, h3⟩
      | false =>
        obtain ⟨m, x, σ', h', lg, h2, h3⟩ := kcode_sound b σ h K e
        exact ⟨m, x, σ', h', lg, by simp only [gcode]; rw [h1]; exact h2, h3⟩
    · cases e
  | .block id c, σ, h, K, e => by
    obtain ⟨m, x, σ', h', lg, h1, h2⟩ := kcode_sound c σ h _ e
    cases x with
    | nrm => exact ⟨m, .nrm, σ', h', lg, by have h1 := h1; (try dsimp only at h1); simp only [gcode, h1], h2⟩
    | ret => exact ⟨m, .ret, σ', h', lg, by have h1 := h1; (try dsimp only at h1); simp only [gcode, h1], h2⟩
    | ext id' =>
      simp only at h2
      cases hb : Nat.beq id' id with
      | true =>
        simp only [hb, cond_true] at h2
        exact ⟨m, .nrm, σ', h', lg, by have h1 := h1; (try dsimp only at h1); simp only [gcode, h1]; simp [Nat.eq_of_beq_eq_true hb], h2⟩
      | false =>
        simp only [hb, cond_false] at h2
        exact ⟨m, .ext id', σ', h', lg, by have h1 := h1; (try dsimp only at h1); simp only [gcode, h1]; simp [Nat.ne_of_beq_eq_false hb], h2⟩
  | .loop c, σ, h, K, e => by
    exact kloop_sound (P := P) (C := C) (g := fun m => gcode P C (gcall P C m) k nt c) (fun m m' σ h r hm e => gcode_mono (gcall_mono hm) (Nat.le_refl k) c σ h r e)
      (fun σ h K e => kcode_sound c σ h K e) k σ h K e
  | .exit id, σ, h, K, e => ⟨0, .ext id, σ, h, .nil, rfl, e⟩
  | .ret, σ, h, K, e => ⟨0, .ret, σ, h, .nil, rfl, e⟩
  | .label l, σ, h, K, e => ⟨0, .nrm, σ, h, .nil, rfl, e⟩
  | .goto l, σ, h, K, e => by simp only [kcode] at e; cases e
  | .scope a, σ, h, K, e => by simp only [kcode] at e; cases e
  | .rangeFunc .., σ, h, K, e => by simp only [kcode] at e; cases e
  | .refuse _, σ, h, K, e => by simp only [kcode] at e; cases e

theorem kres_sound : ∀ (l : List ResultVar) (acc : List GV) (K : GV → Option R), kres P σ h l acc K = some r →
    ∃ ws, l.mapM (gresult P σ h) = some ws ∧ (match acc ++ ws.map (·.1) with | [v] => K v | vs => K (.tup vs)) = some r
  | [], acc, K, e => by
    refine ⟨[], rfl, ?_⟩
    simp only [List.map_nil, List.append_nil]
    match acc, e with
    | [], e => exact e
    | [v], e => exact e
    | a :: b :: l, e => exact e
  | .tmp t :: l, acc, K, e => by
    simp only [kres] at e
    obtain ⟨ws, h1, h2⟩ := kres_sound l _ K e
    exact ⟨(σ t, []) :: ws, by simp [List.mapM_cons, gresult, h1], by simpa using h2⟩
  | .cell a t :: l, acc, K, e => by
    simp only [kres] at e
    obtain ⟨v, h0, e⟩ := obsi.1 e
    obtain ⟨q, h3⟩ := kload_g h0
    obtain ⟨ws, h1, h2⟩ := kres_sound l _ K e
    exact ⟨(v, q) :: ws, by simp [List.mapM_cons, gresult, h1, h3], by simpa using h2⟩

theorem kfun_sound [XR C] {k : Nat} {f : FuncId} {args : List GV} {fin : GV → Heap → Option R} (e : kfun P C (nω P C) (kω P C) k f args h fin = some r) : ∃ v h', kω P C f args h = some (v, h') ∧ fin v h' = some r := by
  unfold kfun at e
  cases hf : P.funcs[f]? with
  | none => simp only [hf] at e; cases e
  | some fn =>
    simp only [hf] at e
    cases hb : fn.body with
    | none => simp only [hb] at e; cases e
    | some b =>
      simp only [hb] at e
      obtain ⟨m, x, σ', h', lg, h1, h2⟩ := kcode_sound b _ h _ e
      have key : kres P σ' h' fn.results.toList [] (fun v => fin v h') = some r → ∃ v l, gresults P fn σ' h' = some (v, l) ∧ fin v h' = some r := by
        intro e
        obtain ⟨ws, e1, e2⟩ := kres_sound _ _ _ e
        unfold gresults
        simp only [Option.bind_eq_bind, e1, Option.bind_some]
        simp only [List.nil_append] at e2
        match ws, e2 with
        | [], e2 => exact ⟨_, _, rfl, e2⟩
        | [v], e2 => exact ⟨_, _, rfl, e2⟩
        | a :: b :: l, e2 => exact ⟨_, _, rfl, e2⟩
      have fin' : ∀ y, (y = GX.nrm ∨ y = GX.ret) → gcode P C (gcall P C m) k (max args.length fn.ntmps) b (fun t => args.getD t .un) h = some (y, σ', h', lg) → (∃ v l, gresults P fn σ' h' = some (v, l) ∧ fin v h' = some r) → ∃ v h', kω P C f args h = some (v, h') ∧ fin v h' = some r := by
        rintro y hy e ⟨v, l, e1, e2⟩
        refine ⟨v, h', kω_some.2 ⟨max m k + 1, lg.add ⟨l, []⟩, ?_⟩, e2⟩
        simp only [gcall, hf, hb]
        rw [gcode_mono (gcall_mono (Nat.le_max_left m k)) (Nat.le_max_right m k) b _ _ _ e]
        rcases hy with rfl | rfl <;> simp [e1]
      cases x with
      | ext id => cases h2
      | nrm => exact fin' .nrm (.inl rfl) h1 (key h2)
      | ret => exact fin' .ret (.inr rfl) h1 (key h2)

def finN (v : GV) (h : Heap) : Option GV := (frz 9 h v).map (·.1)
def finO (b : Nat) (v : GV) (h : Heap) : Option (GV × List (List GV)) := ownOk (v, h) b
noncomputable def oω (P : Program) (C : Cfg) (f : FuncId) (xs : List GV) (b : Nat) : Option (GV × List (List GV)) := (kω P C f xs []).bind fun r => ownOk r b
theorem oω_of [XR C] {k : Nat} {f : FuncId} {args : List GV} {b : Nat} {q : GV × List (List GV)} (e : kfun P C (nω P C) (kω P C) k f args [] (finO b) = some q) : oω P C f args b = some q := by
  obtain ⟨u, h', h1, h2⟩ := kfun_sound e
  unfold oω
  simp only [h1, Option.bind_some]
  exact h2
def finH (v : GV) (h : Heap) : Option (GV × Heap) := some (v, h)

theorem nω_of [XR C] {k : Nat} {f : FuncId} {args : List GV} {v : GV} (hx : C.ext f = none) (e : kfun P C (nω P C) (kω P C) k f args [] finN = some v) : nω P C f args = some v := by
  obtain ⟨u, h', h1, h2⟩ := kfun_sound e
  unfold nω
  simp only [hx, h1, Option.bind_some]
  exact h2
theorem kω_of [XR C] {k : Nat} {f : FuncId} {args : List GV} {v : GV} {h' : Heap} (e : kfun P C (nω P C) (kω P C) k f args h finH = some (v, h')) : kω P C f args h = some (v, h') := by
  obtain ⟨u, h2, h1, h3⟩ := kfun_sound e
  cases h3
  exact h1
end

end Go.Proofs.Ytlbnioapepelnaa.G

namespace Go.Proofs.Ytlbnioapepelnaa.G
open Go.RowKit

section
variable {R : Type}
def kalloc (z : List GV) (h : Heap) (K : GV → Heap → Option R) : Option R := K (.ptr h.length 0 z.length) (h ++ [z])
def kbox (v : GV) (h : Heap) (K : GV → Heap → Option R) : Option R := K (.ptr h.length 0 v.cells.length) (h ++ [v.cells])
def kagg (cs : List GV) (h : Heap) (K : GV → Heap → Option R) : Option R := K (.agg cs) h
def kbs (len es : Nat) (cs : List GV) (h : Heap) (K : GV → Heap → Option R) : Option R := K (.sl h.length 0 len len es) (h ++ [cs])
def kr (r : GV × Heap) (K : GV → Heap → Option R) : Option R := K r.1 r.2
def kold (h : Heap) (K : Heap → Option R) : Option R := K h
def krs (rs : List Rec) (K : List Rec → Option R) : Option R := K rs
def kborr (h : Heap) (g : GV) : List Nat := match bor 9 h g with | some y => y.2 | none => []
def kcond (v : GV) (a b : Option R) : Option R :=
  match v with
  | .bool c => bif c then a else b
  | _ => none
def kx (x : GX) (a b : Option R) : Option R :=
  match x with
  | .nrm => a
  | _ => b
def kb (id : Nat) (x : GX) (K : GX → Option R) : Option R :=
  match x with
  | .ext id' => bif Nat.beq id' id then K .nrm else K (.ext id')
  | x => K x
def kend (x : GX) (a : Option R) : Option R :=
  match x with
  | .ext _ => none
  | _ => a

def cL : Code → Code
  | .seq a _ => a
  | .cond _ a _ => a
  | .block _ a => a
  | .loop a => a
  | _ => .skip
def cR : Code → Code
  | .seq _ b => b
  | .cond _ _ b => b
  | _ => .skip
def cO : Code → Array Oper
  | .region _ ops _ => ops
  | _ => #[]
def bodyOf (f : Func) : Code :=
  match f.body with
  | some b => b
  | none => .skip

variable {P : Program} {C : Cfg} {N : NCall} {H : HCall} {k nt : Nat} {c a b : Code} {σ : GS} {h : Heap} {K : GX → GS → Heap → Option R}

theorem kseq_eq {B : GS → Heap → Option R} (hc : c = .seq a b) (hb : ∀ σ h, kcode P C N H k nt b σ h K = B σ h) :
    kcode P C N H k nt c σ h K = kcode P C N H k nt a σ h (fun x σ h => kx x (B σ h) (K x σ h)) := by
  subst hc
  simp only [kcode]
  congr 1
  funext x σ h
  cases x <;> simp [kx, hb]
theorem kcondP_eq {v : GV} {o : Operand} (hc : c = .cond o a b) (hv : eval σ o = some v) : kcode P C N H k nt c σ h K = kcond v (kcode P C N H k nt a σ h K) (kcode P C N H k nt b σ h K) := by
  subst hc
  simp only [kcode, hv, got]
  cases v <;> rfl
theorem kblockP_eq {id : Nat} (hc : c = .block id a) : kcode P C N H k nt c σ h K = kcode P C N H k nt a σ h (fun x σ h => kb id x fun x => K x σ h) := by
  subst hc
  exact congrArg (kcode P C N H k nt a σ h) (funext fun x => funext fun σ => funext fun h => by cases x <;> rfl)
theorem kloop_eqP {B : GS → Heap → Option R} {body : GS → Heap → (GX → GS → Heap → Option R) → Option R} {r : Nat} (hb : ∀ σ h, kloop body r σ h K = B σ h) :
    kloop body (r + 1) σ h K = body σ h (fun x σ h => kx x (B σ h) (K x σ h)) := by
  simp only [kloop]
  congr 1
  funext x σ h
  cases x <;> simp [kx, hb]

def kgroup1 (P : Program) (C : Cfg) (N : NCall) (H : HCall) (nt : Nat) (ops : Array Oper) (g : Option (Nat × Bool) × List Nat) (σ : GS) (h : Heap) (K : GS → Heap → Option R) : Option R :=
  match g with
  | (none, js) => krun P C N H nt ops js σ h K
  | (some g, js) => bif kwant ops σ (some g) then krun P C N H nt ops js σ h K else got (kskip nt ops js σ) fun σ => K σ h
theorem kgroups_cons {ops : Array Oper} {g : Option (Nat × Bool) × List Nat} {gs : List (Option (Nat × Bool) × List Nat)} {K : GS → Heap → Option R} {B : GS → Heap → Option R} (hb : ∀ σ h, kgroups P C N H nt ops gs σ h K = B σ h) :
    kgroups P C N H nt ops (g :: gs) σ h K = kgroup1 P C N H nt ops g σ h B := by
  obtain ⟨g, js⟩ := g
  have : (fun σ h => kgroups P C N H nt ops gs σ h K) = B := by funext σ h; exact hb σ h
  cases g <;> simp only [kgroups, kgroup1, this, hb]
theorem kregionP_eq {id : Nat} {ops : Array Oper} {draw : Bool} {gs : List (Option (Nat × Bool) × List Nat)} (hc : c = .region id ops draw) (hg : grp ops (List.range ops.size) = gs) (hk : (grpOk ops gs && (!draw || statOk C ops)) = true) :
    kcode P C N H k nt c σ h K = kgroups P C N H nt ops gs σ h (fun σ h => K .nrm σ h) := by
  subst hc
  simp only [kcode, kregion, hg, hk, cond_true]

theorem kregionPD_eq {id : Nat} {ops : Array Oper} {draw : Bool} {gs : List (Option (Nat × Bool) × List Nat)} {bad : List (Nat × Nat)} (hc : c = .region id ops draw) (hg : grp ops (List.range ops.size) = gs) (hs : (grpOk ops gs && (!draw || statOk C ops)) = false) (hk : (grpOk ops gs && dynOk C ops) = true) (hb : badOf C ops = bad) :
    kcode P C N H k nt c σ h K = kgroupsD P C N H nt ops bad gs [] σ h (fun rs σ h => bif chk bad rs then K .nrm σ h else none) := by
  subst hc
  subst hb
  simp only [kcode, kregion, hg, hs, hk, cond_true, cond_false]

theorem kfunP_eq {f : FuncId} {args : List GV} {fn : Func} {fin : GV → Heap → Option R} {G : GX → GS → Heap → Option R} (hf : P.funcs[f]? = some fn) (hb : fn.body = some c) (hn : max args.length fn.ntmps = nt)
    (hG : ∀ x σ h, (match x with | .ext _ => none | _ => kres P σ h fn.results.toList [] fun v => fin v h) = G x σ h) :
    kfun P C N H k f args h fin = kcode P C N H k nt c (fun t => args.getD t .un) h G := by
  unfold kfun
  simp only [hf, hb, hn]
  congr 1
  funext x σ h
  exact hG x σ h
end

end Go.Proofs.Ytlbnioapepelnaa.G

namespace Go.Proofs.Ytlbnioapepelnaa.G
open Go.RowKit
namespace fn
def laws_FnParsed : Nat := 13
def laws_big : Nat := 21
def laws_pick : Nat := 27
def laws_szParser : Nat := 62
def spec_Step : Nat := 63
def laws_toParser : Nat := 64
def impl_Step : Nat := 65
def laws_eqParser : Nat := 66
def laws_eqActionS : Nat := 67
def laws_markParser : Nat := 68
def laws_markActionS : Nat := 69
def laws_heldParser : Nat := 70
def laws_heldActionS : Nat := 71
def spec_Parsed : Nat := 72
def laws_toInt64S : Nat := 73
def impl_Parsed : Nat := 74
def laws_eqInt64S : Nat := 75
def laws_markInt64S : Nat := 76
def spec_DrawStep : Nat := 87
def spec_DrawParsed : Nat := 88
def laws_likeParser : Nat := 89
def laws_likeActions : Nat := 90
def impl_ParserOk : Nat := 91
def spec_ParserOk : Nat := 92
def spec_RuneOk : Nat := 93
def impl_in : Nat := 105
def spec_l1In : Nat := 119
def spec_l1New : Nat := 127
def spec_l1Once : Nat := 129
def spec_l1Below : Nat := 130
def spec_l1From : Nat := 132
def laws_likeInts : Nat := 134
def slices_Clone_int64 : Nat := 145
def laws_szInt64S : Nat := 163
def laws_heldInt64S : Nat := 164
def spec_l6Step : Nat := 165
def spec_l6Copy : Nat := 166
def impl_parsed : Nat := 167
def laws_eqAction : Nat := 168
def spec_l6Runes : Nat := 169
def spec_l6DrawAny : Nat := 182
def spec_DrawRuneOk : Nat := 183
def spec_Runes : Nat := 184
def spec_l6DrawText : Nat := 185
def impl_areParams : Nat := 186
def impl_isMark : Nat := 187
def impl_areTitle : Nat := 188
def spec_l1Byte : Nat := 199
def slices_ContainsFunc_int64 : Nat := 205
def spec_l1Min : Nat := 208
def slices_IndexFunc_int64 : Nat := 212
def spec_l6State : Nat := 219
def spec_l6Escape : Nat := 220
def spec_l6List : Nat := 221
def spec_Width : Nat := 222
def impl_parsed_1 : Nat := 223
def impl_RuneOk : Nat := 224
def impl_Parser_copied : Nat := 225
def impl_Parser_step : Nat := 226
def spec_StyleOk : Nat := 229
def impl_StyleOk : Nat := 233
def spec_l6Draw : Nat := 241
def spec_l1DrawRune : Nat := 242
def spec_Get : Nat := 243
def impl_areParams_1 : Nat := 244
def impl_areTitle_1 : Nat := 245
def impl_Parser_title : Nat := 259
def impl_Parser_ended : Nat := 260
def impl_Parser_become : Nat := 261
def impl_isControl : Nat := 262
def impl_Parser_escaped : Nat := 263
def impl_Parser_more : Nat := 264
def impl_Width : Nat := 265
def spec_l1Long : Nat := 274
def spec_Put : Nat := 275
def spec_l1Put : Nat := 287
end fn
namespace ty
end ty
noncomputable abbrev PP : Program := Try.prog
def extOf (f : FuncId) : Option (List GV → Option GV) := none
def cfg : Cfg := ⟨fun f => [19, 55, 60, 68, 69, 76, 83, 98, 103, 106, 110, 111, 112, 122, 123, 124, 125, 126, 127, 128, 129, 130, 132, 133, 135, 136, 137, 146, 147, 157, 158, 159, 165, 173, 177, 179, 181, 182, 185, 194, 195, 196, 198, 199, 203, 207, 209, 210, 220, 221, 226, 236, 239, 241, 242, 259, 260, 261, 263, 264, 272].any (Nat.beq f), extOf, fun f => [235, 145, 117].any (Nat.beq f), fun f => [258, 29, 24, 193, 81, 31, 17, 237, 176, 36, 153, 215, 53, 74, 225, 30, 65, 28, 45, 86, 102, 167, 231, 174, 16, 79, 73, 101, 64, 191, 99, 192, 100, 58, 235, 145, 117, 282, 43, 72, 184, 151, 97, 121, 152, 230, 172, 214, 166, 219].any (Nat.beq f)⟩
theorem cfg_xr : XReach cfg := fun f e xs v h1 h2 => by
  replace h1 : extOf f = some e := h1
  unfold extOf at h1
  cases h1
instance : XR cfg := ⟨cfg_xr⟩
noncomputable def NN : NCall := nω PP cfg
noncomputable def HH : HCall := kω PP cfg
noncomputable def OO : FuncId → List GV → Nat → Option (GV × List (List GV)) := oω PP cfg
noncomputable def KC {R : Type} (k nt : Nat) (c : Code) (σ : GS) (h : Heap) (K : GX → GS → Heap → Option R) : Option R := kcode PP cfg NN HH k nt c σ h K
noncomputable def kval {R : Type} (f : GV) (args : List GV) (h : Heap) (K : GV → Heap → Option R) : Option R := match f with | .fn g caps => kcallee PP cfg NN HH g (args ++ caps) h K | _ => none
section
variable {R : Type} {k nt : Nat} {c a b : Code} {σ : GS} {h : Heap} {K : GX → GS → Heap → Option R}
theorem kseq {B : GS → Heap → Option R} (hc : c = .seq a b) (hb : ∀ σ h, KC k nt b σ h K = B σ h) :
    KC k nt c σ h K = KC k nt a σ h (fun x σ h => kx x (B σ h) (K x σ h)) := kseq_eq hc hb
theorem kcond_eq {v : GV} {o : Operand} (hc : c = .cond o a b) (hv : eval σ o = some v) : KC k nt c σ h K = kcond v (KC k nt a σ h K) (KC k nt b σ h K) := kcondP_eq hc hv
theorem kblock_eq {id : Nat} (hc : c = .block id a) : KC k nt c σ h K = KC k nt a σ h (fun x σ h => kb id x fun x => K x σ h) := kblockP_eq hc
theorem kloop_eq {B : GS → Heap → Option R} {r : Nat} (hb : ∀ σ h, kloop (fun σ h K => KC k nt a σ h K) r σ h K = B σ h) :
    kloop (fun σ h K => KC k nt a σ h K) (r + 1) σ h K = KC k nt a σ h (fun x σ h => kx x (B σ h) (K x σ h)) := kloop_eqP hb
theorem kloopc_eq (hc : c = .loop a) : KC k nt c σ h K = kloop (fun σ h K => KC k nt a σ h K) k σ h K := by subst hc; rfl
theorem kregion_eq {id : Nat} {ops : Array Oper} {draw : Bool} {gs : List (Option (Nat × Bool) × List Nat)} (hc : c = .region id ops draw) (hg : grp ops (List.range ops.size) = gs) (hk : (grpOk ops gs && (!draw || statOk cfg ops)) = true) :
    KC k nt c σ h K = kgroups PP cfg NN HH nt ops gs σ h (fun σ h => K .nrm σ h) := kregionP_eq hc hg hk
theorem kregionD_eq {id : Nat} {ops : Array Oper} {draw : Bool} {gs : List (Option (Nat × Bool) × List Nat)} {bad : List (Nat × Nat)} (hc : c = .region id ops draw) (hg : grp ops (List.range ops.size) = gs) (hs : (grpOk ops gs && (!draw || statOk cfg ops)) = false) (hk : (grpOk ops gs && dynOk cfg ops) = true) (hb : badOf cfg ops = bad) :
    KC k nt c σ h K = kgroupsD PP cfg NN HH nt ops bad gs [] σ h (fun rs σ h => bif chk bad rs then K .nrm σ h else none) := kregionPD_eq hc hg hs hk hb
theorem kfun_eq {f : FuncId} {args : List GV} {fn : Func} {fin : GV → Heap → Option R} {G : GX → GS → Heap → Option R} (hf : PP.funcs[f]? = some fn) (hb : fn.body = some c) (hn : max args.length fn.ntmps = nt)
    (hG : ∀ x σ h, (match x with | .ext _ => none | _ => kres PP σ h fn.results.toList [] fun v => fin v h) = G x σ h) :
    kfun PP cfg NN HH k f args h fin = KC k nt c (fun t => args.getD t .un) h G := kfunP_eq hf hb hn hG
end
abbrev Q0 {R : Type} (G : GX → Heap → Option R) : GX → GS → Heap → Option R := fun x σ h => G x h
abbrev Q1 {R : Type} (G : GX → GV → Heap → Option R) (a0 : Nat) : GX → GS → Heap → Option R := fun x σ h => G x (σ a0) h
abbrev Q2 {R : Type} (G : GX → GV → GV → Heap → Option R) (a0 : Nat) (a1 : Nat) : GX → GS → Heap → Option R := fun x σ h => G x (σ a0) (σ a1) h
abbrev Q3 {R : Type} (G : GX → GV → GV → GV → Heap → Option R) (a0 : Nat) (a1 : Nat) (a2 : Nat) : GX → GS → Heap → Option R := fun x σ h => G x (σ a0) (σ a1) (σ a2) h
abbrev Q4 {R : Type} (G : GX → GV → GV → GV → GV → Heap → Option R) (a0 : Nat) (a1 : Nat) (a2 : Nat) (a3 : Nat) : GX → GS → Heap → Option R := fun x σ h => G x (σ a0) (σ a1) (σ a2) (σ a3) h
abbrev Q5 {R : Type} (G : GX → GV → GV → GV → GV → GV → Heap → Option R) (a0 : Nat) (a1 : Nat) (a2 : Nat) (a3 : Nat) (a4 : Nat) : GX → GS → Heap → Option R := fun x σ h => G x (σ a0) (σ a1) (σ a2) (σ a3) (σ a4) h
abbrev Q6 {R : Type} (G : GX → GV → GV → GV → GV → GV → GV → Heap → Option R) (a0 : Nat) (a1 : Nat) (a2 : Nat) (a3 : Nat) (a4 : Nat) (a5 : Nat) : GX → GS → Heap → Option R := fun x σ h => G x (σ a0) (σ a1) (σ a2) (σ a3) (σ a4) (σ a5) h
abbrev Q7 {R : Type} (G : GX → GV → GV → GV → GV → GV → GV → GV → Heap → Option R) (a0 : Nat) (a1 : Nat) (a2 : Nat) (a3 : Nat) (a4 : Nat) (a5 : Nat) (a6 : Nat) : GX → GS → Heap → Option R := fun x σ h => G x (σ a0) (σ a1) (σ a2) (σ a3) (σ a4) (σ a5) (σ a6) h
abbrev Q8 {R : Type} (G : GX → GV → GV → GV → GV → GV → GV → GV → GV → Heap → Option R) (a0 : Nat) (a1 : Nat) (a2 : Nat) (a3 : Nat) (a4 : Nat) (a5 : Nat) (a6 : Nat) (a7 : Nat) : GX → GS → Heap → Option R := fun x σ h => G x (σ a0) (σ a1) (σ a2) (σ a3) (σ a4) (σ a5) (σ a6) (σ a7) h
abbrev Q9 {R : Type} (G : GX → GV → GV → GV → GV → GV → GV → GV → GV → GV → Heap → Option R) (a0 : Nat) (a1 : Nat) (a2 : Nat) (a3 : Nat) (a4 : Nat) (a5 : Nat) (a6 : Nat) (a7 : Nat) (a8 : Nat) : GX → GS → Heap → Option R := fun x σ h => G x (σ a0) (σ a1) (σ a2) (σ a3) (σ a4) (σ a5) (σ a6) (σ a7) (σ a8) h
abbrev Q10 {R : Type} (G : GX → GV → GV → GV → GV → GV → GV → GV → GV → GV → GV → Heap → Option R) (a0 : Nat) (a1 : Nat) (a2 : Nat) (a3 : Nat) (a4 : Nat) (a5 : Nat) (a6 : Nat) (a7 : Nat) (a8 : Nat) (a9 : Nat) : GX → GS → Heap → Option R := fun x σ h => G x (σ a0) (σ a1) (σ a2) (σ a3) (σ a4) (σ a5) (σ a6) (σ a7) (σ a8) (σ a9) h
abbrev Q11 {R : Type} (G : GX → GV → GV → GV → GV → GV → GV → GV → GV → GV → GV → GV → Heap → Option R) (a0 : Nat) (a1 : Nat) (a2 : Nat) (a3 : Nat) (a4 : Nat) (a5 : Nat) (a6 : Nat) (a7 : Nat) (a8 : Nat) (a9 : Nat) (a10 : Nat) : GX → GS → Heap → Option R := fun x σ h => G x (σ a0) (σ a1) (σ a2) (σ a3) (σ a4) (σ a5) (σ a6) (σ a7) (σ a8) (σ a9) (σ a10) h
abbrev W2 {R : Type} (n : GV → GV → Heap → Option R) (a0 : Nat) (a1 : Nat) (σ : GS) (h : Heap) : Option R := n (σ a0) (σ a1) h
abbrev W3 {R : Type} (n : GV → GV → GV → Heap → Option R) (a0 : Nat) (a1 : Nat) (a2 : Nat) (σ : GS) (h : Heap) : Option R := n (σ a0) (σ a1) (σ a2) h
abbrev W4 {R : Type} (n : GV → GV → GV → GV → Heap → Option R) (a0 : Nat) (a1 : Nat) (a2 : Nat) (a3 : Nat) (σ : GS) (h : Heap) : Option R := n (σ a0) (σ a1) (σ a2) (σ a3) h
abbrev W5 {R : Type} (n : GV → GV → GV → GV → GV → Heap → Option R) (a0 : Nat) (a1 : Nat) (a2 : Nat) (a3 : Nat) (a4 : Nat) (σ : GS) (h : Heap) : Option R := n (σ a0) (σ a1) (σ a2) (σ a3) (σ a4) h
abbrev W6 {R : Type} (n : GV → GV → GV → GV → GV → GV → Heap → Option R) (a0 : Nat) (a1 : Nat) (a2 : Nat) (a3 : Nat) (a4 : Nat) (a5 : Nat) (σ : GS) (h : Heap) : Option R := n (σ a0) (σ a1) (σ a2) (σ a3) (σ a4) (σ a5) h
abbrev W7 {R : Type} (n : GV → GV → GV → GV → GV → GV → GV → Heap → Option R) (a0 : Nat) (a1 : Nat) (a2 : Nat) (a3 : Nat) (a4 : Nat) (a5 : Nat) (a6 : Nat) (σ : GS) (h : Heap) : Option R := n (σ a0) (σ a1) (σ a2) (σ a3) (σ a4) (σ a5) (σ a6) h
abbrev W8 {R : Type} (n : GV → GV → GV → GV → GV → GV → GV → GV → Heap → Option R) (a0 : Nat) (a1 : Nat) (a2 : Nat) (a3 : Nat) (a4 : Nat) (a5 : Nat) (a6 : Nat) (a7 : Nat) (σ : GS) (h : Heap) : Option R := n (σ a0) (σ a1) (σ a2) (σ a3) (σ a4) (σ a5) (σ a6) (σ a7) h
abbrev W9 {R : Type} (n : GV → GV → GV → GV → GV → GV → GV → GV → GV → Heap → Option R) (a0 : Nat) (a1 : Nat) (a2 : Nat) (a3 : Nat) (a4 : Nat) (a5 : Nat) (a6 : Nat) (a7 : Nat) (a8 : Nat) (σ : GS) (h : Heap) : Option R := n (σ a0) (σ a1) (σ a2) (σ a3) (σ a4) (σ a5) (σ a6) (σ a7) (σ a8) h
abbrev W10 {R : Type} (n : GV → GV → GV → GV → GV → GV → GV → GV → GV → GV → Heap → Option R) (a0 : Nat) (a1 : Nat) (a2 : Nat) (a3 : Nat) (a4 : Nat) (a5 : Nat) (a6 : Nat) (a7 : Nat) (a8 : Nat) (a9 : Nat) (σ : GS) (h : Heap) : Option R := n (σ a0) (σ a1) (σ a2) (σ a3) (σ a4) (σ a5) (σ a6) (σ a7) (σ a8) (σ a9) h
abbrev W11 {R : Type} (n : GV → GV → GV → GV → GV → GV → GV → GV → GV → GV → GV → Heap → Option R) (a0 : Nat) (a1 : Nat) (a2 : Nat) (a3 : Nat) (a4 : Nat) (a5 : Nat) (a6 : Nat) (a7 : Nat) (a8 : Nat) (a9 : Nat) (a10 : Nat) (σ : GS) (h : Heap) : Option R := n (σ a0) (σ a1) (σ a2) (σ a3) (σ a4) (σ a5) (σ a6) (σ a7) (σ a8) (σ a9) (σ a10) h
abbrev W12 {R : Type} (n : GV → GV → GV → GV → GV → GV → GV → GV → GV → GV → GV → GV → Heap → Option R) (a0 : Nat) (a1 : Nat) (a2 : Nat) (a3 : Nat) (a4 : Nat) (a5 : Nat) (a6 : Nat) (a7 : Nat) (a8 : Nat) (a9 : Nat) (a10 : Nat) (a11 : Nat) (σ : GS) (h : Heap) : Option R := n (σ a0) (σ a1) (σ a2) (σ a3) (σ a4) (σ a5) (σ a6) (σ a7) (σ a8) (σ a9) (σ a10) (σ a11) h
end Go.Proofs.Ytlbnioapepelnaa.G

namespace Go.Proofs.Ytlbnioapepelnaa.G
open Go.RowKit

def elp {α : Type} (t : Bool) (mk : α → List GV) (xs : List α) (j : Nat) : GV := .fp t ((xs.drop j).flatMap mk)
def elf {α : Type} (t : Bool) (mk : α → List GV) (xs : List α) (j off : Nat) : GV := .fp t (((xs.drop j).flatMap mk).drop off)

abbrev ci (n : Int) : List GV := [.int .i64 n]
abbrev cs (s : ByteArray) : List GV := [.str s]

theorem drop_flat {α : Type} {mk : α → List GV} {es : Nat} (hm : ∀ a, (mk a).length = es) : ∀ (xs : List α) (j : Nat), (xs.flatMap mk).drop (j * es) = (xs.drop j).flatMap mk
  | xs, 0 => by simp
  | [], j + 1 => by simp
  | x :: xs, j + 1 => by
    rw [List.flatMap_cons, List.drop_succ_cons, ← drop_flat hm xs j, List.drop_append, hm]
    rw [List.drop_of_length_le (by rw [hm, Nat.add_mul]; omega)]
    rw [show (j + 1) * es - es = j * es by rw [Nat.add_mul]; omega]
    rfl
theorem len_flat {α : Type} {mk : α → List GV} {es : Nat} (hm : ∀ a, (mk a).length = es) (xs : List α) : (xs.flatMap mk).length = xs.length * es := flat_len hm xs

theorem fzl_ne {α : Type} {t : Bool} {es : Nat} {mk : α → List GV} {xs : List α} (h : 0 < xs.length) : fzl t es mk xs = .fz t xs.length es (xs.flatMap mk) := by
  cases xs with
  | nil => simp at h
  | cons x xs => rfl
@[simp] theorem fzl_nil {α : Type} {t : Bool} {es : Nat} {mk : α → List GV} : fzl t es mk [] = mt := rfl

@[simp] theorem klen_fzl {α : Type} {t : Bool} {es : Nat} {mk : α → List GV} {xs : List α} : klen (fzl t es mk xs) = some (.int .i64 xs.length) := by
  cases xs <;> rfl
@[simp] theorem klen_mt : klen mt = some (.int .i64 0) := rfl

theorem kia_fzl {α : Type} {t : Bool} {es : Nat} {mk : α → List GV} (hm : ∀ a, (mk a).length = es) {xs : List α} {k : IntKind} {i : Int} :
    kia es (fzl t es mk xs) (.int k i) = if 0 ≤ i ∧ i < xs.length then some (elp t mk xs i.toNat) else none := by
  cases xs with
  | nil =>
    have h1 : ¬(es = 0 ∧ 0 ≤ i ∧ i < (0 : Nat)) := by omega
    have h2 : ¬(0 ≤ i ∧ i < (([] : List α).length : Nat)) := by simp
    rw [if_neg h2]
    simp only [fzl, mt, kia, kint, Option.bind_some]
    rw [if_neg h1]
  | cons x xs =>
    rw [fzl_ne (by simp)]
    simp only [kia, kint, Option.bind_some, true_and]
    rw [drop_flat hm]
    rfl

@[simp] theorem kload1_ci {h : Heap} {t : Bool} {xs : List Int} {j : Nat} : kload1 h (elp t ci xs j) = xs[j]?.map (GV.int .i64) := by
  unfold kload1 elp kread
  cases hx : xs.drop j with
  | nil =>
    have : xs.length ≤ j := by simpa using hx
    simp [List.getElem?_eq_none this]
  | cons y ys =>
    have : xs[j]? = some y := by
      have := congrArg (·[0]?) hx
      simpa using this
    simp [this, one]
@[simp] theorem kload1_cs {h : Heap} {t : Bool} {xs : List ByteArray} {j : Nat} : kload1 h (elp t cs xs j) = xs[j]?.map GV.str := by
  unfold kload1 elp kread
  cases hx : xs.drop j with
  | nil =>
    have : xs.length ≤ j := by simpa using hx
    simp [List.getElem?_eq_none this]
  | cons y ys =>
    have : xs[j]? = some y := by
      have := congrArg (·[0]?) hx
      simpa using this
    simp [this, one]

/-! The machine's words. -/
attribute [simp] kx.eq_1 kx.eq_2
@[simp] theorem kx_nrm {R : Type} {a b : Option R} : kx .nrm a b = a := rfl
@[simp] theorem kx_ret {R : Type} {a b : Option R} : kx .ret a b = b := rfl
@[simp] theorem kx_ext {R : Type} {i : Nat} {a b : Option R} : kx (.ext i) a b = b := rfl
@[simp] theorem kb_nrm {R : Type} {i : Nat} {K : GX → Option R} : kb i .nrm K = K .nrm := rfl
@[simp] theorem kb_ret {R : Type} {i : Nat} {K : GX → Option R} : kb i .ret K = K .ret := rfl
@[simp] theorem kb_ext {R : Type} {i j : Nat} {K : GX → Option R} : kb i (.ext j) K = bif Nat.beq j i then K .nrm else K (.ext j) := rfl
@[simp] theorem kend_nrm {R : Type} {a : Option R} : kend .nrm a = a := rfl
@[simp] theorem kend_ret {R : Type} {a : Option R} : kend .ret a = a := rfl
@[simp] theorem kend_ext {R : Type} {i : Nat} {a : Option R} : kend (.ext i) a = none := rfl
@[simp] theorem kcond_bool {R : Type} {b : Bool} {x y : Option R} : kcond (.bool b) x y = bif b then x else y := rfl
@[simp] theorem tr_bool {w b : Bool} : tr w (.bool b) = (b == w) := rfl
@[simp] theorem tr_un {w : Bool} : tr w .un = false := rfl
@[simp] theorem kpick_bool {b : Bool} {x y : GV} : kpick (.bool b) x y = some (bif b then x else y) := rfl
@[simp] theorem kun_not {b : Bool} : kun .not (.bool b) = some (.bool !b) := rfl
@[simp] theorem kun_neg {k : IntKind} {n : Int} : kun .neg (.int k n) = some (.int k (k.wrap (0 - n))) := rfl
@[simp] theorem kr_mk {R : Type} {v : GV} {h : Heap} {K : GV → Heap → Option R} : kr (v, h) K = K v h := rfl
@[simp] theorem kfa_ptr {off i o tot : Nat} : kfa off (.ptr i o tot) = some (.ptr i (o + off) tot) := rfl
@[simp] theorem kfa_elp {α : Type} {t : Bool} {mk : α → List GV} {xs : List α} {j off : Nat} : kfa off (elp t mk xs j) = some (elf t mk xs j off) := rfl
@[simp] theorem kcs_agg {cs : List GV} : kcs (.agg cs) = some cs := rfl
@[simp] theorem kxt_tup {vs : List GV} {i : Nat} : kxt i (.tup vs) = vs[i]? := rfl
@[simp] theorem kint_int {k : IntKind} {n : Int} : kint (.int k n) = some n := rfl
@[simp] theorem kstr_str {s : ByteArray} : kstr (.str s) = some s := rfl
@[simp] theorem klenS_str {s : ByteArray} : klenS (.str s) = some (.int .i64 s.size) := rfl
@[simp] theorem gmin_int {k k' : IntKind} {x y : Int} : gmin (.int k x) (.int k' y) = some (.int k (if y < x then y else x)) := rfl
@[simp] theorem gmax_int {k k' : IntKind} {x y : Int} : gmax (.int k x) (.int k' y) = some (.int k (if y > x then y else x)) := rfl
@[simp] theorem kconvI_int {k k' : IntKind} {n : Int} : kconvI k (.int k' n) = some (.int k (k.wrap n)) := rfl

@[simp] theorem kbin_add {k : IntKind} {a b : Int} : kbin .add (.int k a) (.int k b) = some (.int k (k.wrap (a + b))) := by simp [kbin]
@[simp] theorem kbin_sub {k : IntKind} {a b : Int} : kbin .sub (.int k a) (.int k b) = some (.int k (k.wrap (a - b))) := by simp [kbin]
@[simp] theorem kbin_mul {k : IntKind} {a b : Int} : kbin .mul (.int k a) (.int k b) = some (.int k (k.wrap (a * b))) := by simp [kbin]
@[simp] theorem kbin_eql {k : IntKind} {a b : Int} : kbin .eql (.int k a) (.int k b) = some (.bool (decide (a = b))) := by
  simp only [kbin, if_true, Option.some.injEq, GV.bool.injEq]; rw [Bool.eq_iff_iff]; simp
@[simp] theorem kbin_neq {k : IntKind} {a b : Int} : kbin .neq (.int k a) (.int k b) = some (.bool (decide (a ≠ b))) := by
  simp only [kbin, if_true, Option.some.injEq, GV.bool.injEq]; rw [Bool.eq_iff_iff]; simp
@[simp] theorem kbin_lss {k : IntKind} {a b : Int} : kbin .lss (.int k a) (.int k b) = some (.bool (decide (a < b))) := by simp [kbin, ilt_eq]
@[simp] theorem kbin_leq {k : IntKind} {a b : Int} : kbin .leq (.int k a) (.int k b) = some (.bool (decide (a ≤ b))) := by
  simp only [kbin, if_true, Option.some.injEq, GV.bool.injEq, ilt_eq]; rw [Bool.eq_iff_iff]; simp
@[simp] theorem kbin_gtr {k : IntKind} {a b : Int} : kbin .gtr (.int k a) (.int k b) = some (.bool (decide (b < a))) := by simp [kbin, ilt_eq]
@[simp] theorem kbin_geq {k : IntKind} {a b : Int} : kbin .geq (.int k a) (.int k b) = some (.bool (decide (b ≤ a))) := by
  simp only [kbin, if_true, Option.some.injEq, GV.bool.injEq, ilt_eq]; rw [Bool.eq_iff_iff]; simp
theorem kbin_quo {k : IntKind} {a b : Int} (h : b ≠ 0) : kbin .quo (.int k a) (.int k b) = some (.int k (k.wrap (a.tdiv b))) := by simp [kbin, h]
theorem kbin_rem {k : IntKind} {a b : Int} (h : b ≠ 0) : kbin .rem (.int k a) (.int k b) = some (.int k (a.tmod b)) := by simp [kbin, h]
@[simp] theorem kbin_seql {a b : ByteArray} : kbin .eql (.str a) (.str b) = some (.bool (decide (a = b))) := by
  simp only [kbin, Option.some.injEq, GV.bool.injEq]; rw [Bool.eq_iff_iff]
  simp only [beq_iff_eq, decide_eq_true_eq]
  constructor
  · intro h; exact ByteArray.ext (by rw [ByteArray.toList_eq, ByteArray.toList_eq] at h; exact Array.toList_inj.1 h)
  · rintro rfl; rfl
@[simp] theorem kbin_sneq {a b : ByteArray} : kbin .neq (.str a) (.str b) = some (.bool (decide (a ≠ b))) := by
  have := @kbin_seql a b
  simp only [kbin, Option.some.injEq, GV.bool.injEq] at this ⊢
  rw [this]
  simp
theorem kbin_sadd {a b : ByteArray} (h : a.size + b.size ≤ maxLen) : kbin .add (.str a) (.str b) = some (.str (a ++ b)) := by simp [kbin, h]
@[simp] theorem keqB_eql {a b : Bool} : keqB .eql (.bool a) (.bool b) = some (.bool (a == b)) := rfl
@[simp] theorem keqB_neq {a b : Bool} : keqB .neq (.bool a) (.bool b) = some (.bool !(a == b)) := rfl

theorem wrap_id {n : Int} (h : -9223372036854775808 ≤ n) (h' : n ≤ 9223372036854775807) : IntKind.i64.wrap n = n := by
  simp [IntKind.wrap, IntKind.bits, IntKind.signed]
  omega

/-! Memory. -/
@[simp] theorem kalloc_eq {R : Type} {z : List GV} {h : Heap} {K : GV → Heap → Option R} : kalloc z h K = K (.ptr h.length 0 z.length) (h ++ [z]) := rfl
@[simp] theorem kbox_agg {R : Type} {cs : List GV} {h : Heap} {K : GV → Heap → Option R} : kbox (.agg cs) h K = K (.ptr h.length 0 cs.length) (h ++ [cs]) := rfl
@[simp] theorem kagg_eq {R : Type} {cs : List GV} {h : Heap} {K : GV → Heap → Option R} : kagg cs h K = K (.agg cs) h := rfl
@[simp] theorem kload1_ptr {h : Heap} {i off tot : Nat} : kload1 h (.ptr i off tot) = (cellsAt h i tot).bind fun cs => cs[off]? := by
  unfold kload1 kread
  simp only
  cases cellsAt h i tot with
  | none => rfl
  | some cs =>
    simp only [Option.bind_some]
    rcases Nat.lt_or_ge off cs.length with h1 | h1
    · rw [if_pos (by omega)]
      simp only [Option.bind_some]
      rw [List.drop_eq_getElem_cons h1, List.take_succ_cons, List.take_zero, List.getElem?_eq_getElem h1]
      rfl
    · rw [if_neg (by omega), List.getElem?_eq_none h1]; rfl
@[simp] theorem kloadA_ptr {h : Heap} {n i off tot : Nat} : kloadA n h (.ptr i off tot) = (cellsAt h i tot).bind fun cs => if off + n ≤ cs.length then some (.agg ((cs.drop off).take n)) else none := by
  unfold kloadA kread
  simp only
  cases cellsAt h i tot with
  | none => rfl
  | some cs =>
    simp only [Option.bind_some]
    by_cases h1 : off + n ≤ cs.length <;> simp [h1]
@[simp] theorem cellsAt_if {h : Heap} {i tot : Nat} : cellsAt h i tot = (h[i]?).bind fun cs => if cs.length = tot then some cs else none := by
  unfold cellsAt
  cases h[i]? with
  | none => rfl
  | some cs =>
    simp only [Option.bind_some]
    by_cases h1 : cs.length = tot
    · simp [h1]
    · have : Nat.beq cs.length tot = false := by
        cases hb : Nat.beq cs.length tot with
        | false => rfl
        | true => exact absurd (Nat.eq_of_beq_eq_true hb) h1
      simp [this, h1]
@[simp] theorem kstore_ptr {h : Heap} {n i off tot : Nat} {v : GV} : kstore n h (.ptr i off tot) v = if v.cells.length = n ∧ v.cells.all GV.isCell = true then (cellsAt h i tot).bind fun cs => if off + n ≤ cs.length then some (h.set i (splice cs off v.cells)) else none else none := rfl
@[simp] theorem cells_int {k : IntKind} {n : Int} : (GV.int k n).cells = [.int k n] := rfl
@[simp] theorem cells_bool {n : Bool} : (GV.bool n).cells = [.bool n] := rfl
@[simp] theorem cells_str {n : ByteArray} : (GV.str n).cells = [.str n] := rfl
@[simp] theorem cells_agg {n : List GV} : (GV.agg n).cells = n := rfl
@[simp] theorem cells_nils : GV.nils.cells = [.nils] := rfl
@[simp] theorem cells_emp : GV.emp.cells = [.emp] := rfl
@[simp] theorem cells_mt : mt.cells = [mt] := rfl
@[simp] theorem cells_ptr {a b c : Nat} : (GV.ptr a b c).cells = [.ptr a b c] := rfl
@[simp] theorem cells_sl {a b c d e : Nat} : (GV.sl a b c d e).cells = [.sl a b c d e] := rfl
@[simp] theorem cells_fzl {α : Type} {t : Bool} {es : Nat} {mk : α → List GV} {xs : List α} : (fzl t es mk xs).cells = [fzl t es mk xs] := by cases xs <;> rfl
@[simp] theorem isCell_int {k : IntKind} {n : Int} : (GV.int k n).isCell = true := rfl
@[simp] theorem isCell_bool {n : Bool} : (GV.bool n).isCell = true := rfl
@[simp] theorem isCell_str {n : ByteArray} : (GV.str n).isCell = true := rfl
@[simp] theorem isCell_nils : GV.nils.isCell = true := rfl
@[simp] theorem isCell_emp : GV.emp.isCell = true := rfl
@[simp] theorem isCell_mt : mt.isCell = true := rfl
@[simp] theorem isCell_ptr {a b c : Nat} : (GV.ptr a b c).isCell = true := rfl
@[simp] theorem isCell_sl {a b c d e : Nat} : (GV.sl a b c d e).isCell = true := rfl
@[simp] theorem isCell_fzl {α : Type} {t : Bool} {es : Nat} {mk : α → List GV} {xs : List α} : (fzl t es mk xs).isCell = true := by cases xs <;> rfl
attribute [simp] splice
@[simp] theorem kN_eq {N : NCall} {f : FuncId} {args : List GV} {h : Heap} : kN N f args h = (bors h args).bind fun xs => N f xs := rfl

@[simp] theorem finN_int {k : IntKind} {n : Int} {h : Heap} : finN (.int k n) h = some (.int k n) := rfl
@[simp] theorem finN_bool {b : Bool} {h : Heap} : finN (.bool b) h = some (.bool b) := rfl
@[simp] theorem finN_str {b : ByteArray} {h : Heap} : finN (.str b) h = some (.str b) := rfl

@[simp] theorem bors_nil {h : Heap} : bors h [] = some [] := rfl
@[simp] theorem bors_cons {h : Heap} {g : GV} {gs : List GV} : bors h (g :: gs) = (bor 9 h g).bind fun x => (bors h gs).bind fun xs => some (x.1 :: xs) := rfl
@[simp] theorem bor_int {d : Nat} {h : Heap} {k : IntKind} {n : Int} : bor (d + 1) h (.int k n) = some (.int k n, []) := rfl
@[simp] theorem bor_bool {d : Nat} {h : Heap} {n : Bool} : bor (d + 1) h (.bool n) = some (.bool n, []) := rfl
@[simp] theorem bor_str {d : Nat} {h : Heap} {n : ByteArray} : bor (d + 1) h (.str n) = some (.str n, []) := rfl
@[simp] theorem bor_mt {d : Nat} {h : Heap} : bor (d + 1) h mt = some (mt, []) := rfl
@[simp] theorem lend_int {d : Nat} {k : IntKind} {n : Int} : lend d (.int k n) = .int k n := by cases d <;> rfl
@[simp] theorem lend_bool {d : Nat} {n : Bool} : lend d (.bool n) = .bool n := by cases d <;> rfl
@[simp] theorem lend_str {d : Nat} {n : ByteArray} : lend d (.str n) = .str n := by cases d <;> rfl
theorem lend_map {α : Type} {d : Nat} {mk mk' : α → List GV} (hm : ∀ a, (mk a).map (lend d) = mk' a) (xs : List α) : (xs.flatMap mk).map (lend d) = xs.flatMap mk' := by
  induction xs with
  | nil => rfl
  | cons x xs ih => rw [List.flatMap_cons, List.flatMap_cons, List.map_append, ih, hm]
theorem lend_fzl {α : Type} {d es : Nat} {t : Bool} {mk mk' : α → List GV} (hm : ∀ a, (mk a).map (lend d) = mk' a) (xs : List α) : lend (d + 1) (fzl t es mk xs) = fzl true es mk' xs := by
  cases xs with
  | nil => rfl
  | cons x xs =>
    simp only [fzl, lend]
    rw [lend_map hm]
theorem bor_fzl {α : Type} {d es : Nat} {h : Heap} {t : Bool} {mk mk' : α → List GV} (hm : ∀ a, (mk a).map (lend d) = mk' a) (xs : List α) : bor (d + 1) h (fzl t es mk xs) = some (fzl true es mk' xs, []) := by
  rw [← lend_fzl (t := t) (es := es) hm xs]
  cases xs <;> rfl
@[simp] theorem bor_ci {d : Nat} {h : Heap} {t : Bool} {xs : List Int} : bor (d + 2) h (fzl t 1 ci xs) = some (fzl true 1 ci xs, []) := bor_fzl (fun a => rfl) xs
@[simp] theorem bor_cs {d : Nat} {h : Heap} {t : Bool} {xs : List ByteArray} : bor (d + 2) h (fzl t 1 cs xs) = some (fzl true 1 cs xs, []) := bor_fzl (fun a => rfl) xs
@[simp] theorem kia_ci {t : Bool} {xs : List Int} {k : IntKind} {i : Int} : kia 1 (fzl t 1 ci xs) (.int k i) = if 0 ≤ i ∧ i < xs.length then some (elp t ci xs i.toNat) else none := kia_fzl (es := 1) (fun _ => rfl)
@[simp] theorem kia_cs {t : Bool} {xs : List ByteArray} {k : IntKind} {i : Int} : kia 1 (fzl t 1 cs xs) (.int k i) = if 0 ≤ i ∧ i < xs.length then some (elp t cs xs i.toNat) else none := kia_fzl (es := 1) (fun _ => rfl)

end Go.Proofs.Ytlbnioapepelnaa.G

namespace Go.Proofs.Ytlbnioapepelnaa.G
open Go.RowKit

def fill {α : Type} (mk : α → List GV) (z : List GV) (xs : List α) (j : Nat) : List GV := (xs.take j).flatMap mk ++ zeros z (xs.length - j)
theorem zeros_len' (z : List GV) (n : Nat) : (zeros z n).length = n * z.length := by
  induction n with
  | zero => simp [zeros]
  | succ n ih => simp [zeros, ih, Nat.add_mul]; omega
@[simp] theorem fill_zero {α : Type} {mk : α → List GV} {z : List GV} {xs : List α} : fill mk z xs 0 = zeros z xs.length := by simp [fill]
@[simp] theorem fill_all {α : Type} {mk : α → List GV} {z : List GV} {xs : List α} : fill mk z xs xs.length = xs.flatMap mk := by simp [fill, zeros]
theorem fill_len {α : Type} {mk : α → List GV} {z : List GV} {es : Nat} (hm : ∀ a, (mk a).length = es) (hz : z.length = es) (xs : List α) (j : Nat) (hj : j ≤ xs.length) : (fill mk z xs j).length = xs.length * es := by
  unfold fill
  rw [List.length_append, len_flat hm, zeros_len', hz, List.length_take, Nat.min_eq_left hj, ← Nat.add_mul]
  congr 1; omega
@[simp] theorem kia_sl {es b off len cap es' : Nat} {k : IntKind} {i : Int} : kia es (.sl b off len cap es') (.int k i) = if es = es' ∧ 0 ≤ i ∧ i < len then some (.ptr b (off + i.toNat * es) (off + cap * es)) else none := rfl
@[simp] theorem klen_sl {b off len cap es : Nat} : klen (.sl b off len cap es) = some (.int .i64 len) := rfl

def Frz (d : Nat) (h : Heap) (cs cs' : List GV) : Prop := ∃ ys, cs.mapM (frz d h) = some ys ∧ ys.map (·.1) = cs'
theorem Frz.nil {d : Nat} {h : Heap} : Frz d h [] [] := ⟨[], rfl, rfl⟩
theorem Frz.cons {d : Nat} {h : Heap} {g g' : GV} {r : List Nat} {cs cs' : List GV} (hg : frz d h g = some (g', r)) (hc : Frz d h cs cs') : Frz d h (g :: cs) (g' :: cs') := by
  obtain ⟨ys, h1, h2⟩ := hc
  exact ⟨(g', r) :: ys, by simp [List.mapM_cons, hg, h1], by simp [h2]⟩
theorem mapM_append' {α β : Type} {f : α → Option β} {l1 l2 : List α} {r1 r2 : List β} (h1 : l1.mapM f = some r1) (h2 : l2.mapM f = some r2) : (l1 ++ l2).mapM f = some (r1 ++ r2) := by
  simp [List.mapM_append, h1, h2]
theorem Frz.append {d : Nat} {h : Heap} {a a' b b' : List GV} (h1 : Frz d h a a') (h2 : Frz d h b b') : Frz d h (a ++ b) (a' ++ b') := by
  obtain ⟨ys, e1, e2⟩ := h1
  obtain ⟨zs, e3, e4⟩ := h2
  exact ⟨ys ++ zs, mapM_append' e1 e3, by simp [e2, e4]⟩
theorem Frz.flat {α : Type} {d : Nat} {h : Heap} {mk mk' : α → List GV} {xs : List α} (hf : ∀ a ∈ xs, Frz d h (mk a) (mk' a)) : Frz d h (xs.flatMap mk) (xs.flatMap mk') := by
  induction xs with
  | nil => exact .nil
  | cons x xs ih => exact .append (hf x (by simp)) (ih fun a ha => hf a (by simp [ha]))
@[simp] theorem frz_int {d : Nat} {h : Heap} {k : IntKind} {n : Int} : frz (d + 1) h (.int k n) = some (.int k n, []) := rfl
@[simp] theorem frz_bool {d : Nat} {h : Heap} {n : Bool} : frz (d + 1) h (.bool n) = some (.bool n, []) := rfl
@[simp] theorem frz_str {d : Nat} {h : Heap} {n : ByteArray} : frz (d + 1) h (.str n) = some (.str n, []) := rfl
@[simp] theorem frz_mt {d : Nat} {h : Heap} : frz (d + 1) h mt = some (mt, []) := rfl
@[simp] theorem frz_nils {d : Nat} {h : Heap} : frz (d + 1) h .nils = some (mt, []) := rfl
@[simp] theorem frz_emp {d : Nat} {h : Heap} : frz (d + 1) h .emp = some (mt, []) := rfl
@[simp] theorem frz_fzl {α : Type} {d es : Nat} {h : Heap} {mk : α → List GV} {xs : List α} : frz (d + 1) h (fzl false es mk xs) = some (fzl false es mk xs, []) := by cases xs <;> rfl
theorem frz_agg {d : Nat} {h : Heap} {cs cs' : List GV} (hf : Frz d h cs cs') : frz (d + 1) h (.agg cs) = some (.agg cs', []) := by
  obtain ⟨ys, h1, h2⟩ := hf
  simp [frz, h1, h2]
theorem frz_tup {d : Nat} {h : Heap} {cs cs' : List GV} (hf : Frz d h cs cs') : frz (d + 1) h (.tup cs) = some (.tup cs', []) := by
  obtain ⟨ys, h1, h2⟩ := hf
  simp [frz, h1, h2]
theorem frz_sl {α : Type} {d i cap es : Nat} {h : Heap} {mk mk' : α → List GV} {xs : List α} {rest : List GV} (hm : ∀ a, (mk a).length = es) (hh : h[i]? = some (xs.flatMap mk ++ rest)) (hr : (xs.flatMap mk ++ rest).length = cap * es) (hc : xs.length ≤ cap) (hf : ∀ a ∈ xs, Frz d h (mk a) (mk' a)) :
    frz (d + 1) h (.sl i 0 xs.length cap es) = some (fzl false es mk' xs, []) := by
  obtain ⟨ys, h1, h2⟩ := Frz.flat hf
  have hl : (xs.flatMap mk).length = xs.length * es := len_flat hm xs
  have h3 : ((xs.flatMap mk ++ rest).drop 0).take (xs.length * es) = xs.flatMap mk := by rw [List.drop_zero, List.take_append_of_le_length (by omega), List.take_of_length_le (by omega)]
  simp only [frz, Option.bind_eq_bind, cellsAt_if, hh, Option.bind_some, Nat.zero_add, hr, if_true]
  rw [h3, h1]
  simp only [Option.bind_some]
  rw [if_pos hc]
  cases xs with
  | nil => rfl
  | cons x xs => simp [fzl, h2]
theorem finN_of {v v' : GV} {h : Heap} {r : List Nat} (e : frz 9 h v = some (v', r)) : finN v h = some v' := by simp [finN, e]
theorem Frz.ci {d : Nat} {h : Heap} {n : Int} : Frz (d + 1) h (ci n) (ci n) := .cons frz_int .nil
theorem Frz.cs {d : Nat} {h : Heap} {n : ByteArray} : Frz (d + 1) h (cs n) (cs n) := .cons frz_str .nil

@[simp] theorem bor_agg {d : Nat} {h : Heap} {cs : List GV} : bor (d + 1) h (.agg cs) = (cs.mapM (bor d h)).bind fun xs => some (.agg (xs.map (·.1)), (xs.map (·.2)).flatten) := rfl
attribute [simp] List.mapM_cons List.mapM_nil Option.pure_def Option.bind_eq_bind

theorem wrap_succ {n : Nat} (h : n < maxLen) : IntKind.i64.wrap ((n : Int) + 1) = (n : Int) + 1 := by
  rw [wrap_id] <;> simp only [maxLen] at h <;> omega
theorem get_of {α : Type} {xs : List α} {j : Nat} (h : j < xs.length) : xs[j]? = some xs[j] := List.getElem?_eq_getElem h

theorem splice_one {cs : List GV} {j : Nat} {v : GV} (h : j < cs.length) : splice cs j [v] = cs.set j v := by
  unfold splice
  simp [List.set_eq_take_append_cons_drop, h]
end Go.Proofs.Ytlbnioapepelnaa.G

namespace Go.Proofs.Ytlbnioapepelnaa.G
open Go.RowKit

theorem drop_flat_cons {α : Type} {mk : α → List GV} {xs : List α} {j : Nat} (hj : j < xs.length) : (xs.drop j).flatMap mk = mk xs[j] ++ (xs.drop (j + 1)).flatMap mk := by
  rw [List.drop_eq_getElem_cons hj, List.flatMap_cons]

theorem kloadA_elp {α : Type} {es : Nat} {mk : α → List GV} (hm : ∀ a, (mk a).length = es) (h0 : 0 < es) {h : Heap} {t : Bool} {xs : List α} {j : Nat} : kloadA es h (elp t mk xs j) = xs[j]?.map fun a => .agg (mk a) := by
  unfold kloadA elp kread
  rcases Nat.lt_or_ge j xs.length with hj | hj
  · rw [drop_flat_cons hj, List.getElem?_eq_getElem hj]
    simp only
    rw [if_pos (by rw [List.length_append, hm]; omega), List.take_append_of_le_length (by rw [hm]; omega), List.take_of_length_le (by rw [hm]; omega)]
    rfl
  · rw [List.drop_of_length_le hj, List.getElem?_eq_none hj]
    simp only [List.flatMap_nil, List.length_nil]
    rw [if_neg (by omega)]
    rfl
theorem kload1_elf {α : Type} {es : Nat} {mk : α → List GV} (hm : ∀ a, (mk a).length = es) {h : Heap} {t : Bool} {xs : List α} {j off : Nat} (h0 : off < es) : kload1 h (elf t mk xs j off) = xs[j]?.bind fun a => (mk a)[off]? := by
  unfold kload1 elf kread
  rcases Nat.lt_or_ge j xs.length with hj | hj
  · rw [drop_flat_cons hj, List.getElem?_eq_getElem hj]
    simp only
    have hl : off < (mk xs[j]).length := by rw [hm]; exact h0
    rw [List.drop_append_of_le_length (by omega), List.drop_eq_getElem_cons hl]
    rw [if_pos (by rw [List.cons_append, List.length_cons]; omega)]
    simp only [List.cons_append, List.take_succ_cons, List.take_zero, Option.bind_some, one]
    rw [List.getElem?_eq_getElem hl]
  · rw [List.drop_of_length_le hj, List.getElem?_eq_none hj]
    simp
theorem kload1_elp {α : Type} {mk : α → List GV} (g : α → GV) (hm : ∀ a, mk a = [g a]) {h : Heap} {t : Bool} {xs : List α} {j : Nat} : kload1 h (elp t mk xs j) = xs[j]?.map g := by
  have : elp t mk xs j = elf t mk xs j 0 := rfl
  rw [this, kload1_elf (es := 1) (fun a => by rw [hm]; rfl) (by omega)]
  cases xs[j]? with
  | none => rfl
  | some a => simp [hm]

theorem map_cons' {α β : Type} {f : α → β} {a : α} {b : β} {l : List α} {m : List β} (h1 : f a = b) (h2 : l.map f = m) : (a :: l).map f = b :: m := by rw [List.map_cons, h1, h2]

theorem kmake_eq {z : List GV} {es b n : Nat} {h : Heap} (hn : n ≤ 1048576) (hb : b ≤ 1024) (hz : z.length = es) : kmake z es b (.int .i64 n) (.int .i64 n) h = some (.sl h.length 0 n n es, h ++ [zeros z n]) := by
  have h1 : n * b ≤ 1048576 * 1024 := Nat.mul_le_mul hn hb
  simp [kmake, maxLen, roomMax, hz]
  omega
end Go.Proofs.Ytlbnioapepelnaa.G

namespace Go.Proofs.Ytlbnioapepelnaa.G
open Go.RowKit

def Pl : GV → Bool
  | .int _ _ => true
  | .bool _ => true
  | .str _ => true
  | _ => false
theorem own_pl {d : Nat} {h : Heap} {b : Nat} : ∀ {g : GV}, Pl g = true → own (d + 1) h b g = some (g, [], [])
  | .int _ _, _ => rfl
  | .bool _, _ => rfl
  | .str _, _ => rfl
theorem ownL_pl {d : Nat} {h : Heap} : ∀ {cs : List GV} {b : Nat}, cs.all Pl = true → ownL (own (d + 1) h) b cs = some (cs, [], [])
  | [], b, _ => rfl
  | g :: gs, b, hc => by
    rw [List.all_cons, Bool.and_eq_true] at hc
    unfold ownL
    rw [own_pl hc.1]
    simp only [Option.bind_some, List.length_nil, Nat.add_zero]
    rw [ownL_pl hc.2]
    rfl
theorem own_sl_pl {d : Nat} {h : Heap} {b i len cap es : Nat} {cs : List GV} (hh : h[i]? = some cs) (hl : cs.length = cap * es) (hc : len ≤ cap) (hp : (cs.take (len * es)).all Pl = true) :
    own (d + 2) h b (.sl i 0 len cap es) = some (.sl b 0 len len es, [(i, 0, cap * es)], [cs.take (len * es)]) := by
  have e : own (d + 2) h b (.sl i 0 len cap es) = (cellsAt h i (0 + cap * es)).bind fun cs => if len ≤ cap then (ownL (own (d + 1) h) (b + 1) ((cs.drop 0).take (len * es))).bind fun q => some (.sl b 0 len len es, (i, 0, 0 + cap * es) :: q.2.1, q.1 :: q.2.2) else none := rfl
  rw [e]
  simp only [Nat.zero_add, cellsAt_if, hh, Option.bind_some, hl, if_true, List.drop_zero]
  rw [if_pos hc, ownL_pl hp]
  rfl
theorem finO_sl_pl {h : Heap} {b i len cap es : Nat} {cs : List GV} (hh : h[i]? = some cs) (hl : cs.length = cap * es) (hc : len ≤ cap) (hp : (cs.take (len * es)).all Pl = true) :
    finO b (.sl i 0 len cap es) h = some (.sl b 0 len len es, [cs.take (len * es)]) := by
  unfold finO ownOk
  simp only
  rw [own_sl_pl (d := 7) hh hl hc hp]
  rfl
@[simp] theorem finO_emp {h : Heap} {b : Nat} : finO b .emp h = some (.emp, []) := rfl
@[simp] theorem finO_nils {h : Heap} {b : Nat} : finO b .nils h = some (.nils, []) := rfl
theorem all_flat {α : Type} {p : GV → Bool} {mk : α → List GV} (hm : ∀ a, (mk a).all p = true) (xs : List α) : (xs.flatMap mk).all p = true := by
  induction xs with
  | nil => rfl
  | cons x xs ih => rw [List.flatMap_cons, List.all_append, hm, ih]; rfl

theorem gcells_fzl {α : Type} {h : Heap} {t : Bool} {es : Nat} {mk : α → List GV} (hm : ∀ a, (mk a).length = es) {xs : List α} : gcells h es (fzl t es mk xs) = some (xs.length, xs.flatMap mk, []) := by
  cases xs with
  | nil => rfl
  | cons x xs =>
    have hl := len_flat hm (x :: xs)
    simp only [List.length_cons] at hl
    simp only [fzl, gcells]
    simp [hl]

theorem kapp_emp {α : Type} {z : List GV} {es b : Nat} {t : Bool} {mk : α → List GV} {xs : List α} {h : Heap} (hm : ∀ a, (mk a).length = es) (hc : ∀ a, (mk a).all GV.isCell = true) (hz : z.length = es) (hb : b ≤ 1024) (hn : xs.length ≤ 4194304) :
    kapp z es b .emp (fzl t es mk xs) h = if xs.length = 0 then some (.emp, h) else some (.sl h.length 0 xs.length xs.length es, h ++ [xs.flatMap mk]) := by
  have h1 : xs.length * b ≤ 4194304 * 1024 := Nat.mul_le_mul hn hb
  unfold kapp
  rw [gcells_fzl hm]
  simp only [Option.bind_some]
  rw [if_pos ⟨all_flat hc xs, hz, by simp only [maxLen]; omega, by simp only [roomMax]; omega⟩]
@[simp] theorem kcap_nils : kcap .nils = some (.int .i64 0) := rfl
@[simp] theorem klen_nils : klen .nils = some (.int .i64 0) := rfl
@[simp] theorem finH_eq {v : GV} {h : Heap} : finH v h = some (v, h) := rfl
@[simp] theorem kold_eq {R : Type} {h : Heap} {K : Heap → Option R} : kold h K = K h := rfl
@[simp] theorem krs_eq {R : Type} {rs : List Rec} {K : List Rec → Option R} : krs rs K = K rs := rfl
@[simp] theorem kblk_ptr {i o t : Nat} : kblk (.ptr i o t) = [i] := rfl
@[simp] theorem kblk_sl {i o l c e : Nat} : kblk (.sl i o l c e) = [i] := rfl
@[simp] theorem kblk_elp {α : Type} {t : Bool} {mk : α → List GV} {xs : List α} {j : Nat} : kblk (elp t mk xs j) = [] := rfl
@[simp] theorem kblk_elf {α : Type} {t : Bool} {mk : α → List GV} {xs : List α} {j off : Nat} : kblk (elf t mk xs j off) = [] := rfl
@[simp] theorem kblk_fzl {α : Type} {t : Bool} {es : Nat} {mk : α → List GV} {xs : List α} : kblk (fzl t es mk xs) = [] := by cases xs <;> rfl
@[simp] theorem kblk_nils : kblk .nils = [] := rfl
@[simp] theorem kblk_emp : kblk .emp = [] := rfl
@[simp] theorem touches_same {j n : Nat} {r w : List Nat} {i : Nat} : touches ⟨j, n, n, ⟨r, w⟩⟩ i = w.contains i := by
  simp only [touches]
  cases h : Nat.ble n i && Nat.blt i n with
  | false => simp
  | true =>
    rw [Bool.and_eq_true, Nat.ble_eq, Nat.blt_eq] at h
    omega
@[simp] theorem nbeq {a b : Nat} : Nat.beq a b = decide (a = b) := by
  rw [Bool.eq_iff_iff, Nat.beq_eq]; simp
@[simp] theorem kF_OO {f : FuncId} {args : List GV} {h : Heap} : kF false HH f args h = (bors h args).bind fun xs => (OO f xs h.length).bind fun q => some (q.1, h ++ q.2) := by
  unfold kF
  congr 1
  funext xs
  simp only [Bool.false_and, cond_false]
  show _ = ((HH f xs []).bind fun r => ownOk r h.length).bind _
  rw [Option.bind_assoc]
@[simp] theorem bor_emp {d : Nat} {h : Heap} : bor (d + 1) h .emp = some (mt, []) := rfl
@[simp] theorem nble {a b : Nat} : Nat.ble a b = decide (a ≤ b) := by rw [Bool.eq_iff_iff, Nat.ble_eq]; simp
@[simp] theorem nblt {a b : Nat} : Nat.blt a b = decide (a < b) := by rw [Bool.eq_iff_iff, Nat.blt_eq]; simp
@[simp] theorem kborr_mt {h : Heap} : kborr h mt = [] := rfl
@[simp] theorem kblk_mt : kblk mt = [] := rfl
end Go.Proofs.Ytlbnioapepelnaa.G


namespace Go.Proofs.Ytlbnioapepelnaa.G
open Go.RowKit
theorem loop_inv {Q T : Type} {n : Nat} {Inv : Nat → T → Prop} {f : Nat → Nat → T → Q} {A : T → Q} (h1 : ∀ j r s, j < n → Inv j s → ∃ s', f (r + 1) j s = f r (j + 1) s' ∧ Inv (j + 1) s') (h2 : ∀ r s, Inv n s → f (r + 1) n s = A s) {s : T} (h0 : Inv 0 s) {m : Nat} (hm : n < m) : ∃ s', f m 0 s = A s' ∧ Inv n s' := by
  have key : ∀ m j s, n - j < m → j ≤ n → Inv j s → ∃ s', f m j s = A s' ∧ Inv n s' := by
    intro m
    induction m with
    | zero => intro j s h; omega
    | succ m ih =>
      intro j s hm hj hi
      rcases Nat.lt_or_ge j n with h | h
      · obtain ⟨s', a1, a2⟩ := h1 j m s h hi
        obtain ⟨s'', b1, b2⟩ := ih (j + 1) s' (by omega) (by omega) a2
        exact ⟨s'', a1.trans b1, b2⟩
      · have : j = n := by omega
        subst this
        exact ⟨s, h2 m s hi, hi⟩
  exact key m 0 s (by omega) (by omega) h0
end Go.Proofs.Ytlbnioapepelnaa.G

namespace Go.Proofs.Ytlbnioapepelnaa.G
open Go.RowKit
def Fr (R : List Nat) (h h' : Heap) : Prop := h.length ≤ h'.length ∧ ∀ i, i < h.length → i ∉ R → h'[i]? = h[i]?
theorem Fr.refl {R : List Nat} {h : Heap} : Fr R h h := ⟨Nat.le_refl _, fun _ _ _ => rfl⟩
theorem Fr.trans {R : List Nat} {h h' h'' : Heap} (a : Fr R h h') (b : Fr R h' h'') : Fr R h h'' := ⟨Nat.le_trans a.1 b.1, fun i hi hn => (b.2 i (Nat.lt_of_lt_of_le hi a.1) hn).trans (a.2 i hi hn)⟩
theorem Fr.sub {R R' : List Nat} {h h' : Heap} (a : Fr R h h') (hs : ∀ i ∈ R, i ∈ R') : Fr R' h h' := ⟨a.1, fun i hi hn => a.2 i hi fun h => hn (hs i h)⟩
theorem Fr.set {R : List Nat} {h : Heap} {b : Nat} {c : List GV} (hb : b ∈ R) : Fr R h (h.set b c) := ⟨by rw [List.length_set]; exact Nat.le_refl _, fun i _ hn => List.getElem?_set_ne fun e => hn (by rw [← e]; exact hb)⟩
theorem Fr.app {R : List Nat} {h t : Heap} : Fr R h (h ++ t) := ⟨by rw [List.length_append]; omega, fun i hi _ => List.getElem?_append_left hi⟩
theorem kia_at {es b n j o tot : Nat} (hj : j < n) (ho : j * es = o) (ht : n * es = tot) : kia es (.sl b 0 n n es) (.int .i64 (j : Int)) = some (.ptr b o tot) := by
  rw [kia_sl, if_pos ⟨rfl, by omega, by omega⟩, ← ho, ← ht]
  simp
theorem kstore_at {h : Heap} {b o tot : Nat} {cells : List GV} {x : GV} (hb : h[b]? = some cells) (fl : cells.length = tot) (ho : o < tot) (hx : x.cells = [x]) (hc : x.isCell = true) : kstore 1 h (.ptr b o tot) x = some (h.set b (cells.set o x)) := by
  rw [kstore_ptr, if_pos ⟨by rw [hx]; rfl, by rw [hx]; simp [hc]⟩, cellsAt_if, hb]
  simp only [Option.bind_some, fl, if_true]
  rw [if_pos (by omega), hx, splice_one (by omega)]
theorem kload1_at {h : Heap} {b o tot : Nat} {cells : List GV} (hb : h[b]? = some cells) (fl : cells.length = tot) : kload1 h (.ptr b o tot) = cells[o]? := by
  rw [kload1_ptr, cellsAt_if, hb]
  simp [fl]
end Go.Proofs.Ytlbnioapepelnaa.G

namespace Go.Proofs.Ytlbnioapepelnaa.G
open Go.RowKit

abbrev bs (l : List UInt8) : ByteArray := ⟨l.toArray⟩
abbrev cy (b : UInt8) : List GV := [.int .u8 b.toNat]
theorem bs_eta (s : ByteArray) : s = bs s.data.toList := rfl
@[simp] theorem bs_size (l : List UInt8) : (bs l).size = l.length := by simp [bs, ByteArray.size]
@[simp] theorem bs_data (l : List UInt8) : (bs l).data.toList = l := rfl
@[simp] theorem bs_app (a b : List UInt8) : bs a ++ bs b = bs (a ++ b) := by
  apply ByteArray.ext
  simp [bs]
theorem bs_inj {a b : List UInt8} : bs a = bs b ↔ a = b := by
  constructor
  · intro h
    have := congrArg (fun s : ByteArray => s.data.toList) h
    simpa using this
  · rintro rfl; rfl
theorem kadd_bs {a b : List UInt8} (h : a.length + b.length ≤ maxLen) : kbin .add (.str (bs a)) (.str (bs b)) = some (.str (bs (a ++ b))) := by
  rw [kbin_sadd (by simpa using h), bs_app]
theorem kbyte_bs {l : List UInt8} {k : IntKind} {i : Int} (h0 : 0 ≤ i) (h1 : i < l.length) : kbyte (.str (bs l)) (.int k i) = some (.int .u8 ((l[i.toNat]'(by omega)).toNat : Int)) := by
  have h2 : i.toNat < (bs l).size := by rw [bs_size]; omega
  simp only [kbyte, kstr_str, kint_int, Option.bind_some]
  rw [dif_pos h2, if_pos h0]
  rfl
theorem kbyte_nat {l : List UInt8} {k : IntKind} {i : Nat} (h1 : i < l.length) : kbyte (.str (bs l)) (.int k (i : Int)) = some (.int .u8 (l[i].toNat : Int)) := by
  rw [kbyte_bs (by omega) (by omega)]
  simp
theorem extract_bs (l : List UInt8) (a b : Nat) : (bs l).extract a b = bs ((l.take b).drop a) := by
  apply ByteArray.ext
  apply Array.toList_inj.1
  simp [bs]
  try rw [List.drop_take]
theorem kslS_bs {l : List UInt8} {lo hi mx : Option GV} (hm : mx = none) {a b : Nat} (h1 : gopt 0 lo = some (a : Int)) (h2 : gopt (l.length : Nat) hi = some (b : Int)) (hab : a ≤ b) (hb : b ≤ l.length) : kslS (.str (bs l)) lo hi mx = some (.str (bs ((l.take b).drop a))) := by
  subst hm
  have h2' : gopt ((bs l).size : Nat) hi = some (b : Int) := by rw [bs_size]; exact h2
  simp only [kslS, kstr_str, Option.bind_some, kslice, gslice, h1, Option.bind_eq_bind, h2', Option.isSome_none, Bool.false_eq_true, false_and, if_false]
  rw [if_pos ⟨by omega, by omega, by rw [bs_size]; omega⟩]
  simp [extract_bs]
@[simp] theorem gopt_none {d : Int} : gopt d none = some d := rfl
@[simp] theorem gopt_some {d n : Int} {k : IntKind} : gopt d (some (.int k n)) = some n := rfl
theorem gbytes : ∀ (l : List UInt8), (l.flatMap cy).mapM gbyte = some (l.map fun b => (b.toNat : Int))
  | [] => rfl
  | x :: l => by
    rw [List.flatMap_cons, List.cons_append, List.nil_append, List.mapM_cons, gbytes l]
    rfl
@[simp] theorem kbstr_emp {h : Heap} : kbstr h .emp = some (.str (bs [])) := rfl
@[simp] theorem kbstr_nils {h : Heap} : kbstr h .nils = some (.str (bs [])) := rfl
theorem u8_lt (b : UInt8) : (b.toNat : Int) ≤ 255 := by have := b.toNat_lt; omega
end Go.Proofs.Ytlbnioapepelnaa.G
