/- What the machine with continuations answers, the machine G answers: all operations. -/
import Derived.Test.YtklhdbkaejbajaaDoorK3
namespace Go.Proofs.YtklhdbkaejbajaaDoor.G
open Go.RowKit
set_option linter.unusedVariables false
set_option linter.unusedSimpArgs false

section
variable {P : Program} {C : Cfg} {R : Type} {r : R} {h : Heap} {ev : Operand → Option GV} {o : Oper} {K : GV → Heap → Option R}

theorem glen_cells {es n : Nat} {v : GV} {cs : List GV} {l : List Nat} (e : gcells h es v = some (n, cs, l)) : True := trivial

theorem kop_sound (hev : ∀ g, ev (.func g) = some (.fn g [])) (e : kop P C (nω P C) (kω P C) ev o h K = some r) : OpG P C ev o h K r := by
  cases ho : o.op with
  | call c => exact kop_call hev rfl rfl ho e
  | move x =>
    simp only [kop, ho, got_iff] at e
    obtain ⟨v, h1, h2⟩ := e
    exact .same (fun m => by simp [gop, ho, h1]) h2
  | assign x =>
    simp only [kop, ho, got_iff] at e
    obtain ⟨v, h1, h2⟩ := e
    exact .same (fun m => by simp [gop, ho, h1]) h2
  | pick c a b =>
    simp only [kop, ho, got_iff] at e
    obtain ⟨c, h1, a, h2, b, h3, e⟩ := e
    obtain ⟨v, h4, h5⟩ := Option.bind_eq_some_iff.1 e
    unfold kpick at h4
    split at h4
    · simp only [Option.some.injEq] at h4; subst h4
      exact .same (fun m => by simp [gop, ho, h1, h2, h3]) h5
    · cases h4
  | alloc t =>
    simp only [kop, ho, got_iff] at e
    obtain ⟨z, h1, h2⟩ := e
    exact ⟨0, _, _, .nil, by simp only [gop, ho, h1, Option.bind_eq_bind, Option.bind_some], h2, ⟨fun _ => rfl, fun _ => rfl, by simp [effOf, ho], fun _ i hi => by cases hi⟩⟩
  | box t x =>
    simp only [kop, ho, got_iff] at e
    obtain ⟨z, h1, h2⟩ := e
    exact ⟨0, _, _, .nil, by simp only [gop, ho, h1, Option.bind_eq_bind, Option.bind_some], h2, ⟨fun _ => rfl, fun _ => rfl, by simp [effOf, ho], fun _ i hi => by cases hi⟩⟩
  | build t parts =>
    simp only [kop, ho, got_iff] at e
    obtain ⟨z, h1, ps, h2, e⟩ := e
    have h2 : gparts ev parts = some ps := evps_gparts h2
    split at e
    · rename_i fs hu
      simp only [got_iff] at e
      obtain ⟨places, h3, e⟩ := e
      obtain ⟨cs, h4, h5⟩ := Option.bind_eq_some_iff.1 e
      have h3 := placesOf_mapM h3
      exact .same (v := .agg cs) (fun m => by simp only [gop, ho, h1, h2, hu, h3, Option.bind_eq_bind, Option.bind_some]; rw [h4]; rfl) h5
    · rename_i n el hu
      simp only [got_iff] at e
      obtain ⟨m, h3, e⟩ := e
      obtain ⟨cs, h4, h5⟩ := Option.bind_eq_some_iff.1 e
      exact .same (v := .agg cs) (fun m => by simp only [gop, ho, h1, h2, hu, h3, Option.bind_eq_bind, Option.bind_some]; rw [h4]; rfl) h5
    · cases e
  | buildSlice t len parts =>
    simp only [kop, ho] at e
    split at e
    · rename_i el hu
      simp only [got_iff] at e
      obtain ⟨n, h1, z, h2, ps, h3, e⟩ := e
      have h3 : gparts ev parts = some ps := evps_gparts h3
      cases hc : (Nat.ble (len * n) 16777216 && Nat.beq z.length n) with
      | false => simp only [hc, cond_false] at e; cases e
      | true =>
        simp only [hc, cond_true] at e
        obtain ⟨cs, h4, h5⟩ := Option.bind_eq_some_iff.1 e
        simp only [Bool.and_eq_true, Nat.ble_eq, Nat.beq_eq] at hc
        cases len with
        | zero =>
          refine ⟨0, _, _, .nil, ?_, h5, ⟨fun _ => rfl, fun _ => rfl, by simp [effOf, ho], fun _ i hi => by cases hi⟩⟩
          simp only [gop, ho, h1, h2, h3, hu, Option.bind_eq_bind, Option.bind_some]
          rw [if_pos hc]
          rw [h4]
          rfl
        | succ len =>
          refine ⟨0, _, _, .nil, ?_, h5, ⟨fun _ => rfl, fun _ => rfl, by simp [effOf, ho], fun _ i hi => by cases hi⟩⟩
          simp only [gop, ho, h1, h2, h3, hu, Option.bind_eq_bind, Option.bind_some]
          rw [if_pos hc]
          rw [h4]
          rfl
    · cases e
  | load t a =>
    simp only [kop, ho, got_iff] at e
    obtain ⟨x, h1, e⟩ := e
    obtain ⟨v, h2, h3⟩ := Option.bind_eq_some_iff.1 e
    obtain ⟨l, h4⟩ := kload_g h2
    exact ⟨0, v, h, ⟨l, []⟩, by simp [gop, ho, h1, h4], h3, ⟨by simp [effOf, ho], fun _ => rfl, fun _ => rfl, fun _ => gload_bd h4⟩⟩
  | store t a x =>
    simp only [kop, ho, got_iff] at e
    obtain ⟨p, h1, v, h2, n, h3, e⟩ := e
    obtain ⟨h', h4, h5⟩ := Option.bind_eq_some_iff.1 e
    obtain ⟨i, h6⟩ := kstore_g h3 h4
    refine ⟨0, .un, h', ⟨[], [i]⟩, by simp [gop, ho, h1, h2, h6], h5, ⟨fun _ => rfl, by simp [effOf, ho], fun _ => ?_, fun _ i hi => by cases hi⟩⟩
    unfold kstore at h4
    split at h4
    · split at h4
      · obtain ⟨cs, h7, h8⟩ := Option.bind_eq_some_iff.1 h4
        split at h8
        · simp only [Option.some.injEq] at h8; subst h8; simp
        · cases h8
      · cases h4
    · cases h4
  | nilCheck x =>
    simp only [kop, ho, got_iff] at e
    obtain ⟨v, h1, e⟩ := e
    obtain ⟨u, h2, h3⟩ := Option.bind_eq_some_iff.1 e
    unfold knil at h2
    split at h2 <;> first
      | (simp only [Option.some.injEq] at h2; subst h2; exact .same (fun m => by simp [gop, ho, h1]) h3)
      | cases h2
  | binOp op t x y ty =>
    simp only [kop, ho, got_iff] at e
    obtain ⟨a, h1, b, h2, e⟩ := e
    obtain ⟨v, h3, h4⟩ := Option.bind_eq_some_iff.1 e
    exact .same (fun m => by simp [gop, ho, h1, h2, kbinop_g h3]) h4
  | unOp op t x =>
    simp only [kop, ho, got_iff] at e
    obtain ⟨a, h1, e⟩ := e
    obtain ⟨v, h2, h3⟩ := Option.bind_eq_some_iff.1 e
    unfold kun at h2
    split at h2 <;> first
      | (simp only [Option.some.injEq] at h2; subst h2; exact .same (fun m => by simp [gop, ho, h1]) h3)
      | cases h2
  | convert s d x =>
    simp only [kop, ho, got_iff] at e
    obtain ⟨a, h1, e⟩ := e
    split at e
    · rename_i k hs hd
      obtain ⟨v, h2, h3⟩ := Option.bind_eq_some_iff.1 e
      unfold kconvI at h2
      split at h2
      · simp only [Option.some.injEq] at h2; subst h2
        exact .same (fun m => by simp [gop, ho, h1, gconvert, hs, hd]) h3
      · cases h2
    · rename_i hs hd
      obtain ⟨v, h2, h3⟩ := Option.bind_eq_some_iff.1 e
      rw [kstr_iff] at h2
      subst h2
      exact .same (fun m => by simp [gop, ho, h1, gconvert, hs, hd]) h3
    · rename_i el hs hd
      split at e
      · rename_i he
        obtain ⟨v, h2, h3⟩ := Option.bind_eq_some_iff.1 e
        rw [kstr_iff] at h2
        subst h2
        exact ⟨0, _, _, .nil, by simp only [gop, ho, h1, gconvert, hs, hd, he, Option.bind_eq_bind, Option.bind_some]; rfl, h3, ⟨fun _ => rfl, fun _ => rfl, by simp [effOf, ho], fun _ i hi => by cases hi⟩⟩
      · cases e
    · rename_i el hs hd
      split at e
      · rename_i he
        obtain ⟨v, h2, h3⟩ := Option.bind_eq_some_iff.1 e
        have : ∃ l, gconvert P s d a h = some (v, h, ⟨l, []⟩) ∧ ∀ i ∈ l, i < h.length := by
          unfold kbstr at h2
          split at h2
          · cases h2
          · cases h2
          · rename_i hn1 hn2
            obtain ⟨⟨n, cs, l⟩, h4, h5⟩ := Option.bind_eq_some_iff.1 h2
            obtain ⟨ns, h6, h7⟩ := Option.bind_eq_some_iff.1 h5
            split at h7
            · rename_i hl
              simp only [Option.some.injEq] at h7
              subst h7
              refine ⟨l, ?_, gcells_bd h4⟩
              cases a <;> first
                | exact absurd rfl (hn1 _)
                | exact absurd rfl (hn2 _ _)
                | (simp only [gconvert, hs, hd, he, h4, h6, Option.bind_eq_bind, Option.bind_some]; rw [if_pos hl])
            · cases h7
        obtain ⟨l, h4, h5⟩ := this
        exact ⟨0, v, h, ⟨l, []⟩, by simp [gop, ho, h1, h4], h3, ⟨by simp [effOf, ho], fun _ => rfl, fun _ => rfl, fun _ => h5⟩⟩
      · cases e
    · cases e
  | makeInterface t x =>
    simp only [kop, ho, got_iff] at e
    obtain ⟨a, h1, e⟩ := e
    split at e
    · cases e
    · rename_i d hne hu
      refine .same (v := .ifc) (fun m => ?_) e
      simp only [gop, ho, h1, hu, Option.bind_eq_bind, Option.bind_some]
    all_goals cases e
  | makeFunc f first caps =>
    cases f with
    | func f =>
      simp only [kop, ho, got_iff] at e
      obtain ⟨cs, h1, e⟩ := e
      have h1 := evs_mapM h1
      cases hc : Nat.beq first.size 0 with
      | false => simp only [hc, cond_false] at e; cases e
      | true =>
        simp only [hc, cond_true] at e
        have hc' : first.size = 0 := Nat.eq_of_beq_eq_true hc
        exact .same (v := .fn f cs) (fun m => by simp [gop, ho, h1, hc']) e
    | _ => simp only [kop, ho] at e; cases e
  | makeSlice t l c =>
    simp only [kop, ho] at e
    split at e
    · rename_i el hu
      simp only [got_iff] at e
      obtain ⟨info, h1, z, h2, gl, h3, gc, h4, e⟩ := e
      obtain ⟨⟨v, h'⟩, h5, h6⟩ := Option.bind_eq_some_iff.1 e
      unfold kmake at h5
      obtain ⟨len, h7, h51⟩ := Option.bind_eq_some_iff.1 h5
      obtain ⟨cap, h8, h52⟩ := Option.bind_eq_some_iff.1 h51
      obtain ⟨k1, hl1⟩ := kint_iff.1 h7
      obtain ⟨k2, hl2⟩ := kint_iff.1 h8
      rw [hl1] at h3
      rw [hl2] at h4
      clear h5 h51
      split at h52
      · rename_i hc
        simp only [Option.some.injEq, Prod.mk.injEq] at h52
        obtain ⟨rfl, rfl⟩ := h52
        refine ⟨0, _, _, .nil, ?_, h6, ⟨fun _ => rfl, fun _ => rfl, by simp [effOf, ho], fun _ i hi => by cases hi⟩⟩
        simp only [gop, ho, h1, h2, h3, h4, hu, Option.bind_eq_bind, Option.bind_some]
        rw [if_pos hc]
      · cases h52
    · cases e
  | slice t x lo hi mx =>
    simp only [kop, ho, got_iff] at e
    obtain ⟨a, h1, l, h2, u, h3, m, h4, e⟩ := e
    have h2 := evm_gmay h2
    have h3 := evm_gmay h3
    have h4 := evm_gmay h4
    split at e
    · rename_i hu
      obtain ⟨v, h5, h6⟩ := Option.bind_eq_some_iff.1 e
      unfold kslS at h5
      obtain ⟨s, h7, h8⟩ := Option.bind_eq_some_iff.1 h5
      rw [kstr_iff] at h7
      subst h7
      exact .same (fun m => by simp [gop, ho, h1, h2, h3, h4, hu, kslice_g (P := P) (t := t) h8]) h6
    · rename_i el hu
      simp only [got_iff] at e
      obtain ⟨es, h5, e⟩ := e
      obtain ⟨v, h6, h7⟩ := Option.bind_eq_some_iff.1 e
      refine .same (v := v) (fun m => ?_) h7
      unfold ksl at h6
      split at h6
      · split at h6
        · rename_i hes; subst hes
          simp [gop, ho, h1, h2, h3, h4, hu, h5, kslice_g (P := P) (t := t) h6]
        · cases h6
      · split at h6
        · rename_i tg n es' cells hes
          have hes' : gsize P el = some es' ∨ (n = 0 ∧ (gsize P el).isSome = true) := by
            rcases hes with rfl | hes
            · exact .inl h5
            · exact .inr ⟨hes, by rw [h5]; rfl⟩
          simp only [gop, ho, h1, h2, h3, h4, hu, Option.bind_eq_bind, Option.bind_some]
          rw [if_pos hes', kslice_g (P := P) (t := t) h6]
          rfl
        · cases h6
      · simp [gop, ho, h1, h2, h3, h4, hu, h5, kslice_g (P := P) (t := t) h6]
      · simp [gop, ho, h1, h2, h3, h4, hu, h5, kslice_g (P := P) (t := t) h6]
      · cases h6
    · cases e
  | fieldAddr s x f =>
    simp only [kop, ho] at e
    split at e
    · rename_i fs hu
      simp only [got_iff] at e
      obtain ⟨fd, h1, n, h2, e⟩ := e
      cases hn : Nat.beq n 0 with
      | true => simp only [hn, cond_true] at e; cases e
      | false =>
        simp only [hn, cond_false, got_iff] at e
        obtain ⟨a, h3, e⟩ := e
        obtain ⟨v, h4, h5⟩ := Option.bind_eq_some_iff.1 e
        have hn' : n ≠ 0 := Nat.ne_of_beq_eq_false hn
        unfold kfa at h4
        split at h4 <;> first
          | (simp only [Option.some.injEq] at h4; subst h4; exact .same (fun m => by simp [gop, ho, hu, h1, h2, h3, hn']) h5)
          | cases h4
    · cases e
  | field t x f =>
    simp only [kop, ho] at e
    split at e
    · rename_i fs hu
      simp only [got_iff] at e
      obtain ⟨fd, h1, a, h2, e⟩ := e
      obtain ⟨cs, h3, e⟩ := Option.bind_eq_some_iff.1 e
      obtain ⟨v, h4, h5⟩ := Option.bind_eq_some_iff.1 e
      rw [kcs_iff] at h3
      subst h3
      exact .same (fun m => by simp [gop, ho, hu, h1, h2, kpart_g h4]) h5
    · cases e
  | indexAddr t x y =>
    simp only [kop, ho, got_iff] at e
    obtain ⟨a, h1, gi, h2, e⟩ := e
    split at e
    · rename_i el hu
      simp only [got_iff] at e
      obtain ⟨es, h3, e⟩ := e
      obtain ⟨v, h4, h5⟩ := Option.bind_eq_some_iff.1 e
      unfold kia at h4
      obtain ⟨i, h6, h7⟩ := Option.bind_eq_some_iff.1 h4
      obtain ⟨k, rfl⟩ := kint_iff.1 h6
      refine .same (v := v) (fun m => ?_) h5
      split at h7
      · split at h7
        · rename_i hc
          obtain ⟨rfl, hc⟩ := hc
          simp only [gop, ho, h1, h2, hu, Option.bind_eq_bind, Option.bind_some]
          rw [if_pos ⟨h3, hc⟩]
          simpa using h7
        · cases h7
      · split at h7
        · rename_i hc
          obtain ⟨rfl, hc⟩ := hc
          simp only [gop, ho, h1, h2, hu, Option.bind_eq_bind, Option.bind_some]
          rw [if_pos ⟨h3, hc⟩]
          simpa using h7
        · cases h7
      · cases h7
    · cases e
  | index t x y =>
    simp only [kop, ho, got_iff] at e
    obtain ⟨a, h1, gi, h2, e⟩ := e
    split at e
    · rename_i hu
      obtain ⟨v, h4, h5⟩ := Option.bind_eq_some_iff.1 e
      unfold kbyte at h4
      obtain ⟨s, h6, h41⟩ := Option.bind_eq_some_iff.1 h4
      obtain ⟨i, h7, h42⟩ := Option.bind_eq_some_iff.1 h41
      rw [kstr_iff] at h6
      rw [h6] at h1
      obtain ⟨k, hk⟩ := kint_iff.1 h7
      rw [hk] at h2
      clear h4 h41
      split at h42
      · rename_i hi
        split at h42
        · rename_i h0
          simp only [Option.some.injEq] at h42
          subst h42
          refine .same (fun m => ?_) h5
          simp only [gop, ho, h1, h2, hu, Option.bind_eq_bind, Option.bind_some]
          rw [dif_pos hi, if_pos h0]
        · cases h42
      · cases h42
    · rename_i len el hu
      simp only [got_iff] at e
      obtain ⟨n, h3, e⟩ := e
      obtain ⟨cs, h4, e1⟩ := Option.bind_eq_some_iff.1 e
      obtain ⟨i, h5, e2⟩ := Option.bind_eq_some_iff.1 e1
      rw [kcs_iff] at h4
      rw [h4] at h1
      obtain ⟨k, hk⟩ := kint_iff.1 h5
      rw [hk] at h2
      clear e e1
      split at e2
      · rename_i hc
        obtain ⟨v, h6, h7⟩ := Option.bind_eq_some_iff.1 e2
        refine .same (v := v) (fun m => ?_) h7
        simp only [gop, ho, h1, h2, hu, h3, Option.bind_eq_bind, Option.bind_some]
        rw [if_pos hc, kpart_g h6]
        rfl
      · cases e2
    · cases e
  | extract t i =>
    simp only [kop, ho, got_iff] at e
    obtain ⟨a, h1, e⟩ := e
    obtain ⟨v, h2, h3⟩ := Option.bind_eq_some_iff.1 e
    unfold kxt at h2
    split at h2
    · exact .same (fun m => by simp [gop, ho, h1, h2]) h3
    · cases h2
  | _ => simp only [kop, ho] at e; cases e

/-- What an operation touched is no more than what is written down of it. -/
def LogIn (a b : Lg) : Prop := (∀ i ∈ a.r, i ∈ b.r) ∧ (∀ i ∈ a.w, i ∈ b.w)
theorem LogIn.nil {b : Lg} : LogIn .nil b := ⟨fun i hi => (by cases hi), fun i hi => (by cases hi)⟩

theorem gread_blk {a : GV} {n : Nat} {cs : List GV} {l : List Nat} (e : gread h a n = some (cs, l)) : ∀ i ∈ l, i ∈ kblk a := by
  unfold gread at e
  split at e
  · simp only [Option.bind_eq_bind, Option.bind_eq_some_iff] at e
    obtain ⟨cs0, h1, e⟩ := e
    split at e
    · simp only [Option.some.injEq, Prod.mk.injEq] at e; obtain ⟨_, rfl⟩ := e; simp [kblk]
    · cases e
  · split at e
    · simp only [Option.some.injEq, Prod.mk.injEq] at e; obtain ⟨_, rfl⟩ := e; simp
    · cases e
  · cases e
theorem gload_blk {t : TypeId} {a v : GV} {l : List Nat} (e : gload P h t a = some (v, l)) : ∀ i ∈ l, i ∈ kblk a := by
  unfold gload at e
  simp only [Option.bind_eq_bind, Option.bind_eq_some_iff] at e
  obtain ⟨b, h1, e⟩ := e
  cases b with
  | true =>
    simp only [if_true, Option.bind_eq_some_iff, Option.some.injEq, Prod.mk.injEq] at e
    obtain ⟨n, h2, ⟨cs, r⟩, h3, _, rfl⟩ := e
    exact gread_blk h3
  | false =>
    simp only [Bool.false_eq_true, if_false, Option.bind_eq_some_iff] at e
    obtain ⟨⟨cs, r⟩, h3, e⟩ := e
    split at e
    · simp only [Option.some.injEq, Prod.mk.injEq] at e; obtain ⟨_, rfl⟩ := e; exact gread_blk h3
    · cases e
theorem gcells_blk {es n : Nat} {v : GV} {cs : List GV} {l : List Nat} (e : gcells h es v = some (n, cs, l)) : ∀ i ∈ l, i ∈ kblk v := by
  unfold gcells at e
  split at e
  · simp only [Option.bind_eq_bind, Option.bind_eq_some_iff] at e
    obtain ⟨cs0, h1, e⟩ := e
    split at e
    · simp only [Option.some.injEq, Prod.mk.injEq] at e; obtain ⟨_, _, rfl⟩ := e; simp [kblk]
    · cases e
  · split at e
    · simp only [Option.some.injEq, Prod.mk.injEq] at e; obtain ⟨_, _, rfl⟩ := e; simp
    · split at e
      · simp only [Option.some.injEq, Prod.mk.injEq] at e; obtain ⟨_, _, rfl⟩ := e; simp
      · cases e
  · simp only [Option.some.injEq, Prod.mk.injEq] at e; obtain ⟨_, _, rfl⟩ := e; simp
  · simp only [Option.some.injEq, Prod.mk.injEq] at e; obtain ⟨_, _, rfl⟩ := e; simp
  · split at e
    · simp only [Option.some.injEq, Prod.mk.injEq] at e; obtain ⟨_, _, rfl⟩ := e; simp
    · cases e
  · cases e
theorem gappz_blk {t : TypeId} {s x v : GV} {h' : Heap} {lg : Lg} (e : gappz P h t s x = some (v, h', lg)) : LogIn lg ⟨kblk s ++ kblk x, kblk s⟩ := by
  unfold gappz at e
  simp only [Option.bind_eq_bind, Option.bind_eq_some_iff] at e
  obtain ⟨dd, hu, e⟩ := e
  split at e
  · simp only [Option.bind_eq_some_iff] at e
    obtain ⟨info, hi, z, hz, e⟩ := e
    split at e
    · split at e
      · split at e <;> (simp only [Option.some.injEq, Prod.mk.injEq] at e; obtain ⟨rfl, rfl, rfl⟩ := e; exact ⟨fun i hi => (by cases hi), fun i hi => (by cases hi)⟩)
      · cases e
    · cases e
  · cases e

theorem gappend_blk {t : TypeId} {s x v : GV} {h' : Heap} {lg : Lg} (e : gappend P h t s x = some (v, h', lg)) : LogIn lg ⟨kblk s ++ kblk x, kblk s⟩ := by
  unfold gappend at e
  simp only [Option.bind_eq_bind, Option.bind_eq_some_iff] at e
  obtain ⟨dd, hu, e⟩ := e
  split at e
  · simp only [Option.bind_eq_some_iff] at e
    obtain ⟨info, hi, ⟨n, new, r⟩, hc, z, hz, e⟩ := e
    have hb := gcells_blk hc
    have base : ∀ (a : List Nat), LogIn ⟨r, []⟩ ⟨a ++ kblk x, a⟩ := fun a => ⟨fun i hi => List.mem_append.2 (.inr (hb i hi)), fun i hi => by cases hi⟩
    split at e
    · split at e
      · split at e <;> (simp only [Option.some.injEq, Prod.mk.injEq] at e; obtain ⟨_, _, rfl⟩ := e; exact base _)
      · split at e <;> (simp only [Option.some.injEq, Prod.mk.injEq] at e; obtain ⟨_, _, rfl⟩ := e; exact base _)
      · simp only [Option.bind_eq_some_iff] at e
        obtain ⟨cs, hcs, e⟩ := e
        have fin : ∀ i, LogIn ⟨i :: r, [i]⟩ ⟨[i] ++ kblk x, [i]⟩ := fun i => ⟨fun k hk => by
            simp only [List.mem_cons] at hk
            rcases hk with rfl | hk
            · simp
            · exact List.mem_append.2 (.inr (hb k hk)), fun k hk => hk⟩
        split at e
        · split at e
          · simp only [Option.some.injEq, Prod.mk.injEq] at e; obtain ⟨_, _, rfl⟩ := e; exact fin _
          · split at e
            · simp only [Option.some.injEq, Prod.mk.injEq] at e; obtain ⟨_, _, rfl⟩ := e; exact fin _
            · cases e
        · cases e
      · cases e
    · cases e
  · cases e
theorem gclear_blk {t : TypeId} {d v : GV} {h' : Heap} {lg : Lg} (e : gclear P h t d = some (v, h', lg)) : LogIn lg ⟨[], kblk d⟩ := by
  unfold gclear at e
  simp only [Option.bind_eq_bind, Option.bind_eq_some_iff] at e
  obtain ⟨dd, hu, e⟩ := e
  split at e
  · simp only [Option.bind_eq_some_iff] at e
    obtain ⟨z, hi, e⟩ := e
    split at e
    · simp only [Option.some.injEq, Prod.mk.injEq] at e; obtain ⟨_, _, rfl⟩ := e; exact ⟨fun i hi => (by cases hi), fun i hi => by cases hi⟩
    · simp only [Option.some.injEq, Prod.mk.injEq] at e; obtain ⟨_, _, rfl⟩ := e; exact ⟨fun i hi => (by cases hi), fun i hi => by cases hi⟩
    · simp only [Option.bind_eq_some_iff] at e
      obtain ⟨cs, hcs, e⟩ := e
      split at e
      · simp only [Option.some.injEq, Prod.mk.injEq] at e; obtain ⟨_, _, rfl⟩ := e; exact ⟨fun i hi => (by cases hi), fun i hi => hi⟩
      · cases e
    · cases e
  · cases e
theorem gcopy_blk {t : TypeId} {d x v : GV} {h' : Heap} {lg : Lg} (e : gcopy P h t d x = some (v, h', lg)) : LogIn lg ⟨kblk x, kblk d⟩ := by
  unfold gcopy at e
  simp only [Option.bind_eq_bind, Option.bind_eq_some_iff] at e
  obtain ⟨dd, hu, e⟩ := e
  split at e
  · simp only [Option.bind_eq_some_iff] at e
    obtain ⟨es, hi, ⟨n, new, r⟩, hc, e⟩ := e
    have hb := gcells_blk hc
    split at e
    · split at e
      · simp only [Option.some.injEq, Prod.mk.injEq] at e; obtain ⟨_, _, rfl⟩ := e; exact ⟨hb, fun i hi => by cases hi⟩
      · simp only [Option.some.injEq, Prod.mk.injEq] at e; obtain ⟨_, _, rfl⟩ := e; exact ⟨hb, fun i hi => by cases hi⟩
      · simp only [Option.bind_eq_some_iff] at e
        obtain ⟨cs, hcs, e⟩ := e
        split at e
        · simp only [Option.some.injEq, Prod.mk.injEq] at e; obtain ⟨_, _, rfl⟩ := e; exact ⟨hb, fun i hi => hi⟩
        · cases e
      · cases e
    · cases e
  · cases e
theorem mapM_ebor {ev : Operand → Option GV} : ∀ {l : List Operand} {gs : List GV} {ys : List (GV × List Nat)}, l.mapM ev = some gs → gs.mapM (bor 9 h) = some ys → ∀ i ∈ (ys.map (·.2)).flatten, i ∈ l.flatMap (ebor ev h)
  | [], gs, ys, e1, e2 => by simp at e1; subst e1; simp at e2; subst e2; simp
  | x :: l, gs, ys, e1, e2 => by
    simp only [List.mapM_cons, Option.bind_eq_bind, Option.bind_eq_some_iff, Option.pure_def, Option.some.injEq] at e1
    obtain ⟨g, h1, gs', h2, rfl⟩ := e1
    simp only [List.mapM_cons, Option.bind_eq_bind, Option.bind_eq_some_iff, Option.pure_def, Option.some.injEq] at e2
    obtain ⟨y, h3, ys', h4, rfl⟩ := e2
    intro i hi
    simp only [List.map_cons, List.flatten_cons, List.mem_append] at hi
    simp only [List.flatMap_cons, List.mem_append]
    rcases hi with hi | hi
    · exact .inl (by simp only [ebor, h1, h3]; exact hi)
    · exact .inr (mapM_ebor h2 h4 i hi)

theorem gop_klog0 {call : GCall} (hev : ∀ g, ev (.func g) = some (.fn g [])) {v : GV} {h' : Heap} {lg : Lg} (e : gop P C call ev o h = some (v, h', lg)) (hl : logOk0 C o.op = true) (ef : EffOk (effOf C o.op) h lg h') : LogIn lg (klog0 ev h o.op) := by
  cases ho : o.op with
  | load t a =>
    simp only [gop, ho, Option.bind_eq_bind, Option.bind_eq_some_iff, Option.some.injEq, Prod.mk.injEq] at e
    obtain ⟨x, h1, ⟨v', r⟩, h2, _, _, rfl⟩ := e
    exact ⟨by simp only [klog0, eblk, h1]; exact gload_blk h2, fun i hi => by cases hi⟩
  | store t a x =>
    simp only [gop, ho, Option.bind_eq_bind, Option.bind_eq_some_iff, Option.some.injEq, Prod.mk.injEq] at e
    obtain ⟨p, h1, v', h2, ⟨h3, i⟩, h4, _, _, rfl⟩ := e
    refine ⟨fun i hi => (by cases hi), ?_⟩
    simp only [klog0, eblk, h1]
    unfold gstore at h4
    simp only [Option.bind_eq_bind, Option.bind_eq_some_iff] at h4
    obtain ⟨n, hn, h4⟩ := h4
    split at h4
    · split at h4
      · simp only [Option.bind_eq_some_iff] at h4
        obtain ⟨cs, hcs, h4⟩ := h4
        split at h4
        · simp only [Option.some.injEq, Prod.mk.injEq] at h4
          obtain ⟨_, rfl⟩ := h4
          simp [kblk]
        · cases h4
      · cases h4
    · cases h4
  | convert s d x =>
    simp only [gop, ho, Option.bind_eq_bind, Option.bind_eq_some_iff] at e
    obtain ⟨a, h1, e⟩ := e
    simp only [klog0, eblk, h1]
    unfold gconvert at e
    split at e
    · simp only [Option.some.injEq, Prod.mk.injEq] at e; obtain ⟨_, _, rfl⟩ := e; exact .nil
    · simp only [Option.some.injEq, Prod.mk.injEq] at e; obtain ⟨_, _, rfl⟩ := e; exact .nil
    · split at e
      · simp only [Option.some.injEq, Prod.mk.injEq] at e; obtain ⟨_, _, rfl⟩ := e; exact .nil
      · cases e
    · split at e
      · split at e
        · cases e
        · cases e
        · simp only [Option.bind_eq_bind, Option.bind_eq_some_iff] at e
          obtain ⟨⟨n, cs, r⟩, hc, ns, hns, e⟩ := e
          split at e
          · simp only [Option.some.injEq, Prod.mk.injEq] at e; obtain ⟨_, _, rfl⟩ := e
            exact ⟨gcells_blk hc, fun i hi => by cases hi⟩
          · cases e
      · cases e
    · cases e
  | call c =>
    rw [ho] at hl
    cases hc : c.callee with
    | invoke a b => simp [logOk0, hc] at hl
    | value f =>
      cases f with
      | func g =>
        simp only [logOk0, hc, Bool.not_eq_true'] at hl
        simp only [gop, ho, hc, hev, Option.bind_eq_bind, Option.bind_some, Option.bind_eq_some_iff] at e
        obtain ⟨args, h1, e⟩ := e
        rw [List.append_nil] at e
        unfold gcallee at e
        split at e
        · cases e
        · split at e
          · split at e
            · simp only [Option.bind_eq_bind, Option.bind_eq_some_iff, Option.some.injEq, Prod.mk.injEq] at e
              obtain ⟨xs, h2, v', h3, _, _, rfl⟩ := e
              exact ⟨by simp only [klog0, hc]; exact mapM_ebor h1 h2, fun i hi => by cases hi⟩
            · rename_i hx
              have hne : C.heapy g = false := by simpa [hx] using hl
              rw [if_neg (by simp [hne])] at e
              split at e
              · simp only [Option.bind_eq_bind, Option.bind_eq_some_iff] at e
                obtain ⟨xs, h2, e⟩ := e
                split at e
                · split at e
                  · simp only [Option.some.injEq, Prod.mk.injEq] at e
                    obtain ⟨_, _, rfl⟩ := e
                    exact ⟨by simp only [klog0, hc]; exact mapM_ebor h1 h2, fun i hi => by cases hi⟩
                  · cases e
                simp only [Option.bind_eq_some_iff] at e
                obtain ⟨⟨v1, h1', l1⟩, h3, ⟨v2, vis, bl⟩, h4, e⟩ := e
                split at e
                · simp only [Option.some.injEq, Prod.mk.injEq] at e
                  obtain ⟨_, _, rfl⟩ := e
                  exact ⟨by simp only [klog0, hc]; exact mapM_ebor h1 h2, fun i hi => by cases hi⟩
                · cases e
              simp only [Option.bind_eq_bind, Option.bind_eq_some_iff, Option.some.injEq, Prod.mk.injEq] at e
              obtain ⟨xs, h2, ⟨v1, h1', l1⟩, h3, ⟨v2, r2⟩, h4, _, _, rfl⟩ := e
              exact ⟨by simp only [klog0, hc]; exact mapM_ebor h1 h2, fun i hi => by cases hi⟩
          · cases e
      | _ => simp [logOk0, hc] at hl
    | builtin b =>
      simp only [gop, ho, hc, Option.bind_eq_bind, Option.bind_eq_some_iff] at e
      obtain ⟨args, h1, e⟩ := e
      have two : ∀ a b, args = [a, b] → ∃ x y, c.args.toList = [x, y] ∧ ev x = some a ∧ ev y = some b := by
        intro a b hab
        subst hab
        have hlen := mapM_len h1
        match hl2 : c.args.toList, hlen, h1 with
        | [x, y], _, h1 =>
          simp only [List.mapM_cons, List.mapM_nil, Option.bind_eq_bind, Option.bind_eq_some_iff, Option.pure_def, Option.some.injEq] at h1
          obtain ⟨a', ha, l, ⟨b', hb, l2, rfl, rfl⟩, h3⟩ := h1
          simp only [List.cons.injEq] at h3
          obtain ⟨rfl, rfl, _⟩ := h3
          exact ⟨x, y, rfl, ha, hb⟩
      unfold gbuiltin at e
      split at e
      · simp only [Option.bind_eq_bind, Option.bind_eq_some_iff] at e
        obtain ⟨t, ht, e⟩ := e
        split at e
        · simp only [Option.some.injEq, Prod.mk.injEq] at e; obtain ⟨_, _, rfl⟩ := e; exact .nil
        · split at e
          · cases e
          · simp only [Option.bind_eq_some_iff, Option.some.injEq, Prod.mk.injEq] at e; obtain ⟨_, _, _, _, rfl⟩ := e; exact .nil
        · simp only [Option.some.injEq, Prod.mk.injEq] at e; obtain ⟨_, _, rfl⟩ := e; exact .nil
        · cases e
      · simp only [Option.bind_eq_bind, Option.bind_eq_some_iff] at e
        obtain ⟨t, ht, e⟩ := e
        split at e
        · simp only [Option.some.injEq, Prod.mk.injEq] at e; obtain ⟨_, _, rfl⟩ := e; exact .nil
        · simp only [Option.some.injEq, Prod.mk.injEq] at e; obtain ⟨_, _, rfl⟩ := e; exact .nil
        · cases e
      · simp only [Option.bind_eq_bind, Option.bind_eq_some_iff, Option.some.injEq, Prod.mk.injEq] at e; obtain ⟨_, _, _, _, rfl⟩ := e; exact .nil
      · simp only [Option.bind_eq_bind, Option.bind_eq_some_iff, Option.some.injEq, Prod.mk.injEq] at e; obtain ⟨_, _, _, _, rfl⟩ := e; exact .nil
      · rename_i s x
        simp only [Option.bind_eq_bind, Option.bind_eq_some_iff] at e
        obtain ⟨t, ht, t', ht', e⟩ := e
        obtain ⟨y1, y2, q1, q2, q3⟩ := two s x rfl
        simp only [klog0, hc, q1, eblk, q2, q3]
        split at e
        · exact gappz_blk e
        · exact gappend_blk e
        · cases e
      · rename_i s x
        simp only [Option.bind_eq_bind, Option.bind_eq_some_iff] at e
        obtain ⟨t, ht, e⟩ := e
        obtain ⟨y1, y2, q1, q2, q3⟩ := two s x rfl
        simp only [klog0, hc, q1, eblk, q2, q3]
        exact gcopy_blk e
      · rename_i s
        simp only [Option.bind_eq_bind, Option.bind_eq_some_iff] at e
        obtain ⟨t, ht, e⟩ := e
        obtain ⟨y1, q1, q2⟩ : ∃ y, c.args.toList = [y] ∧ ev y = some s := by
          have hlen := mapM_len h1
          match hl2 : c.args.toList, hlen, h1 with
          | [x], _, h1 =>
            simp only [List.mapM_cons, List.mapM_nil, Option.bind_eq_bind, Option.bind_eq_some_iff, Option.pure_def, Option.some.injEq] at h1
            obtain ⟨a', ha, l, rfl, h3⟩ := h1
            simp only [List.cons.injEq] at h3
            obtain ⟨rfl, _⟩ := h3
            exact ⟨x, rfl, ha⟩
        simp only [klog0, hc, q1, eblk, q2]
        exact gclear_blk e
      · cases e
  | _ =>
    have h1 := ef.r (by simp only [ho, effOf])
    have h2 := ef.w (by simp only [ho, effOf])
    exact ⟨fun i hi => (by rw [h1] at hi; cases hi), fun i hi => (by rw [h2] at hi; cases hi)⟩

/-! A call of a function that runs in its caller's heap. -/
mutual
theorem nbi_bk {S : Nat → Prop} : ∀ (g : GV), nbi g = true → Bki g S
  | .ptr _ _ _, h => by simp [nbi] at h
  | .sl _ _ _ _ _, h => by simp [nbi] at h
  | .fp _ cs, h => nbs_bk cs h
  | .fz _ _ _ cs, h => nbs_bk cs h
  | .fn _ cs, h => nbs_bk cs h
  | .agg cs, h => nbs_bk cs h
  | .tup cs, h => nbs_bk cs h
  | .int _ _, h => trivial
  | .bool _, h => trivial
  | .str _, h => trivial
  | .nilp, h => trivial
  | .nils, h => trivial
  | .emp, h => trivial
  | .nili, h => trivial
  | .ifc, h => trivial
  | .un, h => trivial
  | .dk _, h => trivial
theorem nbs_bk {S : Nat → Prop} : ∀ (l : List GV), nbs l = true → Bksi l S
  | [], h => trivial
  | g :: gs, h => by
    have h' : nbi g = true ∧ nbs gs = true := by simpa [nbs] using h
    exact ⟨nbi_bk g h'.1, nbs_bk gs h'.2⟩
end
/-- What was touched is written down, but for what is new. -/
def LogIn2 (n0 n1 : Nat) (a b : Lg) : Prop := (∀ i ∈ a.r, i ∈ b.r ∨ (n0 ≤ i ∧ i < n1)) ∧ (∀ i ∈ a.w, i ∈ b.w ∨ (n0 ≤ i ∧ i < n1))
theorem LogIn.two {n0 n1 : Nat} {a b : Lg} (h : LogIn a b) : LogIn2 n0 n1 a b := ⟨fun i hi => .inl (h.1 i hi), fun i hi => .inl (h.2 i hi)⟩
theorem mapM_getD {ev : Operand → Option GV} : ∀ {l : List Operand} {gs : List GV}, l.mapM ev = some gs → (l.map fun x => (ev x).getD .un) = gs
  | [], gs, e => by cases e; rfl
  | x :: l, gs, e => by
    simp only [List.mapM_cons, Option.bind_eq_bind, Option.bind_eq_some_iff, Option.pure_def, Option.some.injEq] at e
    obtain ⟨g, h1, gs', h2, rfl⟩ := e
    rw [List.map_cons, h1, mapM_getD h2]; rfl
theorem kreach_ok {args : List GV} {call : GCall} {g : FuncId} {v : GV} {h' : Heap} {lg : Lg} (hX : XReach C) (hC : CReach call) (hk : kflat h args = true) (e : gcallee P C call g args h = some (v, h', lg)) : LogIn2 h.length h'.length lg ⟨kreach h args, kreach h args⟩ := by
  have hk' := hk
  unfold kflat at hk'
  rw [Bool.and_eq_true, List.all_eq_true, List.all_eq_true] at hk'
  have q : ∀ i, (i ∈ args.flatMap kblk ∨ h.length ≤ i) ∧ i < h'.length → i ∈ kreach h args ∨ (h.length ≤ i ∧ i < h'.length) := fun i hi => by
    rcases hi.1 with h1 | h1
    · exact .inl h1
    · exact .inr ⟨h1, hi.2⟩
  have r := bk_callee (S := fun i => i ∈ args.flatMap kblk ∨ h.length ≤ i) hX hC (fun i hi => .inr hi) (Bks_iff.2 fun g hg => by
    have h1 := hk'.1 g hg
    rw [Bool.or_eq_true] at h1
    rcases h1 with h1 | h1
    · cases g <;> first
        | (exact .inl (List.mem_flatMap.2 ⟨_, hg, by simp [kblk]⟩))
        | (simp [kblk] at h1; done)
    · exact nbi_bk g h1) (fun i cs hi hh => by
      rcases hi with h1 | h1
      · have h2 := hk'.2 i h1
        rw [hh] at h2
        exact nbs_bk cs h2
      · rw [List.getElem?_eq_none h1] at hh; cases hh) e
  exact ⟨fun i hi => q i (r.r i hi), fun i hi => q i (r.w i hi)⟩
theorem gop_klog {call : GCall} (hX : XReach C) (hC : CReach call) (hev : ∀ g, ev (.func g) = some (.fn g [])) {v : GV} {h' : Heap} {lg : Lg} (e : gop P C call ev o h = some (v, h', lg)) (hl : logOk C o.op = true) (hf : kfine C ev h o.op = true) (ef : EffOk (effOf C o.op) h lg h') : LogIn2 h.length h'.length lg (klog C ev h o.op) := by
  cases hh : hcall C o.op with
  | none =>
    have h1 : klog C ev h o.op = klog0 ev h o.op := by unfold klog; rw [hh]
    rw [h1]
    unfold logOk at hl
    rw [hh] at hl
    exact (gop_klog0 hev e (by simpa using hl) ef).two
  | some l =>
    have h1 : klog C ev h o.op = ⟨kreach h (l.map fun x => (ev x).getD .un), kreach h (l.map fun x => (ev x).getD .un)⟩ := by unfold klog; rw [hh]
    rw [h1]
    have hh' := hh
    cases ho : o.op with
    | call c =>
      rw [ho] at hh
      cases hc : c.callee with
      | value f =>
        cases f with
        | func g =>
          simp only [gop, ho, hc, hev, Option.bind_eq_bind, Option.bind_some, Option.bind_eq_some_iff] at e
          obtain ⟨args, h2, e⟩ := e
          rw [List.append_nil] at e
          have hl' : l = c.args.toList := by
            simp only [hcall, hc] at hh
            cases hb : (C.heapy g && (C.ext g).isNone) with
            | false => rw [hb] at hh; cases hh
            | true => rw [hb] at hh; cases hh; rfl
          have hf' : kflat h (l.map fun x => (ev x).getD .un) = true := by unfold kfine at hf; rwa [hh'] at hf
          rw [hl', mapM_getD h2] at hf' ⊢
          exact kreach_ok hX hC hf' e
        | _ => simp [hcall, hc] at hh
      | _ => simp [hcall, hc] at hh
    | _ => rw [ho] at hh; simp [hcall] at hh

end

end Go.Proofs.YtklhdbkaejbajaaDoor.G
