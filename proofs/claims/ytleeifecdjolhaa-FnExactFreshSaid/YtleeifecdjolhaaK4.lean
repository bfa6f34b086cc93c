/- What the machine with continuations answers, the machine G answers: all operations. -/
import Derived.Test.YtleeifecdjolhaaK3
namespace Go.Proofs.Ytleeifecdjolhaa.G
open Go.RowKit
set_option linter.unusedVariables false
set_option linter.unusedSimpArgs false

section
variable {P : Program} {C : Cfg} {R : Type} {r : R} {h : Heap} {ev : Operand → Option GV} {o : Oper} {K : GV → Heap → Option R}

theorem glen_cells {es n : Nat} {v : GV} {cs : List GV} {l : List Nat} (e : gcells h es v = some (n, cs, l)) : True := trivial

theorem kop_sound (hev : ∀ g, ev (.func g) = some (.fn g [])) (e : kop P C (nω P C) (kω P C) ev o h K = some r) : OpG P C ev o h K r := by
  cases ho : o.op with
  | call c => exact kop_call hev rfl rfl ho e
  | move x =>
    simp only [kop, ho, got_iff] at e
    obtain ⟨v, h1, h2⟩ := e
    exact .same (fun m => by simp [gop, ho, h1]) h2
  | assign x =>
    simp only [kop, ho, got_iff] at e
    obtain ⟨v, h1, h2⟩ := e
    exact .same (fun m => by simp [gop, ho, h1]) h2
  | pick c a b =>
    simp only [kop, ho, got_iff] at e
    obtain ⟨c, h1, a, h2, b, h3, e⟩ := e
    obtain ⟨v, h4, h5⟩ := Option.bind_eq_some_iff.1 e
    unfold kpick at h4
    split at h4
    · simp only [Option.some.injEq] at h4; subst h4
      exact .same (fun m => by simp [gop, ho, h1, h2, h3]) h5
    · cases h4
  | alloc t =>
    simp only [kop, ho, got_iff] at e
    obtain ⟨z, h1, h2⟩ := e
    exact ⟨0, _, _, .nil, by simp only [gop, ho, h1, Option.bind_eq_bind, Option.bind_some], h2, ⟨fun _ => rfl, fun _ => rfl, by simp [effOf, ho], fun _ i hi => by cases hi⟩⟩
  | box t x =>
    simp only [kop, ho, got_iff] at e
    obtain ⟨z, h1, h2⟩ := e
    exact ⟨0, _, _, .nil, by simp only [gop, ho, h1, Option.bind_eq_bind, Option.bind_some], h2, ⟨fun _ => rfl, fun _ => rfl, by simp [effOf, ho], fun _ i hi => by cases hi⟩⟩
  | build t parts =>
    simp only [kop, ho, got_iff] at e
    obtain ⟨z, h1, ps, h2, e⟩ := e
    have h2 : gparts ev parts = some ps := evps_gparts h2
    split at e
    · rename_i fs hu
      simp only [got_iff] at e
      obtain ⟨places, h3, e⟩ := e
      obtain ⟨cs, h4, h5⟩ := Option.bind_eq_some_iff.1 e
      have h3 := placesOf_mapM h3
      exact .same (v := .agg cs) (fun m => by simp only [gop, ho, h1, h2, hu, h3, Option.bind_eq_bind, Option.bind_some]; rw [h4]; rfl) h5
    · rename_i n el hu
      simp only [got_iff] at e
      obtain ⟨m, h3, e⟩ := e
      obtain ⟨cs, h4, h5⟩ := Option.bind_eq_some_iff.1 e
      exact .same (v := .agg cs) (fun m => by simp only [gop, ho, h1, h2, hu, h3, Option.bind_eq_bind, Option.bind_some]; rw [h4]; rfl) h5
    · cases e
  | buildSlice t len parts =>
    simp only [kop, ho] at e
    split at e
    · rename_i el hu
      simp only [got_iff] at e
      obtain ⟨n, h1, z, h2, ps, h3, e⟩ := e
      have h3 : gparts ev parts = some ps := evps_gparts h3
      cases hc : (Nat.ble (len * n) 16777216 && Nat.beq z.length n) with
      | false => simp only [hc, cond_false] at e; cases e
      | true =>
        simp only [hc, cond_true] at e
        obtain ⟨cs, h4, h5⟩ := Option.bind_eq_some_iff.1 e
        simp only [Bool.and_eq_true, Nat.ble_eq, Nat.beq_eq] at hc
        refine ⟨0, _, _, .nil, ?_, h5, ⟨fun _ => rfl, fun _ => rfl, by simp [effOf, ho], fun _ i hi => by cases hi⟩⟩
        simp only [gop, ho, h1, h2, h3, hu, Option.bind_eq_bind, Option.bind_some]
        rw [if_pos hc]
        rw [h4]
        rfl
    · cases e
  | load t a =>
    simp only [kop, ho, got_iff] at e
    obtain ⟨x, h1, e⟩ := e
    obtain ⟨v, h2, h3⟩ := Option.bind_eq_some_iff.1 e
    obtain ⟨l, h4⟩ := kload_g h2
    exact ⟨0, v, h, ⟨l, []⟩, by simp [gop, ho, h1, h4], h3, ⟨by simp [effOf, ho], fun _ => rfl, fun _ => rfl, fun _ => gload_bd h4⟩⟩
  | store t a x =>
    simp only [kop, ho, got_iff] at e
    obtain ⟨p, h1, v, h2, n, h3, e⟩ := e
    obtain ⟨h', h4, h5⟩ := Option.bind_eq_some_iff.1 e
    obtain ⟨i, h6⟩ := kstore_g h3 h4
    refine ⟨0, .un, h', ⟨[], [i]⟩, by simp [gop, ho, h1, h2, h6], h5, ⟨fun _ => rfl, by simp [effOf, ho], fun _ => ?_, fun _ i hi => by cases hi⟩⟩
    unfold kstore at h4
    split at h4
    · split at h4
      · obtain ⟨cs, h7, h8⟩ := Option.bind_eq_some_iff.1 h4
        split at h8
        · simp only [Option.some.injEq] at h8; subst h8; simp
        · cases h8
      · cases h4
    · cases h4
  | nilCheck x =>
    simp only [kop, ho, got_iff] at e
    obtain ⟨v, h1, e⟩ := e
    obtain ⟨u, h2, h3⟩ := Option.bind_eq_some_iff.1 e
    unfold knil at h2
    split at h2 <;> first
      | (simp only [Option.some.injEq] at h2; subst h2; exact .same (fun m => by simp [gop, ho, h1]) h3)
      | cases h2
  | binOp op t x y ty =>
    simp only [kop, ho, got_iff] at e
    obtain ⟨a, h1, b, h2, e⟩ := e
    obtain ⟨v, h3, h4⟩ := Option.bind_eq_some_iff.1 e
    exact .same (fun m => by simp [gop, ho, h1, h2, kbinop_g h3]) h4
  | unOp op t x =>
    simp only [kop, ho, got_iff] at e
    obtain ⟨a, h1, e⟩ := e
    obtain ⟨v, h2, h3⟩ := Option.bind_eq_some_iff.1 e
    unfold kun at h2
    split at h2 <;> first
      | (simp only [Option.some.injEq] at h2; subst h2; exact .same (fun m => by simp [gop, ho, h1]) h3)
      | cases h2
  | convert s d x =>
    simp only [kop, ho, got_iff] at e
    obtain ⟨a, h1, e⟩ := e
    split at e
    · rename_i k hs hd
      obtain ⟨v, h2, h3⟩ := Option.bind_eq_some_iff.1 e
      unfold kconvI at h2
      split at h2
      · simp only [Option.some.injEq] at h2; subst h2
        exact .same (fun m => by simp [gop, ho, h1, gconvert, hs, hd]) h3
      · cases h2
    · rename_i hs hd
      obtain ⟨v, h2, h3⟩ := Option.bind_eq_some_iff.1 e
      rw [kstr_iff] at h2
      subst h2
      exact .same (fun m => by simp [gop, ho, h1, gconvert, hs, hd]) h3
    · rename_i el hs hd
      split at e
      · rename_i he
        obtain ⟨v, h2, h3⟩ := Option.bind_eq_some_iff.1 e
        rw [kstr_iff] at h2
        subst h2
        exact ⟨0, _, _, .nil, by simp only [gop, ho, h1, gconvert, hs, hd, he, Option.bind_eq_bind, Option.bind_some]; rfl, h3, ⟨fun _ => rfl, fun _ => rfl, by simp [effOf, ho], fun _ i hi => by cases hi⟩⟩
      · cases e
    · rename_i el hs hd
      split at e
      · rename_i he
        obtain ⟨v, h2, h3⟩ := Option.bind_eq_some_iff.1 e
        have : ∃ l, gconvert P s d a h = some (v, h, ⟨l, []⟩) ∧ ∀ i ∈ l, i < h.length := by
          unfold kbstr at h2
          split at h2
          · cases h2
          · cases h2
          · rename_i hn1 hn2
            obtain ⟨⟨n, cs, l⟩, h4, h5⟩ := Option.bind_eq_some_iff.1 h2
            obtain ⟨ns, h6, h7⟩ := Option.bind_eq_some_iff.1 h5
            split at h7
            · rename_i hl
              simp only [Option.some.injEq] at h7
              subst h7
              refine ⟨l, ?_, gcells_bd h4⟩
              cases a <;> first
                | exact absurd rfl (hn1 _)
                | exact absurd rfl (hn2 _ _)
                | (simp only [gconvert, hs, hd, he, h4, h6, Option.bind_eq_bind, Option.bind_some]; rw [if_pos hl])
            · cases h7
        obtain ⟨l, h4, h5⟩ := this
        exact ⟨0, v, h, ⟨l, []⟩, by simp [gop, ho, h1, h4], h3, ⟨by simp [effOf, ho], fun _ => rfl, fun _ => rfl, fun _ => h5⟩⟩
      · cases e
    · cases e
  | makeInterface t x =>
    simp only [kop, ho, got_iff] at e
    obtain ⟨a, h1, e⟩ := e
    split at e
    · cases e
    · rename_i d hne hu
      refine .same (v := .ifc) (fun m => ?_) e
      simp only [gop, ho, h1, hu, Option.bind_eq_bind, Option.bind_some]
    all_goals cases e
  | makeFunc f first caps =>
    cases f with
    | func f =>
      simp only [kop, ho, got_iff] at e
      obtain ⟨cs, h1, e⟩ := e
      have h1 := evs_mapM h1
      cases hc : Nat.beq first.size 0 with
      | false => simp only [hc, cond_false] at e; cases e
      | true =>
        simp only [hc, cond_true] at e
        have hc' : first.size = 0 := Nat.eq_of_beq_eq_true hc
        exact .same (v := .fn f cs) (fun m => by simp [gop, ho, h1, hc']) e
    | _ => simp only [kop, ho] at e; cases e
  | makeSlice t l c =>
    simp only [kop, ho] at e
    split at e
    · rename_i el hu
      simp only [got_iff] at e
      obtain ⟨info, h1, z, h2, gl, h3, gc, h4, e⟩ := e
      obtain ⟨⟨v, h'⟩, h5, h6⟩ := Option.bind_eq_some_iff.1 e
      unfold kmake at h5
      obtain ⟨len, h7, h51⟩ := Option.bind_eq_some_iff.1 h5
      obtain ⟨cap, h8, h52⟩ := Option.bind_eq_some_iff.1 h51
      obtain ⟨k1, hl1⟩ := kint_iff.1 h7
      obtain ⟨k2, hl2⟩ := kint_iff.1 h8
      rw [hl1] at h3
      rw [hl2] at h4
      clear h5 h51
      split at h52
      · rename_i hc
        simp only [Option.some.injEq, Prod.mk.injEq] at h52
        obtain ⟨rfl, rfl⟩ := h52
        refine ⟨0, _, _, .nil, ?_, h6, ⟨fun _ => rfl, fun _ => rfl, by simp [effOf, ho], fun _ i hi => by cases hi⟩⟩
        simp only [gop, ho, h1, h2, h3, h4, hu, Option.bind_eq_bind, Option.bind_some]
        rw [if_pos hc]
      · cases h52
    · cases e
  | slice t x lo hi mx =>
    simp only [kop, ho, got_iff] at e
    obtain ⟨a, h1, l, h2, u, h3, m, h4, e⟩ := e
    have h2 := evm_gmay h2
    have h3 := evm_gmay h3
    have h4 := evm_gmay h4
    split at e
    · rename_i hu
      obtain ⟨v, h5, h6⟩ := Option.bind_eq_some_iff.1 e
      unfold kslS at h5
      obtain ⟨s, h7, h8⟩ := Option.bind_eq_some_iff.1 h5
      rw [kstr_iff] at h7
      subst h7
      exact .same (fun m => by simp [gop, ho, h1, h2, h3, h4, hu, kslice_g (P := P) (t := t) h8]) h6
    · rename_i el hu
      simp only [got_iff] at e
      obtain ⟨es, h5, e⟩ := e
      obtain ⟨v, h6, h7⟩ := Option.bind_eq_some_iff.1 e
      refine .same (v := v) (fun m => ?_) h7
      unfold ksl at h6
      split at h6
      · split at h6
        · rename_i hes; subst hes
          simp [gop, ho, h1, h2, h3, h4, hu, h5, kslice_g (P := P) (t := t) h6]
        · cases h6
      · split at h6
        · rename_i tg n es' cells hes
          have hes' : gsize P el = some es' ∨ (n = 0 ∧ (gsize P el).isSome = true) := by
            rcases hes with rfl | hes
            · exact .inl h5
            · exact .inr ⟨hes, by rw [h5]; rfl⟩
          simp only [gop, ho, h1, h2, h3, h4, hu, Option.bind_eq_bind, Option.bind_some]
          rw [if_pos hes', kslice_g (P := P) (t := t) h6]
          rfl
        · cases h6
      · simp [gop, ho, h1, h2, h3, h4, hu, h5, kslice_g (P := P) (t := t) h6]
      · simp [gop, ho, h1, h2, h3, h4, hu, h5, kslice_g (P := P) (t := t) h6]
      · cases h6
    · cases e
  | fieldAddr s x f =>
    simp only [kop, ho] at e
    split at e
    · rename_i fs hu
      simp only [got_iff] at e
      obtain ⟨fd, h1, n, h2, e⟩ := e
      cases hn : Nat.beq n 0 with
      | true => simp only [hn, cond_true] at e; cases e
      | false =>
        simp only [hn, cond_false, got_iff] at e
        obtain ⟨a, h3, e⟩ := e
        obtain ⟨v, h4, h5⟩ := Option.bind_eq_some_iff.1 e
        have hn' : n ≠ 0 := Nat.ne_of_beq_eq_false hn
        unfold kfa at h4
        split at h4 <;> first
          | (simp only [Option.some.injEq] at h4; subst h4; exact .same (fun m => by simp [gop, ho, hu, h1, h2, h3, hn']) h5)
          | cases h4
    · cases e
  | field t x f =>
    simp only [kop, ho] at e
    split at e
    · rename_i fs hu
      simp only [got_iff] at e
      obtain ⟨fd, h1, a, h2, e⟩ := e
      obtain ⟨cs, h3, e⟩ := Option.bind_eq_some_iff.1 e
      obtain ⟨v, h4, h5⟩ := Option.bind_eq_some_iff.1 e
      rw [kcs_iff] at h3
      subst h3
      exact .same (fun m => by simp [gop, ho, hu, h1, h2, kpart_g h4]) h5
    · cases e
  | indexAddr t x y =>
    simp only [kop, ho, got_iff] at e
    obtain ⟨a, h1, gi, h2, e⟩ := e
    split at e
    · rename_i el hu
      simp only [got_iff] at e
      obtain ⟨es, h3, e⟩ := e
      obtain ⟨v, h4, h5⟩ := Option.bind_eq_some_iff.1 e
      unfold kia at h4
      obtain ⟨i, h6, h7⟩ := Option.bind_eq_some_iff.1 h4
      obtain ⟨k, rfl⟩ := kint_iff.1 h6
      refine .same (v := v) (fun m => ?_) h5
      split at h7
      · split at h7
        · rename_i hc
          obtain ⟨rfl, hc⟩ := hc
          simp only [gop, ho, h1, h2, hu, Option.bind_eq_bind, Option.bind_some]
          rw [if_pos ⟨h3, hc⟩]
          simpa using h7
        · cases h7
      · split at h7
        · rename_i hc
          obtain ⟨rfl, hc⟩ := hc
          simp only [gop, ho, h1, h2, hu, Option.bind_eq_bind, Option.bind_some]
          rw [if_pos ⟨h3, hc⟩]
          simpa using h7
        · cases h7
      · cases h7
    · cases e
  | index t x y =>
    simp only [kop, ho, got_iff] at e
    obtain ⟨a, h1, gi, h2, e⟩ := e
    split at e
    · rename_i hu
      obtain ⟨v, h4, h5⟩ := Option.bind_eq_some_iff.1 e
      unfold kbyte at h4
      obtain ⟨s, h6, h41⟩ := Option.bind_eq_some_iff.1 h4
      obtain ⟨i, h7, h42⟩ := Option.bind_eq_some_iff.1 h41
      rw [kstr_iff] at h6
      rw [h6] at h1
      obtain ⟨k, hk⟩ := kint_iff.1 h7
      rw [hk] at h2
      clear h4 h41
      split at h42
      · rename_i hi
        split at h42
        · rename_i h0
          simp only [Option.some.injEq] at h42
          subst h42
          refine .same (fun m => ?_) h5
          simp only [gop, ho, h1, h2, hu, Option.bind_eq_bind, Option.bind_some]
          rw [dif_pos hi, if_pos h0]
        · cases h42
      · cases h42
    · rename_i len el hu
      simp only [got_iff] at e
      obtain ⟨n, h3, e⟩ := e
      obtain ⟨cs, h4, e1⟩ := Option.bind_eq_some_iff.1 e
      obtain ⟨i, h5, e2⟩ := Option.bind_eq_some_iff.1 e1
      rw [kcs_iff] at h4
      rw [h4] at h1
      obtain ⟨k, hk⟩ := kint_iff.1 h5
      rw [hk] at h2
      clear e e1
      split at e2
      · rename_i hc
        obtain ⟨v, h6, h7⟩ := Option.bind_eq_some_iff.1 e2
        refine .same (v := v) (fun m => ?_) h7
        simp only [gop, ho, h1, h2, hu, h3, Option.bind_eq_bind, Option.bind_some]
        rw [if_pos hc, kpart_g h6]
        rfl
      · cases e2
    · cases e
  | extract t i =>
    simp only [kop, ho, got_iff] at e
    obtain ⟨a, h1, e⟩ := e
    obtain ⟨v, h2, h3⟩ := Option.bind_eq_some_iff.1 e
    unfold kxt at h2
    split at h2
    · exact .same (fun m => by simp [gop, ho, h1, h2]) h3
    · cases h2
  | _ => simp only [kop, ho] at e; cases e
end

end Go.Proofs.Ytleeifecdjolhaa.G
