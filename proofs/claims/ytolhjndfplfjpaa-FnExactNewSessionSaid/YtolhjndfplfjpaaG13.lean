/- copy and append. -/
import Derived.Test.YtolhjndfplfjpaaG12
namespace Go.Proofs.Ytolhjndfplfjpaa.G
open Go.RowKit
set_option linter.unusedVariables false
set_option linter.unusedSimpArgs false

section
variable {P : Program} {Pt Pp : Nat → Prop} {w : World} {ρ : Map} {h : Heap} {a : Act} {o : Oper} {σ : GS} {C : Cfg} {call : GCall} {F : Nat → Prop} {N : Nat}

theorem gcopy_run {t : TypeId} {d x v : GV} {ud ux : Value} {h' : Heap} {lg : Lg} (e : gcopy P h t d x = some (v, h', lg)) (hd : VR w ρ Pp d Pt ud) (hx : VR w ρ Pp x Pt ux) (p : Pre Pt w ρ Pp h F N) (hF : ∀ i, i ∈ lg.r ∨ i ∈ lg.w → F i) (ty : TypeId)
    (ts : Array TypeId) (ht : ts[0]? = some t) : ∃ u w', (Builtin.copy_ ts ty #[ud, ux]).run P w = .ok u w' ∧ After Pt w ρ Pp h lg h' v u w' := by
  unfold gcopy at e
  simp only [Option.bind_eq_bind, Option.bind_eq_some_iff] at e
  obtain ⟨dd, hu, e⟩ := e
  split at e
  · rename_i et
    simp only [Option.bind_eq_some_iff] at e
    obtain ⟨es, hes, ⟨n, new, r⟩, hc, e⟩ := e
    split at e
    · rename_i hcell
      dsimp only at hcell e
      split at e
      · simp only [Option.some.injEq, Prod.mk.injEq] at e
        obtain ⟨rfl, rfl, rfl⟩ := e
        simp only [VR, VRi] at hd
        subst hd
        obtain ⟨q1, us, q2, q3⟩ := firstCells_run (P := P) (m := 0) hc hx (fun i hi => p.hb i (hF i (.inl hi))) (by omega)
        refine ⟨.int .i64 0, w, ?_, ρ, Pp, rfl, Step.none ..⟩
        simp [Builtin.copy_, ht, run_underlying hu, q1, run_sizeOf hes, q2, goInt]
      · simp only [Option.some.injEq, Prod.mk.injEq] at e
        obtain ⟨rfl, rfl, rfl⟩ := e
        rcases hd with rfl | ⟨A, rfl⟩
        · obtain ⟨q1, us, q2, q3⟩ := firstCells_run (P := P) (m := 0) hc hx (fun i hi => p.hb i (hF i (.inl hi))) (by omega)
          refine ⟨.int .i64 0, w, ?_, ρ, Pp, rfl, Step.none ..⟩
          simp [Builtin.copy_, ht, run_underlying hu, q1, run_sizeOf hes, q2, goInt]
        obtain ⟨q1, us, q2, q3⟩ := firstCells_run (P := P) (m := 0) hc hx (fun i hi => p.hb i (hF i (.inl hi))) (by omega)
        have : us = [] := by
          have := VRs_len q3
          simpa using this
        subst this
        refine ⟨.int .i64 0, w, ?_, ρ, Pp, rfl, Step.none ..⟩
        simp [Builtin.copy_, ht, run_underlying hu, q1, run_sizeOf hes, q2, goInt, storeCells]
      · rename_i i off len cap es'
        simp only [Option.bind_eq_some_iff] at e
        obtain ⟨cs, hcs, e⟩ := e
        split at e
        · rename_i hle
          obtain ⟨rfl, hle⟩ := hle
          simp only [Option.some.injEq, Prod.mk.injEq] at e
          obtain ⟨rfl, rfl, rfl⟩ := e
          obtain ⟨c, sh, A, cap', h6, rfl, h8, h9, h10⟩ := hd
          obtain ⟨q1, us, q2, q3⟩ := firstCells_run (P := P) (m := min n len) hc hx (fun i hi => p.hb i (hF i (.inl hi))) (by omega)
          have hFi : F i := hF i (.inr (by simp))
          have hcl := (cellsAt_eq hcs).2
          have hci := (cellsAt_eq hcs).1
          have run : ∀ w', (storeCells A us).run P w = .ok () w' → (Builtin.copy_ ts ty #[.slice (some A) len cap', ux]).run P w = .ok (.int .i64 (min n len : Nat)) w' := by
            intro w' hw
            have q2' : (Builtin.firstCells es' (n.min len) ux).run P w = .ok us.toArray w := q2
            simp only [Builtin.copy_, ht]
            simp [run_underlying hu, q1, run_sizeOf hes, q2', hw, goInt]
          have hul := VRs_len q3
          have hnl : new.length = n * es' := by
            rcases gcells_run hc hx (fun i hi => p.hb i (hF i (.inl hi))) with ⟨_, rfl, rfl, _⟩ | ⟨_, _, _, _, _, _, q, _⟩ | ⟨s, _, _, rfl, rfl, rfl⟩
            · simp
            · exact q
            · rw [List.length_map, ByteArray.toList_eq]; simp
          have hmul1 : min n len * es' ≤ n * es' := Nat.mul_le_mul_right _ (by omega)
          have hmul2 : min n len * es' ≤ cap * es' := Nat.mul_le_mul_right _ (by omega)
          have htl : (new.take (min n len * es')).length = min n len * es' := by simp; omega
          by_cases hemp : us = []
          · subst hemp
            have hz : new.take (min n len * es') = [] := by
              apply List.eq_nil_of_length_eq_zero
              rw [← hul]; rfl
            refine ⟨_, w, run w rfl, ρ, Pp, by simp [VR, VRi], ?_⟩
            rw [hz]
            have e1 : splice cs off [] = cs := by simp [splice]
            rw [e1]
            have e2 : h.set i cs = h := by
              apply List.ext_getElem?
              intro k
              by_cases hk : k = i
              · subst hk
                rw [hci, List.getElem?_set]
                simp [(List.getElem?_eq_some_iff.1 hci).1]
              · rw [List.getElem?_set_ne (Ne.symm hk)]
            rw [e2]
            exact step_self p hFi hci (by rw [hcl]; exact h6) _
          · have hcap : cap' ≠ 0 := by
              intro h0
              apply hemp
              apply List.eq_nil_of_length_eq_zero
              rw [hul, htl, show len = 0 by omega]
              simp
            obtain ⟨rfl, _⟩ := h10.resolve_left hcap
            obtain ⟨w', q4, q5⟩ := store_step (P := P) p (off := off) r hFi hcs h6 (by omega) q3 (List.all_eq_true.2 fun g hg => List.all_eq_true.1 hcell g (List.mem_of_mem_take hg))
            exact ⟨_, w', run w' q4, _, Pp, by simp [VR, VRi], q5⟩
        · cases e
      · cases e
    · cases e
  · cases e

theorem zeros_cell {z : List GV} (h : z.all GV.isCell = true) : ∀ n, (zeros z n).all GV.isCell = true
  | 0 => rfl
  | n + 1 => by rw [zeros, List.all_append, h, zeros_cell h n]; rfl

theorem gclear_run {t : TypeId} {d v : GV} {ud : Value} {h' : Heap} {lg : Lg} (e : gclear P h t d = some (v, h', lg)) (hd : VR w ρ Pp d Pt ud) (p : Pre Pt w ρ Pp h F N) (hF : ∀ i, i ∈ lg.r ∨ i ∈ lg.w → F i) (ty : TypeId)
    (ts : Array TypeId) (ht : ts[0]? = some t) : ∃ u w', (Builtin.clear_ ts ty #[ud]).run P w = .ok u w' ∧ After Pt w ρ Pp h lg h' v u w' := by
  unfold gclear at e
  simp only [Option.bind_eq_bind, Option.bind_eq_some_iff] at e
  obtain ⟨dd, hu, e⟩ := e
  have e0 : (#[ud] : Array Value)[0]? = some ud := rfl
  split at e
  · rename_i et
    simp only [Option.bind_eq_some_iff] at e
    obtain ⟨z, hz, e⟩ := e
    have skip : ∀ b c, ud = .slice b 0 c → (Builtin.clear_ ts ty #[ud]).run P w = .ok undef w := by
      rintro b c rfl
      unfold Builtin.clear_
      simp only [ht, e0]
      cases b <;> simp [run_underlying hu] <;> rfl
    split at e
    · simp only [Option.some.injEq, Prod.mk.injEq] at e
      obtain ⟨rfl, rfl, rfl⟩ := e
      simp only [VR, VRi] at hd
      exact ⟨_, w, skip _ _ hd, ρ, Pp, rfl, Step.none ..⟩
    · simp only [Option.some.injEq, Prod.mk.injEq] at e
      obtain ⟨rfl, rfl, rfl⟩ := e
      rcases hd with rfl | ⟨A, rfl⟩
      · exact ⟨_, w, skip _ _ rfl, ρ, Pp, rfl, Step.none ..⟩
      · exact ⟨_, w, skip _ _ rfl, ρ, Pp, rfl, Step.none ..⟩
    · rename_i i off len cap es
      simp only [Option.bind_eq_some_iff] at e
      obtain ⟨cs, hcs, e⟩ := e
      split at e
      · rename_i hc
        obtain ⟨hzl, hle, hcell⟩ := hc
        simp only [Option.some.injEq, Prod.mk.injEq] at e
        obtain ⟨rfl, rfl, rfl⟩ := e
        obtain ⟨c, sh, A, cap', h6, rfl, h8, h9, h10⟩ := hd
        have hFi : F i := hF i (.inr (by simp))
        have hcl := (cellsAt_eq hcs).2
        have hci := (cellsAt_eq hcs).1
        by_cases hl0 : len = 0
        · subst hl0
          refine ⟨_, w, skip _ _ rfl, ρ, Pp, rfl, ?_⟩
          have e1 : splice cs off (zeros z 0) = cs := by simp [splice, zeros]
          rw [e1]
          have e2 : h.set i cs = h := by
            apply List.ext_getElem?
            intro k
            by_cases hk : k = i
            · subst hk
              rw [hci, List.getElem?_set]
              simp [(List.getElem?_eq_some_iff.1 hci).1]
            · rw [List.getElem?_set_ne (Ne.symm hk)]
          rw [e2]
          exact step_self p hFi hci (by rw [hcl]; exact h6) _
        · obtain ⟨rfl, _⟩ := h10.resolve_left (by omega)
          obtain ⟨zv, hz1, hz2⟩ := gzero_run hz
          have hv := VRs_zeros (n := len) (hz2 w ρ Pp Pt)
          have hzs := VRs_len (hz2 w ρ Pp Pt)
          simp only [Array.length_toList] at hzs
          have ez : (Array.range (len * z.length)).map (zv.cells[· % zv.cells.size]!) = Builtin.zeroCells zv.cells len := by
            unfold Builtin.zeroCells
            rw [hzs]
          rw [ez] at hv
          have hmul : len * es ≤ cap * es := Nat.mul_le_mul_right _ hle
          obtain ⟨w', q4, q5⟩ := store_step (P := P) p (off := off) [] hFi hcs h6 (by rw [zeros_len, hzl, hcl]; omega) hv (zeros_cell hcell len)
          refine ⟨undef, w', ?_, _, Pp, rfl, q5⟩
          unfold Builtin.clear_
          obtain ⟨n, rfl⟩ : ∃ n, len = n + 1 := ⟨len - 1, by omega⟩
          simp only [ht, e0]
          simp [run_underlying hu, hz1, q4]
          rfl
      · cases e
    · cases e
  · cases e

theorem grow_le (need old : Nat) (h : need > old) : Builtin.nextslicecap need old ≤ 2 * need := by
  unfold Builtin.nextslicecap
  split
  · omega
  · split
    · omega
    · have key : ∀ (k c : Nat), c ≤ 2 * need → Builtin.growBy need k c ≤ 2 * need ∨ False := by
        intro k
        induction k with
        | zero => intro c hc; exact .inl (by simpa [Builtin.growBy] using hc)
        | succ k ih =>
          intro c hc
          unfold Builtin.growBy
          split
          · exact .inl hc
          · exact ih _ (by omega)
      exact (key 4 old (by omega)).elim id False.elim

section
variable {t t' et : TypeId} {info : TypeInfo} {ts : Array TypeId} {dx : TypeDesc} {ux : Value} {n : Nat} {zv : Value}

theorem append_in (ht : ts[0]? = some t) (ht' : ts[1]? = some t') (hu : P.underlying t = some (.slice et)) (hdx : P.underlying t' = some dx) (hnd : ∀ k, dx ≠ .int k) (hi : P.info? et = some info)
    (ty : TypeId) {A : Addr} {sLen sCap : Nat} {us : List Value} {w' : World} (hl : (Builtin.lenOf ux).run P w = .ok n w) (hf : (Builtin.firstCells info.size n ux).run P w = .ok us.toArray w) (hfit : sLen + n ≤ sCap)
    (hst : (storeCells (A.add (sLen * info.size)) us).run P w = .ok () w') : (Builtin.append_ ts ty #[.slice (some A) sLen sCap, ux]).run P w = .ok (.slice (some A) (sLen + n) sCap) w' := by
  have hsz : (sizeOf et).run P w = .ok info.size w := by simp [sizeOf, run_typeInfo hi]
  unfold Builtin.append_
  have e0 : (#[Value.slice (some A) sLen sCap, ux] : Array Value)[0]? = some (.slice (some A) sLen sCap) := rfl
  have e1 : (#[Value.slice (some A) sLen sCap, ux] : Array Value)[1]? = some ux := rfl
  simp only [ht, ht', e0, e1]
  simp only [Sem.run_bind, run_underlying hu, run_underlying hdx, Result.andThen_ok, hsz]
  cases dx
  case int k => exact absurd rfl (hnd k)
  all_goals
    simp only [Sem.run_pure, Result.andThen_ok, Sem.run_bind, Bool.false_eq_true, if_false, hl, false_or]
    rw [if_pos hfit]
    simp only [Bool.not_false, if_true, Sem.run_bind, hf, Result.andThen_ok, hst, Sem.run_pure]

theorem append_nil (ht : ts[0]? = some t) (ht' : ts[1]? = some t') (hu : P.underlying t = some (.slice et)) (hdx : P.underlying t' = some dx) (hnd : ∀ k, dx ≠ .int k) (hi : P.info? et = some info)
    (ty : TypeId) {us : List Value} (hl : (Builtin.lenOf ux).run P w = .ok 0 w) (hf : (Builtin.firstCells info.size 0 ux).run P w = .ok us.toArray w) : (Builtin.append_ ts ty #[.slice none 0 0, ux]).run P w = .ok (.slice none 0 0) w := by
  have hsz : (sizeOf et).run P w = .ok info.size w := by simp [sizeOf, run_typeInfo hi]
  unfold Builtin.append_
  have e0 : (#[Value.slice none 0 0, ux] : Array Value)[0]? = some (.slice none 0 0) := rfl
  have e1 : (#[Value.slice none 0 0, ux] : Array Value)[1]? = some ux := rfl
  simp only [ht, ht', e0, e1]
  simp only [Sem.run_bind, run_underlying hu, run_underlying hdx, Result.andThen_ok, hsz]
  cases dx
  case int k => exact absurd rfl (hnd k)
  all_goals
    simp only [Sem.run_pure, Result.andThen_ok, Sem.run_bind, Bool.false_eq_true, if_false, hl, false_or]
    rw [if_pos (Nat.le_refl _)]
    simp only [Bool.not_false, if_true, Sem.run_bind, hf, Result.andThen_ok, Sem.run_pure]

theorem append_grow (ht : ts[0]? = some t) (ht' : ts[1]? = some t') (hu : P.underlying t = some (.slice et)) (hdx : P.underlying t' = some dx) (hnd : ∀ k, dx ≠ .int k) (hi : P.info? et = some info)
    (ty : TypeId) {base : Option Addr} {sLen sCap : Nat} {us old : List Value} (hz : ∀ w, (zeroValue et).run P w = .ok zv w) (hl : (Builtin.lenOf ux).run P w = .ok n w) (hf : (Builtin.firstCells info.size n ux).run P w.drew = .ok us.toArray w.drew)
    (ho : (Builtin.firstCells info.size sLen (.slice base sLen sCap)).run P w.drew = .ok old.toArray w.drew) (hfit : ¬ sLen + n ≤ sCap) (hm : sLen + n ≤ maxLen) (hr : (sLen + n) * info.bytes ≤ roomMax) :
    ∃ newCap, sLen + n ≤ newCap ∧ (Builtin.append_ ts ty #[.slice base sLen sCap, ux]).run P w = .ok (.slice (some ⟨w.heap.size, 0, none⟩) (sLen + n) newCap) (w.drew.alloc (.cells (old.toArray ++ us.toArray ++ Builtin.zeroCells zv.cells (newCap - (sLen + n))) et)) := by
  have hsz : ∀ w, (sizeOf et).run P w = .ok info.size w := fun w => by simp [sizeOf, run_typeInfo hi]
  let q : Question := .appendCap (sLen + n) sCap et
  refine ⟨q.cut (w.tape w.drawn q), Nat.le_add_right _ _, ?_⟩
  have hq : (choose q).run P w = .ok (q.cut (w.tape w.drawn q)) w.drew := by
    rw [run_choose]
    rfl
  have n1 : ¬ (((sLen + n : Nat) : Int) > IntKind.i64.max ∧ info.bytes = 0) := by
    rintro ⟨h1, _⟩
    have : ((sLen + n : Nat) : Int) > 9223372036854775807 := h1
    simp only [maxLen] at hm
    omega
  have n2 : ¬ (Builtin.nextslicecap (sLen + n) sCap * info.bytes > 2 ^ 48) := by
    have h1 := grow_le (sLen + n) sCap (by omega)
    have h2 : Builtin.nextslicecap (sLen + n) sCap * info.bytes ≤ 2 * (sLen + n) * info.bytes := Nat.mul_le_mul_right _ h1
    rw [Nat.mul_assoc] at h2
    simp only [roomMax] at hr
    omega
  unfold Builtin.append_
  have e0 : (#[Value.slice base sLen sCap, ux] : Array Value)[0]? = some (.slice base sLen sCap) := rfl
  have e1 : (#[Value.slice base sLen sCap, ux] : Array Value)[1]? = some ux := rfl
  simp only [ht, ht', e0, e1]
  simp only [Sem.run_bind, run_underlying hu, run_underlying hdx, Result.andThen_ok, hsz]
  cases dx
  case int k => exact absurd rfl (hnd k)
  all_goals
    simp only [Sem.run_pure, Result.andThen_ok, Sem.run_bind, Bool.false_eq_true, if_false, hl, false_or]
    rw [if_neg hfit]
    simp only [Sem.run_bind, run_typeInfo hi, Result.andThen_ok]
    rw [if_neg n1]
    simp only [Sem.run_bind, run_typeInfo hi, Result.andThen_ok]
    rw [if_neg n2]
    simp only [Sem.run_bind]
    rw [hq]
    simp only [Result.andThen_ok, Sem.run_bind, run_askRoom, run_typeInfo hi, ho, Sem.run_pure, Bool.not_false, if_true, hf, hz, newRow, run_newObj]
    rfl
end

theorem zeroCells_size (z : Array Value) (n : Nat) : (Builtin.zeroCells z n).size = n * z.size := by simp [Builtin.zeroCells]

theorem gcells_len {es n : Nat} {v : GV} {cs : List GV} {r : List Nat} {u : Value} (e : gcells h es v = some (n, cs, r)) (hv : VR w ρ Pp v Pt u) (hb : ∀ i, i ∈ r → HB w ρ Pp Pt h i) : cs.length = n * es := by
  rcases gcells_run e hv hb with ⟨_, rfl, rfl, _⟩ | ⟨_, _, _, _, _, _, q, _⟩ | ⟨s, _, _, rfl, rfl, rfl⟩
  · simp
  · exact q
  · rw [List.length_map, ByteArray.toList_eq]; simp

theorem gappz_run {t t' : TypeId} {s x v : GV} {us0 ux : Value} {h' : Heap} {lg : Lg} {ik : IntKind} (e : gappz P h t s x = some (v, h', lg)) (hs : VR w ρ Pp s Pt us0) (hx : VR w ρ Pp x Pt ux) (p : Pre Pt w ρ Pp h F h'.length) (ty : TypeId)
    (ts : Array TypeId) (ht : ts[0]? = some t) (ht' : ts[1]? = some t') (hdx : P.underlying t' = some (.int ik)) : ∃ u w', (Builtin.append_ ts ty #[us0, ux]).run P w = .ok u w' ∧ After Pt w ρ Pp h lg h' v u w' := by
  unfold gappz at e
  simp only [Option.bind_eq_bind, Option.bind_eq_some_iff] at e
  obtain ⟨dd, hu, e⟩ := e
  split at e
  · rename_i et
    simp only [Option.bind_eq_some_iff] at e
    obtain ⟨info, hi, z, hz, e⟩ := e
    split at e
    · rename_i l
      simp only [VR, VRi] at hs hx
      subst hs hx
      split at e
      · rename_i hg
        obtain ⟨c0, c1, c2, c3⟩ := hg
        obtain ⟨zv, hz1, hz2⟩ := gzero_run hz
        have hzl := VRs_len (hz2 w ρ Pp Pt)
        simp only [Array.length_toList] at hzl
        have wl : IntKind.i64.wrap l = l := op_makeSlice.wrap_small c0 c1
        have hsz : ∀ w, (sizeOf et).run P w = .ok info.size w := fun w => by simp [sizeOf, run_typeInfo hi]
        have n1 : ¬ (l < 0) := by omega
        have n2 : ¬ (l * info.bytes > 2 ^ 48) := by
          have e1 : ((l.toNat * info.bytes : Nat) : Int) = l * info.bytes := by
            push_cast; congr 1; omega
          rw [← e1]
          simp only [roomMax] at c2
          omega
        have e0 : (#[Value.slice none 0 0, Value.int .i64 l] : Array Value)[0]? = some (.slice none 0 0) := rfl
        have e1 : (#[Value.slice none 0 0, Value.int .i64 l] : Array Value)[1]? = some (.int .i64 l) := rfl
        split at e
        · rename_i hl0
          simp only [Option.some.injEq, Prod.mk.injEq] at e
          obtain ⟨rfl, rfl, rfl⟩ := e
          refine ⟨.slice none 0 0, w, ?_, ρ, Pp, rfl, Step.none ..⟩
          unfold Builtin.append_
          simp only [ht, ht', e0, e1]
          simp only [Sem.run_bind, run_underlying hu, run_underlying hdx, Result.andThen_ok, hsz]
          simp only [Sem.run_pure, Result.andThen_ok, Sem.run_bind, if_true, asInt, asIntOf, wl, n1, n2, if_false, run_typeInfo hi, hl0]
          simp [Sem.run_pure, Sem.run_bind]
        · rename_i hl0
          simp only [Option.some.injEq, Prod.mk.injEq] at e
          obtain ⟨rfl, rfl, rfl⟩ := e
          let q : Question := .appendCap (0 + l.toNat) 0 et
          have hq : (choose q).run P w = .ok (q.cut (w.tape w.drawn q)) w.drew := by
            rw [run_choose]
            rfl
          have hcap : l.toNat ≤ q.cut (w.tape w.drawn q) := by
            show l.toNat ≤ 0 + l.toNat + _
            omega
          have n3 : ¬ (0 + l.toNat ≤ 0) := by omega
          have n4 : ¬ ((((0 + l.toNat : Nat) : Int) > IntKind.i64.max) ∧ (true = true ∨ info.bytes = 0)) := by
            rintro ⟨h1, _⟩
            have : ((0 + l.toNat : Nat) : Int) > 9223372036854775807 := h1
            simp only [maxLen] at c1
            omega
          have n5 : ¬ (Builtin.nextslicecap (0 + l.toNat) 0 * info.bytes > 2 ^ 48) := by
            have : Builtin.nextslicecap (0 + l.toNat) 0 = l.toNat := by
              unfold Builtin.nextslicecap
              rw [if_pos (by omega)]; omega
            rw [this]
            simp only [roomMax] at c2
            omega
          let rc : Array Value := Builtin.zeroCells zv.cells l.toNat ++ Builtin.zeroCells zv.cells (q.cut (w.tape w.drawn q) - l.toNat)
          have hrs : rc.size = q.cut (w.tape w.drawn q) * info.size := by
            simp only [rc, Array.size_append, zeroCells_size, hzl, c3]
            rw [← Nat.add_mul]; congr 1; omega
          have hzc : ∀ n, Builtin.zeroCells zv.cells n = ((Array.range (n * z.length)).map (zv.cells[· % zv.cells.size]!)) := fun n => by
            simp [Builtin.zeroCells, hzl]
          refine ⟨.slice (some ⟨w.heap.size, 0, none⟩) l.toNat (q.cut (w.tape w.drawn q)), w.drew.alloc (.cells rc et), ?_, ρ.put h.length (zeros z l.toNat).length (w.heap.size, 0), Pp, ?_, ?_⟩
          · unfold Builtin.append_
            simp only [ht, ht', e0, e1]
            simp only [Sem.run_bind, run_underlying hu, run_underlying hdx, Result.andThen_ok, hsz]
            simp only [Sem.run_pure, Result.andThen_ok, Sem.run_bind, if_true, asInt, asIntOf, wl, n1, n2, if_false, run_typeInfo hi]
            rw [if_neg n3]
            simp only [Sem.run_bind, run_typeInfo hi, Result.andThen_ok, true_or, and_true] at n4 ⊢
            rw [if_neg n4]
            simp only [Sem.run_bind, run_typeInfo hi, Result.andThen_ok, Sem.run_pure]
            rw [if_neg n5]
            simp only [Sem.run_bind]
            rw [hq]
            simp only [Result.andThen_ok, Sem.run_bind, run_askRoom, run_typeInfo hi, Sem.run_pure, Builtin.firstCells, Bool.not_true, Bool.false_eq_true, if_false]
            by_cases hn0 : l.toNat * info.size = 0
            · rw [if_pos hn0]
              simp only [Sem.run_bind, Sem.run_pure, Result.andThen_ok, hz1, newRow, run_newObj]
              have : Builtin.zeroCells zv.cells l.toNat = #[] := by
                rw [hzc, c3, hn0]; simp
              simp only [rc, this, Nat.zero_add]
              rfl
            · rw [if_neg hn0]
              simp only [Sem.run_bind, Sem.run_pure, Result.andThen_ok, hz1, newRow, run_newObj, Nat.zero_add, rc]
              simp
              rfl
          · refine ⟨w.heap.size, 0, ⟨w.heap.size, 0, none⟩, q.cut (w.tape w.drawn q), ?_, rfl, Nat.le_refl _, hcap, .inr ⟨rfl, q.cut (w.tape w.drawn q) * info.size, ?_, by omega⟩⟩
            · rw [Nat.zero_add, ← c3, ← zeros_len]
              exact put_same
            · have := rsz_alloc w.drew rc et (0, 0)
              rw [hrs] at this
              exact this
          · refine Step.fresh_block (us := (Builtin.zeroCells zv.cells l.toNat).toList) p (by simp) [] rfl rfl rfl rfl ?_ (fun o _ => by omega) ?_ ?_
            · rw [hrs, zeros_len, c3]
              exact Nat.mul_le_mul_right _ hcap
            · simp only [rc, Array.toList_append]
              rw [List.take_append_of_le_length (by simp [zeros_len, zeroCells_size, hzl])]
              rw [List.take_of_length_le (by simp [zeros_len, zeroCells_size, hzl])]
            · rw [hzc]
              exact VRs_zeros (hz2 ..)
      · cases e
    · cases e
  · cases e

theorem gappend_run {t t' : TypeId} {s x v : GV} {us0 ux : Value} {h' : Heap} {lg : Lg} {dx : TypeDesc} (e : gappend P h t s x = some (v, h', lg)) (hs : VR w ρ Pp s Pt us0) (hx : VR w ρ Pp x Pt ux) (p : Pre Pt w ρ Pp h F h'.length) (hF : ∀ i, i ∈ lg.r ∨ i ∈ lg.w → F i) (ty : TypeId)
    (ts : Array TypeId) (ht : ts[0]? = some t) (ht' : ts[1]? = some t') (hdx : P.underlying t' = some dx) (hnd : ∀ k, dx ≠ .int k) : ∃ u w', (Builtin.append_ ts ty #[us0, ux]).run P w = .ok u w' ∧ After Pt w ρ Pp h lg h' v u w' := by
  unfold gappend at e
  simp only [Option.bind_eq_bind, Option.bind_eq_some_iff] at e
  obtain ⟨dd, hu, e⟩ := e
  split at e
  · rename_i et
    simp only [Option.bind_eq_some_iff] at e
    obtain ⟨info, hi, ⟨n, new, r⟩, hc, z, hz, e⟩ := e
    split at e
    · rename_i hg
      dsimp only at hg e
      obtain ⟨hcell, hzl, hnm, hroom⟩ := hg
      obtain ⟨zv, hz1, hz2⟩ := gzero_run hz
      have hzs : zv.cells.size = info.size := by
        have := VRs_len (hz2 w ρ Pp Pt)
        simp only [Array.length_toList] at this
        omega
      -- what is appended, before and after the draw
      have st := Step.drew Pt w ρ Pp h r (w.drawn + 1)
      have p1 := st.after p (fun i hi => by simp at hi)
      have hx1 := st.val p (fun i hi => by simp at hi) hx
      have fresh : ∀ (base : Option Addr), us0 = .slice base 0 0 → n ≠ 0 → (∀ i, i ∈ r → F i) → h'.length = h.length + 1 →
          ∃ u w', (Builtin.append_ ts ty #[us0, ux]).run P w = .ok u w' ∧ After Pt w ρ Pp h ⟨r, []⟩ (h ++ [new]) (.sl h.length 0 n n info.size) u w' := by
        intro base hb hn hr hlen
        subst hb
        have hl := gcells_len hc hx (fun i hi => p.hb i (hr i hi))
        obtain ⟨q1, us, _, _⟩ := firstCells_run (P := P) (m := n) hc hx (fun i hi => p.hb i (hr i hi)) (Nat.le_refl _)
        obtain ⟨_, us, q2, q3⟩ := firstCells_run (P := P) (m := n) hc hx1 (fun i hi => p1.hb i (hr i hi)) (Nat.le_refl _)
        obtain ⟨newCap, q4, q5⟩ := append_grow (P := P) (w := w) ht ht' hu hdx hnd hi ty (base := base) (sLen := 0) (sCap := 0) (old := []) hz1 q1 q2 (by cases base <;> simp [Builtin.firstCells, loadCells, loadCellsFrom]) (by omega) (by omega) (by simpa using hroom)
        have hul := VRs_len q3
        rw [List.take_of_length_le (by omega)] at q3 hul
        simp only [Nat.zero_add] at q4 q5
        have hsz : (#[] ++ us.toArray ++ Builtin.zeroCells zv.cells (newCap - n)).size = newCap * info.size := by
          simp only [Array.size_append, zeroCells_size, hzs]
          have : newCap * info.size = n * info.size + (newCap - n) * info.size := by rw [← Nat.add_mul]; congr 1; omega
          simp
          omega
        refine ⟨_, _, q5, ρ.put h.length new.length (w.heap.size, 0), Pp, ?_, ?_⟩
        · refine ⟨w.heap.size, 0, ⟨w.heap.size, 0, none⟩, newCap, ?_, rfl, Nat.le_refl _, q4, .inr ⟨rfl, newCap * info.size, ?_, by omega⟩⟩
          · rw [Nat.zero_add, ← hl]
            exact put_same
          · have := rsz_alloc w.drew (#[] ++ us.toArray ++ Builtin.zeroCells zv.cells (newCap - n)) et (0, 0)
            rw [hsz] at this
            exact this
        · refine Step.fresh_block (us := us) p (by omega) r rfl rfl rfl rfl ?_ (fun o _ => by omega) ?_ ?_
          · rw [hsz, hl]
            exact Nat.mul_le_mul_right _ q4
          · simp only [Array.toList_append]
            rw [← hul]
            simp
          · have q6 := st.keep
            exact VRs_mono (w := w.drew) (w' := w) (ρ' := ρ) (Pp' := Pp) ⟨fun _ _ h => h, fun _ _ _ h => h, fun _ h => h⟩ _ _ _ _ (fun _ h => .inl h) (fun _ _ => rfl) q3
      split at e
      · simp only [VR, VRi] at hs
        split at e
        · rename_i hn
          simp only [Option.some.injEq, Prod.mk.injEq] at e
          obtain ⟨rfl, rfl, rfl⟩ := e
          subst hn
          subst hs
          obtain ⟨q1, us, q2, q3⟩ := firstCells_run (P := P) (m := 0) hc hx (fun i hi => p.hb i (hF i (.inl hi))) (Nat.le_refl _)
          exact ⟨_, w, append_nil ht ht' hu hdx hnd hi ty q1 q2, ρ, Pp, rfl, Step.none ..⟩
        · rename_i hn
          simp only [Option.some.injEq, Prod.mk.injEq] at e
          obtain ⟨rfl, rfl, rfl⟩ := e
          exact fresh none hs hn (fun i hi => hF i (.inl hi)) (by simp)
      · split at e
        · rename_i hn
          simp only [Option.some.injEq, Prod.mk.injEq] at e
          obtain ⟨rfl, rfl, rfl⟩ := e
          subst hn
          rcases hs with hs | ⟨A, hs⟩
          · subst hs
            obtain ⟨q1, us, q2, q3⟩ := firstCells_run (P := P) (m := 0) hc hx (fun i hi => p.hb i (hF i (.inl hi))) (Nat.le_refl _)
            exact ⟨_, w, append_nil ht ht' hu hdx hnd hi ty q1 q2, ρ, Pp, .inl rfl, Step.none ..⟩
          subst hs
          obtain ⟨q1, us, q2, q3⟩ := firstCells_run (P := P) (m := 0) hc hx (fun i hi => p.hb i (hF i (.inl hi))) (Nat.le_refl _)
          have : us = [] := by
            have := VRs_len q3
            simpa using this
          subst this
          exact ⟨_, w, append_in ht ht' hu hdx hnd hi ty (A := A) (sLen := 0) (sCap := 0) q1 q2 (by omega) rfl, ρ, Pp, .inr ⟨A, rfl⟩, Step.none ..⟩
        · rename_i hn
          simp only [Option.some.injEq, Prod.mk.injEq] at e
          obtain ⟨rfl, rfl, rfl⟩ := e
          rcases hs with hs | ⟨A, hs⟩
          · exact fresh none hs hn (fun i hi => hF i (.inl hi)) (by simp)
          · exact fresh (some A) hs hn (fun i hi => hF i (.inl hi)) (by simp)
      · rename_i i off len cap es'
        simp only [Option.bind_eq_some_iff] at e
        obtain ⟨cs, hcs, e⟩ := e
        split at e
        · rename_i hg
          obtain ⟨rfl, hle, hroom2, hmax⟩ := hg
          obtain ⟨c, sh, A, cap', h6, rfl, h8, h9, h10⟩ := hs
          have hs : VR w ρ Pp (.sl i off len cap info.size) Pt (.slice (some A) len cap') := ⟨c, sh, A, cap', h6, rfl, h8, h9, h10⟩
          have hcl := (cellsAt_eq hcs).2
          have hci := (cellsAt_eq hcs).1
          have hilt : i < h.length := (List.getElem?_eq_some_iff.1 hci).1
          split at e
          · rename_i hfit
            simp only [Option.some.injEq, Prod.mk.injEq] at e
            obtain ⟨rfl, rfl, rfl⟩ := e
            have hFi : F i := hF i (.inr (by simp))
            have hbr : ∀ k, k ∈ r → HB w ρ Pp Pt h k := fun k hk => p.hb k (hF k (.inl (by simp [hk])))
            have hl := gcells_len hc hx hbr
            obtain ⟨q1, us, q2, q3⟩ := firstCells_run (P := P) (m := n) hc hx hbr (Nat.le_refl _)
            rw [List.take_of_length_le (by omega)] at q3
            have hul := VRs_len q3
            by_cases hemp : us = []
            · subst hemp
              have hz : new = [] := by
                apply List.eq_nil_of_length_eq_zero
                rw [← hul]; rfl
              refine ⟨_, w, append_in ht ht' hu hdx hnd hi ty (A := A) q1 q2 (by omega) rfl, ρ, Pp, ⟨c, sh, A, cap', h6, rfl, by omega, h9, h10⟩, ?_⟩
              subst hz
              have e1 : splice cs (off + len * info.size) [] = cs := by simp [splice]
              have e2 : h.set i cs = h := by
                apply List.ext_getElem?
                intro k
                by_cases hk : k = i
                · subst hk
                  rw [hci, List.getElem?_set]
                  simp [hilt]
                · rw [List.getElem?_set_ne (Ne.symm hk)]
              rw [e1, e2]
              exact step_self p hFi hci (by rw [hcl]; exact h6) _
            · have hpos : 0 < n * info.size := by
                rw [← hl, ← hul]
                exact List.length_pos_iff.2 hemp
              have hn : n ≠ 0 := by
                rintro rfl
                simp at hpos
              obtain ⟨rfl, R, h11, h12⟩ := h10.resolve_left (by omega)
              have hmul : (len + n) * info.size ≤ cap * info.size := Nat.mul_le_mul_right _ hfit
              rw [Nat.add_mul] at hmul
              obtain ⟨w', q4, q5⟩ := store_step (P := P) p (off := off + len * info.size) (i :: r) hFi hcs h6 (by omega) q3 hcell
              refine ⟨_, w', append_in ht ht' hu hdx hnd hi ty (A := ⟨c, sh + off, none⟩) q1 q2 (by omega) ?_, _, Pp, ?_, q5⟩
              · rw [addr_add, Nat.add_assoc]
                exact q4
              · exact ⟨c, sh, _, cap', q5.keep.rho _ _ _ h6, rfl, by omega, h9, .inr ⟨rfl, R, q5.keep.rsz _ _ h11, h12⟩⟩
          · rename_i hfit
            split at e
            · rename_i hoff
              obtain ⟨rfl, hes⟩ := hoff
              simp only [Option.some.injEq, Prod.mk.injEq] at e
              obtain ⟨rfl, rfl, rfl⟩ := e
              have hFi : F i := hF i (.inr (by simp))
              have hbr : ∀ k, k ∈ r → HB w ρ Pp Pt h k := fun k hk => p.hb k (hF k (.inl (by simp [hk])))
              have hbi := p.hb i hFi
              have hl := gcells_len hc hx hbr
              obtain ⟨q1, us, q2, q3⟩ := firstCells_run (P := P) (m := n) hc hx hbr (Nat.le_refl _)
              rw [List.take_of_length_le (by omega)] at q3
              have hul := VRs_len q3
              have hgs : gcells h info.size (.sl i 0 len cap info.size) = some (len, (cs.drop 0).take (len * info.size), [i]) := by
                have hcs' : cellsAt h i (0 + cap * info.size) = some cs := hcs
                simp only [gcells, hcs', Option.bind_eq_bind, Option.bind_some]
                rw [if_pos ⟨trivial, hle⟩]
              have hmul : (cap + 1) * info.size ≤ (len + n) * info.size := Nat.mul_le_mul_right _ (by omega)
              have hmul2 : len * info.size ≤ cap * info.size := Nat.mul_le_mul_right _ hle
              have hsum : (len + n) * info.size = len * info.size + n * info.size := Nat.add_mul ..
              rw [Nat.add_mul, Nat.one_mul] at hmul
              have hnl : (cs.take (len * info.size) ++ new).length = (len + n) * info.size := by
                rw [List.length_append, List.length_take, Nat.min_eq_left (by omega), hl]; omega
              rw [Nat.zero_add] at hcl h6
              obtain ⟨⟨rc, rty, lo, hi', h3, h4, h5, h5'⟩, h7, h7'⟩ := cells_at hcs hbi (by rw [Nat.zero_add]; exact h6)
              dsimp only at h3 h4 h5'
              by_cases hin : len + n ≤ cap'
              · obtain ⟨rfl, R, h11, h12⟩ := h10.resolve_left (by omega)
                have hR : R = rc.size := by
                  unfold rsz at h11
                  rw [h3] at h11
                  simpa using h11.symm
                have hmul3 : (len + n) * info.size ≤ cap' * info.size := Nat.mul_le_mul_right _ hin
                have hst := run_storeRow (P := P) (c := c) (o := sh + 0 + len * info.size) us 0 rc w h3 (by omega) (cells_one q3 hcell) h5
                simp only [Nat.add_zero] at hst
                have st2 := Step.write (w' := w.setRow c (rc.toList.take (sh + len * info.size) ++ us ++ rc.toList.drop (sh + len * info.size + us.length)).toArray) (r := i :: r) (cs' := cs.take (len * info.size) ++ new) p hFi hci (by rw [hcl]; exact h6) (by rw [hnl, hcl]; omega) rfl rfl rfl (by simp) h3 (setRow_heap w c rc _ rty (lo, hi') h3) (fun k hk => setRow_other w c k _ hk) (by simp; omega) (by rw [hnl]; omega) (fun j g hg => ?_)
                · refine ⟨_, _, append_in ht ht' hu hdx hnd hi ty (A := ⟨c, sh + 0, none⟩) q1 q2 hin (by rw [addr_add]; exact hst), _, Pp, ?_, st2⟩
                  refine ⟨c, sh, _, cap', ?_, rfl, Nat.le_refl _, hin, .inr ⟨rfl, R, st2.keep.rsz _ _ h11, h12⟩⟩
                  rw [Nat.zero_add, ← hnl]
                  exact put_same
                · have htk : (rc.toList.take (sh + len * info.size)).length = sh + len * info.size := by simp; omega
                  have htk' : (cs.take (len * info.size)).length = len * info.size := by simp; omega
                  simp only [List.getElem?_toArray]
                  by_cases hj : j < len * info.size
                  · rw [List.getElem?_append_left (by omega), List.getElem?_take, if_pos hj] at hg
                    obtain ⟨u, q4, q5⟩ := h5' j g hg
                    refine ⟨u, ?_, q5⟩
                    rw [List.append_assoc, List.getElem?_append_left (by omega), List.getElem?_take, if_pos (by omega)]
                    simpa using q4
                  · rw [List.getElem?_append_right (by omega), htk'] at hg
                    obtain ⟨u, q4, q5⟩ := VRs_get q3 _ g hg
                    refine ⟨u, ?_, q5⟩
                    have := (List.getElem?_eq_some_iff.1 q4).1
                    rw [List.append_assoc, List.getElem?_append_right (by omega), htk, List.getElem?_append_left (by omega), ← q4]
                    congr 1
                    omega
              · have hx1' := hx1
                obtain ⟨_, us1, r1, r2⟩ := firstCells_run (P := P) (m := n) hc hx1 (fun k hk => p1.hb k (hF k (.inl (by simp [hk])))) (Nat.le_refl _)
                have hs1 := st.val p (fun i hi => by simp at hi) hs
                obtain ⟨_, old, r3, r4⟩ := firstCells_run (P := P) (m := len) hgs hs1 (fun k hk => p1.hb k (hF k (.inr (by simpa using hk)))) (Nat.le_refl _)
                rw [List.take_of_length_le (by omega)] at r2
                simp only [List.drop_zero, List.take_take, Nat.min_self] at r4
                obtain ⟨newCap, r5, r6⟩ := append_grow (P := P) (w := w) ht ht' hu hdx hnd hi ty (base := some A) (sLen := len) (sCap := cap') hz1 q1 r1 r3 hin hmax hroom2
                have ol := VRs_len r4
                have ul := VRs_len r2
                have htk' : (cs.take (len * info.size)).length = len * info.size := by simp; omega
                have hsz : (old.toArray ++ us1.toArray ++ Builtin.zeroCells zv.cells (newCap - (len + n))).size = newCap * info.size := by
                  simp only [Array.size_append, zeroCells_size, hzs]
                  have : newCap * info.size = (len + n) * info.size + (newCap - (len + n)) * info.size := by rw [← Nat.add_mul]; congr 1; omega
                  simp
                  omega
                have both := VRs_append r4 r2
                refine ⟨_, _, r6, ρ.put i (cs.take (len * info.size) ++ new).length (w.heap.size, 0), Pp, ?_, ?_⟩
                · refine ⟨w.heap.size, 0, ⟨w.heap.size, 0, none⟩, newCap, ?_, rfl, Nat.le_refl _, r5, .inr ⟨rfl, newCap * info.size, ?_, by omega⟩⟩
                  · rw [Nat.zero_add, ← hnl]
                    exact put_same
                  · have := rsz_alloc w.drew (old.toArray ++ us1.toArray ++ Builtin.zeroCells zv.cells (newCap - (len + n))) et (0, 0)
                    rw [hsz] at this
                    exact this
                · refine Step.place p (i := i) (by simp [hilt]) (fun k hk => by rw [List.getElem?_set_ne (Ne.symm hk)]) (.inr ⟨hilt, by simp, rfl⟩) (fun m hm => ?_) rfl rfl rfl rfl ?_ (fun o _ => by omega) (fun j g hg => ?_)
                  · exact (hbi cs hci).2 m (by omega)
                  · rw [hsz, hnl]
                    exact Nat.mul_le_mul_right _ r5
                  · obtain ⟨u, q4, q5⟩ := VRs_get both j g hg
                    refine ⟨u, ?_, VR_mono (w := w.drew) (w' := w) (ρ' := ρ) (Pp' := Pp) ⟨fun _ _ h => h, fun _ _ _ h => h, fun _ h => h⟩ _ _ _ _ (fun _ h => .inl h) (fun _ _ => rfl) q5⟩
                    have := (List.getElem?_eq_some_iff.1 q4).1
                    rw [← Array.getElem?_toList]
                    simp only [Array.toList_append]
                    rw [List.getElem?_append_left this]
                    exact q4
            · cases e
        · cases e
      · cases e
    · cases e
  · cases e
end

end Go.Proofs.Ytolhjndfplfjpaa.G
