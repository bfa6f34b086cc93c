/- copy and append. Calls: what is lent, what is handed back; an operation, all in all. An operation, whichever it is. -/
import Derived.Test.YtlbnioapepelnaaZa85a8b13
set_option linter.unusedSimpArgs false
set_option linter.unusedVariables false
namespace Go.Proofs.Ytlbnioapepelnaa.G
open Go.RowKit

section
variable {P : Program} {Pt Pp : Nat → Prop} {w : World} {ρ : Map} {h : Heap} {a : Act} {o : Oper} {σ : GS} {C : Cfg} {call : GCall} {F : Nat → Prop} {N : Nat}

theorem gcopy_run {t : TypeId} {d x v : GV} {ud ux : Value} {h' : Heap} {lg : Lg} (e : gcopy P h t d x = some (v, h', lg)) (hd : VR w ρ Pp d Pt ud) (hx : VR w ρ Pp x Pt ux) (p : Pre Pt w ρ Pp h F N) (hF : ∀ i, i ∈ lg.r ∨ i ∈ lg.w → F i) (ty : TypeId)
    (ts : Array TypeId) (ht : ts[0]? = some t) : ∃ u w', (Builtin.copy_ ts ty #[ud, ux]).run P w = .ok u w' ∧ After Pt w ρ Pp h lg h' v u w' := by
  unfold gcopy at e
  simp only [Option.bind_eq_bind, obsi] at e
  obtain ⟨dd, hu, e⟩ := e
  split at e
  · rename_i et
    simp only [obsi] at e
    obtain ⟨es, hes, ⟨n, new, r⟩, hc, e⟩ := e
    split at e
    · rename_i hcell
      dsimp only at hcell e
      split at e
      · simp only [Option.some.injEq, Prod.mk.injEq] at e
        obtain ⟨rfl, rfl, rfl⟩ := e
        simp only [VR, VRi] at hd
        subst hd
        obtain ⟨q1, us, q2, q3⟩ := firstCells_run (P := P) (m := 0) hc hx (fun i hi => p.hb i (hF i (.inl hi))) (by omega)
        refine ⟨.int .i64 0, w, ?_, ρ, Pp, rfl, Step.none ..⟩
        simp [Builtin.copy_, ht, run_underlying hu, q1, run_sizeOf hes, q2, goInt]
      · simp only [Option.some.injEq, Prod.mk.injEq] at e
        obtain ⟨rfl, rfl, rfl⟩ := e
        rcases hd with rfl | ⟨A, rfl⟩
        · obtain ⟨q1, us, q2, q3⟩ := firstCells_run (P := P) (m := 0) hc hx (fun i hi => p.hb i (hF i (.inl hi))) (by omega)
          refine ⟨.int .i64 0, w, ?_, ρ, Pp, rfl, Step.none ..⟩
          simp [Builtin.copy_, ht, run_underlying hu, q1, run_sizeOf hes, q2, goInt]
        obtain ⟨q1, us, q2, q3⟩ := firstCells_run (P := P) (m := 0) hc hx (fun i hi => p.hb i (hF i (.inl hi))) (by omega)
        have : us = [] := by
          have := VRs_len q3
          simpa using this
        subst this
        refine ⟨.int .i64 0, w, ?_, ρ, Pp, rfl, Step.none ..⟩
        simp [Builtin.copy_, ht, run_underlying hu, q1, run_sizeOf hes, q2, goInt, storeCells]
      · rename_i i off len cap es'
        simp only [obsi] at e
        obtain ⟨cs, hcs, e⟩ := e
        split at e
        · rename_i hle
          obtain ⟨rfl, hle⟩ := hle
          simp only [Option.some.injEq, Prod.mk.injEq] at e
          obtain ⟨rfl, rfl, rfl⟩ := e
          obtain ⟨c, sh, A, cap', h6, rfl, h8, h9, h10⟩ := hd
          obtain ⟨q1, us, q2, q3⟩ := firstCells_run (P := P) (m := min n len) hc hx (fun i hi => p.hb i (hF i (.inl hi))) (by omega)
          have hFi : F i := hF i (.inr (by simp))
          have hcl := (cellsAt_eq hcs).2
          have hci := (cellsAt_eq hcs).1
          have run : ∀ w', (storeCells A us).run P w = .ok () w' → (Builtin.copy_ ts ty #[.slice (some A) len cap', ux]).run P w = .ok (.int .i64 (min n len : Nat)) w' := by
            intro w' hw
            have q2' : (Builtin.firstCells es' (n.min len) ux).run P w = .ok us.toArray w := q2
            simp only [Builtin.copy_, ht]
            simp [run_underlying hu, q1, run_sizeOf hes, q2', hw, goInt]
          have hul := VRs_len q3
          have hnl : new.length = n * es' := by
            rcases gcells_run hc hx (fun i hi => p.hb i (hF i (.inl hi))) with ⟨_, rfl, rfl, _⟩ | ⟨_, _, _, _, _, _, q, _⟩ | ⟨s, _, _, rfl, rfl, rfl⟩
            · simp
            · exact q
            · rw [List.length_map, ByteArray.toList_eq]; simp
          have hmul1 : min n len * es' ≤ n * es' := Nat.mul_le_mul_right _ (by omega)
          have hmul2 : min n len * es' ≤ cap * es' := Nat.mul_le_mul_right _ (by omega)
          have htl : (new.take (min n len * es')).length = min n len * es' := by simp; omega
          by_cases hemp : us = []
          · subst hemp
            have hz : new.take (min n len * es') = [] := by
              apply List.eq_nil_of_length_eq_zero
              rw [← hul]; rfl
            refine ⟨_, w, run w rfl, ρ, Pp, by simp [VR, VRi], ?_⟩
            rw [hz]
            have e1 : splice cs off [] = cs := by simp [splice]
            rw [e1]
            have e2 : h.set i cs = h := by
              apply List.ext_getElem?
              intro k
              by_cases hk : k = i
              · subst hk
                rw [hci, List.getElem?_set]
                simp [(List.getElem?_eq_some_iff.1 hci).1]
              · rw [List.getElem?_set_ne (Ne.symm hk)]
            rw [e2]
            exact step_self p hFi hci (by rw [hcl]; exact h6) _
          · have hcap : cap' ≠ 0 := by
              intro h0
              apply hemp
              apply List.eq_nil_of_length_eq_zero
              rw [hul, htl, show len = 0 by omega]
              simp
            obtain ⟨rfl, _⟩ := h10.resolve_left hcap
            obtain ⟨w', q4, q5⟩ := store_step (P := P) p (off := off) r hFi hcs h6 (by omega) q3 (List.all_eq_true.2 fun g hg => List.all_eq_true.1 hcell g (List.mem_of_mem_take hg))
            exact ⟨_, w', run w' q4, _, Pp, by simp [VR, VRi], q5⟩
        · cases e
      · cases e
    · cases e
  · cases e

theorem zeros_cell {z : List GV} (h : z.all GV.isCell = true) : ∀ n, (zeros z n).all GV.isCell = true
  | 0 => rfl
  | n + 1 => by rw [zeros, List.all_append, h, zeros_cell h n]; rfl

theorem gclear_run {t : TypeId} {d v : GV} {ud : Value} {h' : Heap} {lg : Lg} (e : gclear P h t d = some (v, h', lg)) (hd : VR w ρ Pp d Pt ud) (p : Pre Pt w ρ Pp h F N) (hF : ∀ i, i ∈ lg.r ∨ i ∈ lg.w → F i) (ty : TypeId)
    (ts : Array TypeId) (ht : ts[0]? = some t) : ∃ u w', (Builtin.clear_ ts ty #[ud]).run P w = .ok u w' ∧ After Pt w ρ Pp h lg h' v u w' := by
  unfold gclear at e
  simp only [Option.bind_eq_bind, obsi] at e
  obtain ⟨dd, hu, e⟩ := e
  have e0 : (#[ud] : Array Value)[0]? = some ud := rfl
  split at e
  · rename_i et
    simp only [obsi] at e
    obtain ⟨z, hz, e⟩ := e
    have skip : ∀ b c, ud = .slice b 0 c → (Builtin.clear_ ts ty #[ud]).run P w = .ok undef w := by
      rintro b c rfl
      unfold Builtin.clear_
      simp only [ht, e0]
      cases b <;> simp [run_underlying hu] <;> rfl
    split at e
    · simp only [Option.some.injEq, Prod.mk.injEq] at e
      obtain ⟨rfl, rfl, rfl⟩ := e
      simp only [VR, VRi] at hd
      exact ⟨_, w, skip _ _ hd, ρ, Pp, rfl, Step.none ..⟩
    · simp only [Option.some.injEq, Prod.mk.injEq] at e
      obtain ⟨rfl, rfl, rfl⟩ := e
      rcases hd with rfl | ⟨A, rfl⟩
      · exact ⟨_, w, skip _ _ rfl, ρ, Pp, rfl, Step.none ..⟩
      · exact ⟨_, w, skip _ _ rfl, ρ, Pp, rfl, Step.none ..⟩
    · rename_i i off len cap es
      simp only [obsi] at e
      obtain ⟨cs, hcs, e⟩ := e
      split at e
      · rename_i hc
        obtain ⟨hzl, hle, hcell⟩ := hc
        simp only [Option.some.injEq, Prod.mk.injEq] at e
        obtain ⟨rfl, rfl, rfl⟩ := e
        obtain ⟨c, sh, A, cap', h6, rfl, h8, h9, h10⟩ := hd
        have hFi : F i := hF i (.inr (by simp))
        have hcl := (cellsAt_eq hcs).2
        have hci := (cellsAt_eq hcs).1
        by_cases hl0 : len = 0
        · subst hl0
          refine ⟨_, w, skip _ _ rfl, ρ, Pp, rfl, ?_⟩
          have e1 : splice cs off (zeros z 0) = cs := by simp [splice, zeros]
          rw [e1]
          have e2 : h.set i cs = h := by
            apply List.ext_getElem?
            intro k
            by_cases hk : k = i
            · subst hk
              rw [hci, List.getElem?_set]
              simp [(List.getElem?_eq_some_iff.1 hci).1]
            · rw [List.getElem?_set_ne (Ne.symm hk)]
          rw [e2]
          exact step_self p hFi hci (by rw [hcl]; exact h6) _
        · obtain ⟨rfl, _⟩ := h10.resolve_left (by omega)
          obtain ⟨zv, hz1, hz2⟩ := gzero_run hz
          have hv := VRs_zeros (n := len) (hz2 w ρ Pp Pt)
          have hzs := VRs_len (hz2 w ρ Pp Pt)
          simp only [Array.length_toList] at hzs
          have ez : (Array.range (len * z.length)).map (zv.cells[· % zv.cells.size]!) = Builtin.zeroCells zv.cells len := by
            unfold Builtin.zeroCells
            rw [hzs]
          rw [ez] at hv
          have hmul : len * es ≤ cap * es := Nat.mul_le_mul_right _ hle
          obtain ⟨w', q4, q5⟩ := store_step (P := P) p (off := off) [] hFi hcs h6 (by rw [zeros_len, hzl, hcl]; omega) hv (zeros_cell hcell len)
          refine ⟨undef, w', ?_, _, Pp, rfl, q5⟩
          unfold Builtin.clear_
          obtain ⟨n, rfl⟩ : ∃ n, len = n + 1 := ⟨len - 1, by omega⟩
          simp only [ht, e0]
          simp [run_underlying hu, hz1, q4]
          rfl
      · cases e
    · cases e
  · cases e

theorem grow_le (need old : Nat) (h : need > old) : Builtin.nextslicecap need old ≤ 2 * need := by
  unfold Builtin.nextslicecap
  split
  · omega
  · split
    · omega
    · have key : ∀ (k c : Nat), c ≤ 2 * need → Builtin.growBy need k c ≤ 2 * need ∨ False := by
        intro k
        induction k with
        | zero => intro c hc; exact .inl (by simpa [Builtin.growBy] using hc)
        | succ k ih =>
          intro c hc
          unfold Builtin.growBy
          split
          · exact .inl hc
          · exact ih _ (by omega)
      exact (key 4 old (by omega)).elim id False.elim

section
variable {t t' et : TypeId} {info : TypeInfo} {ts : Array TypeId} {dx : TypeDesc} {ux : Value} {n : Nat} {zv : Value}

theorem append_in (ht : ts[0]? = some t) (ht' : ts[1]? = some t') (hu : P.underlying t = some (.slice et)) (hdx : P.underlying t' = some dx) (hnd : ∀ k, dx ≠ .int k) (hi : P.info? et = some info)
    (ty : TypeId) {A : Addr} {sLen sCap : Nat} {us : List Value} {w' : World} (hl : (Builtin.lenOf ux).run P w = .ok n w) (hf : (Builtin.firstCells info.size n ux).run P w = .ok us.toArray w) (hfit : sLen + n ≤ sCap)
    (hst : (storeCells (A.add (sLen * info.size)) us).run P w = .ok () w') : (Builtin.append_ ts ty #[.slice (some A) sLen sCap, ux]).run P w = .ok (.slice (some A) (sLen + n) sCap) w' := by
  have hsz : (sizeOf et).run P w = .ok info.size w := by simp [sizeOf, run_typeInfo hi]
  unfold Builtin.append_
  have e0 : (#[Value.slice (some A) sLen sCap, ux] : Array Value)[0]? = some (.slice (some A) sLen sCap) := rfl
  have e1 : (#[Value.slice (some A) sLen sCap, ux] : Array Value)[1]? = some ux := rfl
  simp only [ht, ht', e0, e1]
  simp only [Sem.run_bind, run_underlying hu, run_underlying hdx, Result.andThen_ok, hsz]
  cases dx
  case int k => exact absurd rfl (hnd k)
  all_goals
    simp only [Sem.run_pure, Result.andThen_ok, Sem.run_bind, Bool.false_eq_true, if_false, hl, false_or]
    rw [if_pos hfit]
    simp only [Bool.not_false, if_true, Sem.run_bind, hf, Result.andThen_ok, hst, Sem.run_pure]

theorem append_nil (ht : ts[0]? = some t) (ht' : ts[1]? = some t') (hu : P.underlying t = some (.slice et)) (hdx : P.underlying t' = some dx) (hnd : ∀ k, dx ≠ .int k) (hi : P.info? et = some info)
    (ty : TypeId) {us : List Value} (hl : (Builtin.lenOf ux).run P w = .ok 0 w) (hf : (Builtin.firstCells info.size 0 ux).run P w = .ok us.toArray w) : (Builtin.append_ ts ty #[.slice none 0 0, ux]).run P w = .ok (.slice none 0 0) w := by
  have hsz : (sizeOf et).run P w = .ok info.size w := by simp [sizeOf, run_typeInfo hi]
  unfold Builtin.append_
  have e0 : (#[Value.slice none 0 0, ux] : Array Value)[0]? = some (.slice none 0 0) := rfl
  have e1 : (#[Value.slice none 0 0, ux] : Array Value)[1]? = some ux := rfl
  simp only [ht, ht', e0, e1]
  simp only [Sem.run_bind, run_underlying hu, run_underlying hdx, Result.andThen_ok, hsz]
  cases dx
  case int k => exact absurd rfl (hnd k)
  all_goals
    simp only [Sem.run_pure, Result.andThen_ok, Sem.run_bind, Bool.false_eq_true, if_false, hl, false_or]
    rw [if_pos (Nat.le_refl _)]
    simp only [Bool.not_false, if_true, Sem.run_bind, hf, Result.andThen_ok, Sem.run_pure]

theorem append_grow (ht : ts[0]? = some t) (ht' : ts[1]? = some t') (hu : P.underlying t = some (.slice et)) (hdx : P.underlying t' = some dx) (hnd : ∀ k, dx ≠ .int k) (hi : P.info? et = some info)
    (ty : TypeId) {base : Option Addr} {sLen sCap : Nat} {us old : List Value} (hz : ∀ w, (zeroValue et).run P w = .ok zv w) (hl : (Builtin.lenOf ux).run P w = .ok n w) (hf : (Builtin.firstCells info.size n ux).run P w.drew = .ok us.toArray w.drew)
    (ho : (Builtin.firstCells info.size sLen (.slice base sLen sCap)).run P w.drew = .ok old.toArray w.drew) (hfit : ¬ sLen + n ≤ sCap) (hm : sLen + n ≤ maxLen) (hr : (sLen + n) * info.bytes ≤ roomMax) :
    ∃ newCap, sLen + n ≤ newCap ∧ (Builtin.append_ ts ty #[.slice base sLen sCap, ux]).run P w = .ok (.slice (some ⟨w.heap.size, 0, none⟩) (sLen + n) newCap) (w.drew.alloc (.cells (old.toArray ++ us.toArray ++ Builtin.zeroCells zv.cells (newCap - (sLen + n))) et)) := by
  have hsz : ∀ w, (sizeOf et).run P w = .ok info.size w := fun w => by simp [sizeOf, run_typeInfo hi]
  let q : Question := .appendCap (sLen + n) sCap et
  refine ⟨q.cut (w.tape w.drawn q), Nat.le_add_right _ _, ?_⟩
  have hq : (choose q).run P w = .ok (q.cut (w.tape w.drawn q)) w.drew := by
    rw [run_choose]
    rfl
  have n1 : ¬ (((sLen + n : Nat) : Int) > IntKind.i64.max ∧ info.bytes = 0) := by
    rintro ⟨h1, _⟩
    have : ((sLen + n : Nat) : Int) > 9223372036854775807 := h1
    simp only [maxLen] at hm
    omega
  have n2 : ¬ (Builtin.nextslicecap (sLen + n) sCap * info.bytes > 2 ^ 48) := by
    have h1 := grow_le (sLen + n) sCap (by omega)
    have h2 : Builtin.nextslicecap (sLen + n) sCap * info.bytes ≤ 2 * (sLen + n) * info.bytes := Nat.mul_le_mul_right _ h1
    rw [Nat.mul_assoc] at h2
    simp only [roomMax] at hr
    omega
  unfold Builtin.append_
  have e0 : (#[Value.slice base sLen sCap, ux] : Array Value)[0]? = some (.slice base sLen sCap) := rfl
  have e1 : (#[Value.slice base sLen sCap, ux] : Array Value)[1]? = some ux := rfl
  simp only [ht, ht', e0, e1]
  simp only [Sem.run_bind, run_underlying hu, run_underlying hdx, Result.andThen_ok, hsz]
  cases dx
  case int k => exact absurd rfl (hnd k)
  all_goals
    simp only [Sem.run_pure, Result.andThen_ok, Sem.run_bind, Bool.false_eq_true, if_false, hl, false_or]
    rw [if_neg hfit]
    simp only [Sem.run_bind, run_typeInfo hi, Result.andThen_ok]
    rw [if_neg n1]
    simp only [Sem.run_bind, run_typeInfo hi, Result.andThen_ok]
    rw [if_neg n2]
    simp only [Sem.run_bind]
    rw [hq]
    simp only [Result.andThen_ok, Sem.run_bind, run_askRoom, run_typeInfo hi, ho, Sem.run_pure, Bool.not_false, if_true, hf, hz, newRow, run_newObj]
    rfl
end

theorem zeroCells_size (z : Array Value) (n : Nat) : (Builtin.zeroCells z n).size = n * z.size := by simp [Builtin.zeroCells]

theorem gcells_len {es n : Nat} {v : GV} {cs : List GV} {r : List Nat} {u : Value} (e : gcells h es v = some (n, cs, r)) (hv : VR w ρ Pp v Pt u) (hb : ∀ i, i ∈ r → HB w ρ Pp Pt h i) : cs.length = n * es := by
  rcases gcells_run e hv hb with ⟨_, rfl, rfl, _⟩ | ⟨_, _, _, _, _, _, q, _⟩ | ⟨s, _, _, rfl, rfl, rfl⟩
  · simp
  · exact q
  · rw [List.length_map, ByteArray.toList_eq]; simp

theorem gappz_run {t t' : TypeId} {s x v : GV} {us0 ux : Value} {h' : Heap} {lg : Lg} {ik : IntKind} (e : gappz P h t s x = some (v, h', lg)) (hs : VR w ρ Pp s Pt us0) (hx : VR w ρ Pp x Pt ux) (p : Pre Pt w ρ Pp h F h'.length) (ty : TypeId)
    (ts : Array TypeId) (ht : ts[0]? = some t) (ht' : ts[1]? = some t') (hdx : P.underlying t' = some (.int ik)) : ∃ u w', (Builtin.append_ ts ty #[us0, ux]).run P w = .ok u w' ∧ After Pt w ρ Pp h lg h' v u w' := by
  unfold gappz at e
  simp only [Option.bind_eq_bind, obsi] at e
  obtain ⟨dd, hu, e⟩ := e
  split at e
  · rename_i et
    simp only [obsi] at e
    obtain ⟨info, hi, z, hz, e⟩ := e
    split at e
    · rename_i l
      simp only [VR, VRi] at hs hx
      subst hs hx
      split at e
      · rename_i hg
        obtain ⟨c0, c1, c2, c3⟩ := hg
        obtain ⟨zv, hz1, hz2⟩ := gzero_run hz
        have hzl := VRs_len (hz2 w ρ Pp Pt)
        simp only [Array.length_toList] at hzl
        have wl : IntKind.i64.wrap l = l := op_makeSlice.wrap_small c0 c1
        have hsz : ∀ w, (sizeOf et).run P w = .ok info.size w := fun w => by simp [sizeOf, run_typeInfo hi]
        have n1 : ¬ (l < 0) := by omega
        have n2 : ¬ (l * info.bytes > 2 ^ 48) := by
          have e1 : ((l.toNat * info.bytes : Nat) : Int) = l * info.bytes := by
            push_cast; congr 1; omega
          rw [← e1]
          simp only [roomMax] at c2
          omega
        have e0 : (#[Value.slice none 0 0, Value.int .i64 l] : Array Value)[0]? = some (.slice none 0 0) := rfl
        have e1 : (#[Value.slice none 0 0, Value.int .i64 l] : Array Value)[1]? = some (.int .i64 l) := rfl
        split at e
        · rename_i hl0
          simp only [Option.some.injEq, Prod.mk.injEq] at e
          obtain ⟨rfl, rfl, rfl⟩ := e
          refine ⟨.slice none 0 0, w, ?_, ρ, Pp, rfl, Step.none ..⟩
          unfold Builtin.append_
          simp only [ht, ht', e0, e1]
          simp only [Sem.run_bind, run_underlying hu, run_underlying hdx, Result.andThen_ok, hsz]
          simp only [Sem.run_pure, Result.andThen_ok, Sem.run_bind, if_true, asInt, asIntOf, wl, n1, n2, if_false, run_typeInfo hi, hl0]
          simp [Sem.run_pure, Sem.run_bind]
        · rename_i hl0
          simp only [Option.some.injEq, Prod.mk.injEq] at e
          obtain ⟨rfl, rfl, rfl⟩ := e
          let q : Question := .appendCap (0 + l.toNat) 0 et
          have hq : (choose q).run P w = .ok (q.cut (w.tape w.drawn q)) w.drew := by
            rw [run_choose]
            rfl
          have hcap : l.toNat ≤ q.cut (w.tape w.drawn q) := by
            show l.toNat ≤ 0 + l.toNat + _
            omega
          have n3 : ¬ (0 + l.toNat ≤ 0) := by omega
          have n4 : ¬ ((((0 + l.toNat : Nat) : Int) > IntKind.i64.max) ∧ (true = true ∨ info.bytes = 0)) := by
            rintro ⟨h1, _⟩
            have : ((0 + l.toNat : Nat) : Int) > 9223372036854775807 := h1
            simp only [maxLen] at c1
            omega
          have n5 : ¬ (Builtin.nextslicecap (0 + l.toNat) 0 * info.bytes > 2 ^ 48) := by
            have : Builtin.nextslicecap (0 + l.toNat) 0 = l.toNat := by
              unfold Builtin.nextslicecap
              rw [if_pos (by omega)]; omega
            rw [this]
            simp only [roomMax] at c2
            omega
          let rc : Array Value := Builtin.zeroCells zv.cells l.toNat ++ Builtin.zeroCells zv.cells (q.cut (w.tape w.drawn q) - l.toNat)
          have hrs : rc.size = q.cut (w.tape w.drawn q) * info.size := by
            simp only [rc, Array.size_append, zeroCells_size, hzl, c3]
            rw [← Nat.add_mul]; congr 1; omega
          have hzc : ∀ n, Builtin.zeroCells zv.cells n = ((Array.range (n * z.length)).map (zv.cells[· % zv.cells.size]!)) := fun n => by
            simp [Builtin.zeroCells, hzl]
          refine ⟨.slice (some ⟨w.heap.size, 0, none⟩) l.toNat (q.cut (w.tape w.drawn q)), w.drew.alloc (.cells rc et), ?_, ρ.put h.length (zeros z l.toNat).length (w.heap.size, 0), Pp, ?_, ?_⟩
          · unfold Builtin.append_
            simp only [ht, ht', e0, e1]
            simp only [Sem.run_bind, run_underlying hu, run_underlying hdx, Result.andThen_ok, hsz]
            simp only [Sem.run_pure, Result.andThen_ok, Sem.run_bind, if_true, asInt, asIntOf, wl, n1, n2, if_false, run_typeInfo hi]
            rw [if_neg n3]
            simp only [Sem.run_bind, run_typeInfo hi, Result.andThen_ok, true_or, and_true] at n4 ⊢
            rw [if_neg n4]
            simp only [Sem.run_bind, run_typeInfo hi, Result.andThen_ok, Sem.run_pure]
            rw [if_neg n5]
            simp only [Sem.run_bind]
            rw [hq]
            simp only [Result.andThen_ok, Sem.run_bind, run_askRoom, run_typeInfo hi, Sem.run_pure, Builtin.firstCells, Bool.not_true, Bool.false_eq_true, if_false]
            by_cases hn0 : l.toNat * info.size = 0
            · rw [if_pos hn0]
              simp only [Sem.run_bind, Sem.run_pure, Result.andThen_ok, hz1, newRow, run_newObj]
              have : Builtin.zeroCells zv.cells l.toNat = #[] := by
                rw [hzc, c3, hn0]; simp
              simp only [rc, this, Nat.zero_add]
              rfl
            · rw [if_neg hn0]
              simp only [Sem.run_bind, Sem.run_pure, Result.andThen_ok, hz1, newRow, run_newObj, Nat.zero_add, rc]
              simp
              rfl
          · refine ⟨w.heap.size, 0, ⟨w.heap.size, 0, none⟩, q.cut (w.tape w.drawn q), ?_, rfl, Nat.le_refl _, hcap, .inr ⟨rfl, q.cut (w.tape w.drawn q) * info.size, ?_, by omega⟩⟩
            · rw [Nat.zero_add, ← c3, ← zeros_len]
              exact put_same
            · have := rsz_alloc w.drew rc et (0, 0)
              rw [hrs] at this
              exact this
          · refine Step.fresh_block (us := (Builtin.zeroCells zv.cells l.toNat).toList) p (by simp) [] rfl rfl rfl rfl ?_ (fun o _ => by omega) ?_ ?_
            · rw [hrs, zeros_len, c3]
              exact Nat.mul_le_mul_right _ hcap
            · simp only [rc, Array.toList_append]
              rw [List.take_append_of_le_length (by simp [zeros_len, zeroCells_size, hzl])]
              rw [List.take_of_length_le (by simp [zeros_len, zeroCells_size, hzl])]
            · rw [hzc]
              exact VRs_zeros (hz2 ..)
      · cases e
    · cases e
  · cases e

theorem gappend_run {t t' : TypeId} {s x v : GV} {us0 ux : Value} {h' : Heap} {lg : Lg} {dx : TypeDesc} (e : gappend P h t s x = some (v, h', lg)) (hs : VR w ρ Pp s Pt us0) (hx : VR w ρ Pp x Pt ux) (p : Pre Pt w ρ Pp h F h'.length) (hF : ∀ i, i ∈ lg.r ∨ i ∈ lg.w → F i) (ty : TypeId)
    (ts : Array TypeId) (ht : ts[0]? = some t) (ht' : ts[1]? = some t') (hdx : P.underlying t' = some dx) (hnd : ∀ k, dx ≠ .int k) : ∃ u w', (Builtin.append_ ts ty #[us0, ux]).run P w = .ok u w' ∧ After Pt w ρ Pp h lg h' v u w' := by
  unfold gappend at e
  simp only [Option.bind_eq_bind, obsi] at e
  obtain ⟨dd, hu, e⟩ := e
  split at e
  · rename_i et
    simp only [obsi] at e
    obtain ⟨info, hi, ⟨n, new, r⟩, hc, z, hz, e⟩ := e
    split at e
    · rename_i hg
      dsimp only at hg e
      obtain ⟨hcell, hzl, hnm, hroom⟩ := hg
      obtain ⟨zv, hz1, hz2⟩ := gzero_run hz
      have hzs : zv.cells.size = info.size := by
        have := VRs_len (hz2 w ρ Pp Pt)
        simp only [Array.length_toList] at this
        omega
      -- what is appended, before and after the draw
      have st := Step.drew Pt w ρ Pp h r (w.drawn + 1)
      have p1 := st.after p (fun i hi => by simp at hi)
      have hx1 := st.val p (fun i hi => by simp at hi) hx
      have fresh : ∀ (base : Option Addr), us0 = .slice base 0 0 → n ≠ 0 → (∀ i, i ∈ r → F i) → h'.length = h.length + 1 →
          ∃ u w', (Builtin.append_ ts ty #[us0, ux]).run P w = .ok u w' ∧ After Pt w ρ Pp h ⟨r, []⟩ (h ++ [new]) (.sl h.length 0 n n info.size) u w' := by
        intro base hb hn hr hlen
        subst hb
        have hl := gcells_len hc hx (fun i hi => p.hb i (hr i hi))
        obtain ⟨q1, us, _, _⟩ := firstCells_run (P := P) (m := n) hc hx (fun i hi => p.hb i (hr i hi)) (Nat.le_refl _)
        obtain ⟨_, us, q2, q3⟩ := firstCells_run (P := P) (m := n) hc hx1 (fun i hi => p1.hb i (hr i hi)) (Nat.le_refl _)
        obtain ⟨newCap, q4, q5⟩ := append_grow (P := P) (w := w) ht ht' hu hdx hnd hi ty (base := base) (sLen := 0) (sCap := 0) (old := []) hz1 q1 q2 (by cases base <;> simp [Builtin.firstCells, loadCells, loadCellsFrom]) (by omega) (by omega) (by simpa using hroom)
        have hul := VRs_len q3
        rw [List.take_of_length_le (by omega)] at q3 hul
        simp only [Nat.zero_add] at q4 q5
        have hsz : (#[] ++ us.toArray ++ Builtin.zeroCells zv.cells (newCap - n)).size = newCap * info.size := by
          simp only [Array.size_append, zeroCells_size, hzs]
          have : newCap * info.size = n * info.size + (newCap - n) * info.size := by rw [← Nat.add_mul]; congr 1; omega
          simp
          omega
        refine ⟨_, _, q5, ρ.put h.length new.length (w.heap.size, 0), Pp, ?_, ?_⟩
        · refine ⟨w.heap.size, 0, ⟨w.heap.size, 0, none⟩, newCap, ?_, rfl, Nat.le_refl _, q4, .inr ⟨rfl, newCap * info.size, ?_, by omega⟩⟩
          · rw [Nat.zero_add, ← hl]
            exact put_same
          · have := rsz_alloc w.drew (#[] ++ us.toArray ++ Builtin.zeroCells zv.cells (newCap - n)) et (0, 0)
            rw [hsz] at this
            exact this
        · refine Step.fresh_block (us := us) p (by omega) r rfl rfl rfl rfl ?_ (fun o _ => by omega) ?_ ?_
          · rw [hsz, hl]
            exact Nat.mul_le_mul_right _ q4
          · simp only [Array.toList_append]
            rw [← hul]
            simp
          · have q6 := st.keep
            exact VRs_mono (w := w.drew) (w' := w) (ρ' := ρ) (Pp' := Pp) ⟨fun _ _ h => h, fun _ _ _ h => h, fun _ h => h⟩ _ _ _ _ (fun _ h => .inl h) (fun _ _ => rfl) q3
      split at e
      · simp only [VR, VRi] at hs
        split at e
        · rename_i hn
          simp only [Option.some.injEq, Prod.mk.injEq] at e
          obtain ⟨rfl, rfl, rfl⟩ := e
          subst hn
          subst hs
          obtain ⟨q1, us, q2, q3⟩ := firstCells_run (P := P) (m := 0) hc hx (fun i hi => p.hb i (hF i (.inl hi))) (Nat.le_refl _)
          exact ⟨_, w, append_nil ht ht' hu hdx hnd hi ty q1 q2, ρ, Pp, rfl, Step.none ..⟩
        · rename_i hn
          simp only [Option.some.injEq, Prod.mk.injEq] at e
          obtain ⟨rfl, rfl, rfl⟩ := e
          exact fresh none hs hn (fun i hi => hF i (.inl hi)) (by simp)
      · split at e
        · rename_i hn
          simp only [Option.some.injEq, Prod.mk.injEq] at e
          obtain ⟨rfl, rfl, rfl⟩ := e
          subst hn
          rcases hs with hs | ⟨A, hs⟩
          · subst hs
            obtain ⟨q1, us, q2, q3⟩ := firstCells_run (P := P) (m := 0) hc hx (fun i hi => p.hb i (hF i (.inl hi))) (Nat.le_refl _)
            exact ⟨_, w, append_nil ht ht' hu hdx hnd hi ty q1 q2, ρ, Pp, .inl rfl, Step.none ..⟩
          subst hs
          obtain ⟨q1, us, q2, q3⟩ := firstCells_run (P := P) (m := 0) hc hx (fun i hi => p.hb i (hF i (.inl hi))) (Nat.le_refl _)
          have : us = [] := by
            have := VRs_len q3
            simpa using this
          subst this
          exact ⟨_, w, append_in ht ht' hu hdx hnd hi ty (A := A) (sLen := 0) (sCap := 0) q1 q2 (by omega) rfl, ρ, Pp, .inr ⟨A, rfl⟩, Step.none ..⟩
        · rename_i hn
          simp only [Option.some.injEq, Prod.mk.injEq] at e
          obtain ⟨rfl, rfl, rfl⟩ := e
          rcases hs with hs | ⟨A, hs⟩
          · exact fresh none hs hn (fun i hi => hF i (.inl hi)) (by simp)
          · exact fresh (some A) hs hn (fun i hi => hF i (.inl hi)) (by simp)
      · rename_i i off len cap es'
        simp only [obsi] at e
        obtain ⟨cs, hcs, e⟩ := e
        split at e
        · rename_i hg
          obtain ⟨rfl, hle, hroom2, hmax⟩ := hg
          obtain ⟨c, sh, A, cap', h6, rfl, h8, h9, h10⟩ := hs
          have hs : VR w ρ Pp (.sl i off len cap info.size) Pt (.slice (some A) len cap') := ⟨c, sh, A, cap', h6, rfl, h8, h9, h10⟩
          have hcl := (cellsAt_eq hcs).2
          have hci := (cellsAt_eq hcs).1
          have hilt : i < h.length := (List.getElem?_eq_some_iff.1 hci).1
          split at e
          · rename_i hfit
            simp only [Option.some.injEq, Prod.mk.injEq] at e
            obtain ⟨rfl, rfl, rfl⟩ := e
            have hFi : F i := hF i (.inr (by simp))
            have hbr : ∀ k, k ∈ r → HB w ρ Pp Pt h k := fun k hk => p.hb k (hF k (.inl (by simp [hk])))
            have hl := gcells_len hc hx hbr
            obtain ⟨q1, us, q2, q3⟩ := firstCells_run (P := P) (m := n) hc hx hbr (Nat.le_refl _)
            rw [List.take_of_length_le (by omega)] at q3
            have hul := VRs_len q3
            by_cases hemp : us = []
            · subst hemp
              have hz : new = [] := by
                apply List.eq_nil_of_length_eq_zero
                rw [← hul]; rfl
              refine ⟨_, w, append_in ht ht' hu hdx hnd hi ty (A := A) q1 q2 (by omega) rfl, ρ, Pp, ⟨c, sh, A, cap', h6, rfl, by omega, h9, h10⟩, ?_⟩
              subst hz
              have e1 : splice cs (off + len * info.size) [] = cs := by simp [splice]
              have e2 : h.set i cs = h := by
                apply List.ext_getElem?
                intro k
                by_cases hk : k = i
                · subst hk
                  rw [hci, List.getElem?_set]
                  simp [hilt]
                · rw [List.getElem?_set_ne (Ne.symm hk)]
              rw [e1, e2]
              exact step_self p hFi hci (by rw [hcl]; exact h6) _
            · have hpos : 0 < n * info.size := by
                rw [← hl, ← hul]
                exact List.length_pos_iff.2 hemp
              have hn : n ≠ 0 := by
                rintro rfl
                simp at hpos
              obtain ⟨rfl, R, h11, h12⟩ := h10.resolve_left (by omega)
              have hmul : (len + n) * info.size ≤ cap * info.size := Nat.mul_le_mul_right _ hfit
              rw [Nat.add_mul] at hmul
              obtain ⟨w', q4, q5⟩ := store_step (P := P) p (off := off + len * info.size) (i :: r) hFi hcs h6 (by omega) q3 hcell
              refine ⟨_, w', append_in ht ht' hu hdx hnd hi ty (A := ⟨c, sh + off, none⟩) q1 q2 (by omega) ?_, _, Pp, ?_, q5⟩
              · rw [addr_add, Nat.add_assoc]
                exact q4
              · exact ⟨c, sh, _, cap', q5.keep.rho _ _ _ h6, rfl, by omega, h9, .inr ⟨rfl, R, q5.keep.rsz _ _ h11, h12⟩⟩
          · rename_i hfit
            split at e
            · rename_i hoff
              obtain ⟨rfl, hes⟩ := hoff
              simp only [Option.some.injEq, Prod.mk.injEq] at e
              obtain ⟨rfl, rfl, rfl⟩ := e
              have hFi : F i := hF i (.inr (by simp))
              have hbr : ∀ k, k ∈ r → HB w ρ Pp Pt h k := fun k hk => p.hb k (hF k (.inl (by simp [hk])))
              have hbi := p.hb i hFi
              have hl := gcells_len hc hx hbr
              obtain ⟨q1, us, q2, q3⟩ := firstCells_run (P := P) (m := n) hc hx hbr (Nat.le_refl _)
              rw [List.take_of_length_le (by omega)] at q3
              have hul := VRs_len q3
              have hgs : gcells h info.size (.sl i 0 len cap info.size) = some (len, (cs.drop 0).take (len * info.size), [i]) := by
                have hcs' : cellsAt h i (0 + cap * info.size) = some cs := hcs
                simp only [gcells, hcs', Option.bind_eq_bind, Option.bind_some]
                rw [if_pos ⟨trivial, hle⟩]
              have hmul : (cap + 1) * info.size ≤ (len + n) * info.size := Nat.mul_le_mul_right _ (by omega)
              have hmul2 : len * info.size ≤ cap * info.size := Nat.mul_le_mul_right _ hle
              have hsum : (len + n) * info.size = len * info.size + n * info.size := Nat.add_mul ..
              rw [Nat.add_mul, Nat.one_mul] at hmul
              have hnl : (cs.take (len * info.size) ++ new).length = (len + n) * info.size := by
                rw [List.length_append, List.length_take, Nat.min_eq_left (by omega), hl]; omega
              rw [Nat.zero_add] at hcl h6
              obtain ⟨⟨rc, rty, lo, hi', h3, h4, h5, h5'⟩, h7, h7'⟩ := cells_at hcs hbi (by rw [Nat.zero_add]; exact h6)
              dsimp only at h3 h4 h5'
              by_cases hin : len + n ≤ cap'
              · obtain ⟨rfl, R, h11, h12⟩ := h10.resolve_left (by omega)
                have hR : R = rc.size := by
                  unfold rsz at h11
                  rw [h3] at h11
                  simpa using h11.symm
                have hmul3 : (len + n) * info.size ≤ cap' * info.size := Nat.mul_le_mul_right _ hin
                have hst := run_storeRow (P := P) (c := c) (o := sh + 0 + len * info.size) us 0 rc w h3 (by omega) (cells_one q3 hcell) h5
                simp only [Nat.add_zero] at hst
                have st2 := Step.write (w' := w.setRow c (rc.toList.take (sh + len * info.size) ++ us ++ rc.toList.drop (sh + len * info.size + us.length)).toArray) (r := i :: r) (cs' := cs.take (len * info.size) ++ new) p hFi hci (by rw [hcl]; exact h6) (by rw [hnl, hcl]; omega) rfl rfl rfl (by simp) h3 (setRow_heap w c rc _ rty (lo, hi') h3) (fun k hk => setRow_other w c k _ hk) (by simp; omega) (by rw [hnl]; omega) (fun j g hg => ?_)
                · refine ⟨_, _, append_in ht ht' hu hdx hnd hi ty (A := ⟨c, sh + 0, none⟩) q1 q2 hin (by rw [addr_add]; exact hst), _, Pp, ?_, st2⟩
                  refine ⟨c, sh, _, cap', ?_, rfl, Nat.le_refl _, hin, .inr ⟨rfl, R, st2.keep.rsz _ _ h11, h12⟩⟩
                  rw [Nat.zero_add, ← hnl]
                  exact put_same
                · have htk : (rc.toList.take (sh + len * info.size)).length = sh + len * info.size := by simp; omega
                  have htk' : (cs.take (len * info.size)).length = len * info.size := by simp; omega
                  simp only [List.getElem?_toArray]
                  by_cases hj : j < len * info.size
                  · rw [List.getElem?_append_left (by omega), List.getElem?_take, if_pos hj] at hg
                    obtain ⟨u, q4, q5⟩ := h5' j g hg
                    refine ⟨u, ?_, q5⟩
                    rw [List.append_assoc, List.getElem?_append_left (by omega), List.getElem?_take, if_pos (by omega)]
                    simpa using q4
                  · rw [List.getElem?_append_right (by omega), htk'] at hg
                    obtain ⟨u, q4, q5⟩ := VRs_get q3 _ g hg
                    refine ⟨u, ?_, q5⟩
                    have := (List.getElem?_eq_some_iff.1 q4).1
                    rw [List.append_assoc, List.getElem?_append_right (by omega), htk, List.getElem?_append_left (by omega), ← q4]
                    congr 1
                    omega
              · have hx1' := hx1
                obtain ⟨_, us1, r1, r2⟩ := firstCells_run (P := P) (m := n) hc hx1 (fun k hk => p1.hb k (hF k (.inl (by simp [hk])))) (Nat.le_refl _)
                have hs1 := st.val p (fun i hi => by simp at hi) hs
                obtain ⟨_, old, r3, r4⟩ := firstCells_run (P := P) (m := len) hgs hs1 (fun k hk => p1.hb k (hF k (.inr (by simpa using hk)))) (Nat.le_refl _)
                rw [List.take_of_length_le (by omega)] at r2
                simp only [List.drop_zero, List.take_take, Nat.min_self] at r4
                obtain ⟨newCap, r5, r6⟩ := append_grow (P := P) (w := w) ht ht' hu hdx hnd hi ty (base := some A) (sLen := len) (sCap := cap') hz1 q1 r1 r3 hin hmax hroom2
                have ol := VRs_len r4
                have ul := VRs_len r2
                have htk' : (cs.take (len * info.size)).length = len * info.size := by simp; omega
                have hsz : (old.toArray ++ us1.toArray ++ Builtin.zeroCells zv.cells (newCap - (len + n))).size = newCap * info.size := by
                  simp only [Array.size_append, zeroCells_size, hzs]
                  have : newCap * info.size = (len + n) * info.size + (newCap - (len + n)) * info.size := by rw [← Nat.add_mul]; congr 1; omega
                  simp
                  omega
                have both := VRs_append r4 r2
                refine ⟨_, _, r6, ρ.put i (cs.take (len * info.size) ++ new).length (w.heap.size, 0), Pp, ?_, ?_⟩
                · refine ⟨w.heap.size, 0, ⟨w.heap.size, 0, none⟩, newCap, ?_, rfl, Nat.le_refl _, r5, .inr ⟨rfl, newCap * info.size, ?_, by omega⟩⟩
                  · rw [Nat.zero_add, ← hnl]
                    exact put_same
                  · have := rsz_alloc w.drew (old.toArray ++ us1.toArray ++ Builtin.zeroCells zv.cells (newCap - (len + n))) et (0, 0)
                    rw [hsz] at this
                    exact this
                · refine Step.place p (i := i) (by simp [hilt]) (fun k hk => by rw [List.getElem?_set_ne (Ne.symm hk)]) (.inr ⟨hilt, by simp, rfl⟩) (fun m hm => ?_) rfl rfl rfl rfl ?_ (fun o _ => by omega) (fun j g hg => ?_)
                  · exact (hbi cs hci).2 m (by omega)
                  · rw [hsz, hnl]
                    exact Nat.mul_le_mul_right _ r5
                  · obtain ⟨u, q4, q5⟩ := VRs_get both j g hg
                    refine ⟨u, ?_, VR_mono (w := w.drew) (w' := w) (ρ' := ρ) (Pp' := Pp) ⟨fun _ _ h => h, fun _ _ _ h => h, fun _ h => h⟩ _ _ _ _ (fun _ h => .inl h) (fun _ _ => rfl) q5⟩
                    have := (List.getElem?_eq_some_iff.1 q4).1
                    rw [← Array.getElem?_toList]
                    simp only [Array.toList_append]
                    rw [List.getElem?_append_left this]
                    exact q4
            · cases e
        · cases e
      · cases e
    · cases e
  · cases e
end

end Go.Proofs.Ytlbnioapepelnaa.G

namespace Go.Proofs.Ytlbnioapepelnaa.G
open Go.RowKit

section
variable {P : Program} {Pt Pp : Nat → Prop} {w : World} {ρ : Map} {h : Heap} {a : Act} {o : Oper} {σ : GS} {C : Cfg} {call : GCall} {F : Nat → Prop} {N : Nat}

theorem op_append {c : Call} {b : Builtin} {v : GV} {h' : Heap} {lg : Lg} (ho : o.op = .call c) (hc : c.callee = .builtin b) (hb : b = .append ∨ b = .copy ∨ b = .clear) (hx : ∀ x, x ∈ c.args.toList → EV w ρ Pp Pt σ a x)
    (e : gop P C call (eval σ) o h = some (v, h', lg)) (p : Pre Pt w ρ Pp h F h'.length) (hF : ∀ i, i ∈ lg.r ∨ i ∈ lg.w → F i) : OpTo P o a w (After Pt w ρ Pp h lg h' v) := by
  simp only [gop, ho, hc, Option.bind_eq_bind, obsi] at e
  obtain ⟨gs, h1, e⟩ := e
  have h2 := VRs_mapM h1 hx
  have hargs : (c.args.map a.eval).toList = c.args.toList.map a.eval := by simp
  obtain ⟨k, hk⟩ := exec_builtin ho hc a.eval
  unfold gbuiltin at e
  split at e
  · simp at hb
  · simp at hb
  · simp at hb
  · simp at hb
  · simp only [Option.bind_eq_bind, obsi] at e
    obtain ⟨t, ht, t', ht', e⟩ := e
    obtain ⟨u1, us1, h3, h4, u2, us2, rfl, h5, h6⟩ := h2
    simp only [VRsi] at h6
    subst h6
    have hargs' : c.args.map a.eval = #[u1, u2] := by
      apply Array.toList_inj.1
      rw [hargs, h3]
    split at e
    · rename_i ik hdx
      obtain ⟨u, w', q1, q2⟩ := gappz_run (P := P) e h4 h5 p o.type c.argTypes ht ht' hdx
      refine .value (u := u) (w' := w') ?_ q2
      rw [hk, hargs']
      simp only [builtin, Sem.run_bind, q1, Result.andThen_ok, Sem.run_pure]
    · rename_i dx hnd hdx
      obtain ⟨u, w', q1, q2⟩ := gappend_run (P := P) e h4 h5 p hF o.type c.argTypes ht ht' hdx (fun k e => hnd k e)
      refine .value (u := u) (w' := w') ?_ q2
      rw [hk, hargs']
      simp only [builtin, Sem.run_bind, q1, Result.andThen_ok, Sem.run_pure]
    · cases e
  · simp only [Option.bind_eq_bind, obsi] at e
    obtain ⟨t, ht, e⟩ := e
    obtain ⟨u1, us1, h3, h4, u2, us2, rfl, h5, h6⟩ := h2
    simp only [VRsi] at h6
    subst h6
    have hargs' : c.args.map a.eval = #[u1, u2] := by
      apply Array.toList_inj.1
      rw [hargs, h3]
    obtain ⟨u, w', q1, q2⟩ := gcopy_run (P := P) e h4 h5 p hF o.type c.argTypes ht
    refine .value (u := u) (w' := w') ?_ q2
    rw [hk, hargs']
    simp only [builtin, Sem.run_bind, q1, Result.andThen_ok, Sem.run_pure]
  · simp only [Option.bind_eq_bind, obsi] at e
    obtain ⟨t, ht, e⟩ := e
    obtain ⟨u1, us1, h3, h4, h6⟩ := h2
    simp only [VRsi] at h6
    subst h6
    have hargs' : c.args.map a.eval = #[u1] := by
      apply Array.toList_inj.1
      rw [hargs, h3]
    obtain ⟨u, w', q1, q2⟩ := gclear_run (P := P) e h4 p hF o.type c.argTypes ht
    refine .value (u := u) (w' := w') ?_ q2
    rw [hk, hargs']
    simp only [builtin, Sem.run_bind, q1, Result.andThen_ok, Sem.run_pure]
  · cases e

theorem VRs_mapM_of {f : GV → Option (GV × List Nat)} {ρ' : Map} {Pp' Pt' : Nat → Prop} : ∀ {gs : List GV} {xs : List (GV × List Nat)} {us : List Value}, gs.mapM f = some xs → VRs w ρ Pp gs Pt us →
    (∀ g x u, g ∈ gs → f g = some x → (∀ i, i ∈ x.2 → i ∈ (xs.map (·.2)).flatten) → VR w ρ Pp g Pt u → VR w ρ' Pp' x.1 Pt' u) → VRs w ρ' Pp' (xs.map (·.1)) Pt' us
  | [], xs, us, e, hv, _ => by
    simp at e
    subst e
    simpa [VRs, VRsi] using hv
  | g :: gs, xs, us, e, hv, hf => by
    simp only [List.mapM_cons, Option.bind_eq_bind, obsi, Option.pure_def, Option.some.injEq] at e
    obtain ⟨x, h1, xs', h2, rfl⟩ := e
    obtain ⟨u, us', rfl, h3, h4⟩ := hv
    refine ⟨u, us', rfl, hf g x u (by simp) h1 (fun i hi => by simp [hi]) h3, VRs_mapM_of h2 h4 fun g x u hg hx hi hu => hf g x u (by simp [hg]) hx (fun i hx => ?_) hu⟩
    have := hi i hx
    simp at this ⊢
    exact .inr this

theorem mapM_len {α β : Type} {f : α → Option β} : ∀ {l : List α} {r : List β}, l.mapM f = some r → r.length = l.length
  | [], r, e => by simp at e; subst e; rfl
  | x :: l, r, e => by
    simp only [List.mapM_cons, Option.bind_eq_bind, obsi, Option.pure_def, Option.some.injEq] at e
    obtain ⟨y, _, r', h2, rfl⟩ := e
    simp [mapM_len h2]

theorem BR_lt {cs : List GV} {loc : Nat × Nat} (b : BR w ρ Pp Pt cs loc) : loc.1 < w.heap.size := by
  obtain ⟨rc, ty, lo, hi, h1, _⟩ := b
  exact (Array.getElem?_eq_some_iff.1 h1).1

theorem VRs_map_of {f : GV → GV} {ρ ρ' : Map} {Pp' Pt Pt' : Nat → Prop} : ∀ {gs : List GV} {us : List Value}, VRs w ρ Pp gs Pt us → (∀ g u, g ∈ gs → VR w ρ Pp g Pt u → VR w ρ' Pp' (f g) Pt' u) → VRs w ρ' Pp' (gs.map f) Pt' us
  | [], us, h, _ => by simpa [VRs, VRsi] using h
  | g :: gs, us, h, hf => by
    obtain ⟨u, us', rfl, h2, h3⟩ := h
    exact ⟨u, us', rfl, hf g u (by simp) h2, VRs_map_of h3 fun g u hg => hf g u (by simp [hg])⟩

theorem VR_mt_of {t : Bool} {es : Nat} {cells : List GV} {ρ ρ' : Map} {Pp' Pt Pt' : Nat → Prop} {u : Value} (h : VR w ρ Pp (.fz t 0 es cells) Pt u) : VR w ρ' Pp' mt Pt' u := by
  rcases h with ⟨_, _, _, rfl⟩ | ⟨A, cap', rfl, h8, h9, h10⟩
  · exact .inl ⟨rfl, rfl, rfl, rfl⟩
  · exact .inr ⟨A, cap', rfl, h8, rfl, fun hc => (hc rfl).elim⟩
theorem VR_mt_nils {ρ ρ' : Map} {Pp' Pt Pt' : Nat → Prop} {u : Value} (h : VR w ρ Pp .nils Pt u) : VR w ρ' Pp' mt Pt' u := by
  simp only [VR, VRi] at h; subst h; exact .inl ⟨rfl, rfl, rfl, rfl⟩
theorem VR_mt_emp {ρ ρ' : Map} {Pp' Pt Pt' : Nat → Prop} {u : Value} (h : VR w ρ Pp .emp Pt u) : VR w ρ' Pp' mt Pt' u := by
  rcases h with rfl | ⟨A, rfl⟩
  · exact .inl ⟨rfl, rfl, rfl, rfl⟩
  · exact .inr ⟨A, 0, rfl, by omega, rfl, fun hc => (hc rfl).elim⟩

theorem lend_sound (hlt : ∀ c, Pp c → c < w.heap.size) : ∀ (d : Nat) (g : GV) (u : Value) (Q : Nat → Prop), (∀ c, Q c → c < w.heap.size) → VR w E0 Pp g Q u → VR w E0 Pp (lend d g) (fun c => c < w.heap.size) u
  | 0, g, u, Q, hQ, hv => VR_mono (Keep.refl w E0 Pp) g Q _ u (fun c hc => .inl (hQ c hc)) (fun _ _ => rfl) hv
  | d + 1, g, u, Q, hQ, hv => by
    have key : VR w E0 Pp g (fun c => c < w.heap.size) u := VR_mono (Keep.refl w E0 Pp) g Q _ u (fun c hc => .inl (hQ c hc)) (fun _ _ => rfl) hv
    have hQ' : ∀ t : Bool, ∀ c, (if t = true then Q else Pp) c → c < w.heap.size := fun t c hc => by
      by_cases e : t = true <;> simp [e] at hc
      · exact hQ c hc
      · exact hlt c hc
    unfold lend
    split
    · exact VR_mt_of hv
    · rename_i t n es cells
      obtain ⟨A, cap', rfl, h8, h9, h10⟩ := hv.resolve_left (by simp)
      refine .inr ⟨A, cap', rfl, h8, by simpa using h9, fun hc => ?_⟩
      obtain ⟨h11, us, h12, h13⟩ := h10 (by simpa using hc)
      refine ⟨?_, us, ?_, h13⟩
      · simp only [if_true]
        by_cases e : t = true <;> simp [e] at h11
        · exact h11.elim (fun h => .inl (hQ _ h)) .inr
        · exact .inr h11
      · simp only [if_true]
        exact VRs_map_of h12 fun g u hg hu => lend_sound hlt d g u _ (hQ' t) hu
    · rename_i t cells
      obtain ⟨A, rfl, h10⟩ := hv
      refine ⟨A, rfl, fun hc => ?_⟩
      obtain ⟨h11, us, h12, h13⟩ := h10 (by simpa using hc)
      refine ⟨?_, us, ?_, h13⟩
      · simp only [if_true]
        by_cases e : t = true <;> simp [e] at h11
        · exact h11.elim (fun h => .inl (hQ _ h)) .inr
        · exact .inr h11
      · simp only [if_true]
        exact VRs_map_of h12 fun g u hg hu => lend_sound hlt d g u _ (hQ' t) hu
    · exact VR_mt_nils hv
    · exact VR_mt_emp hv
    · obtain ⟨us, rfl, h2⟩ := hv
      exact ⟨us, rfl, VRs_map_of h2 fun g u hg hu => lend_sound hlt d g u _ hQ hu⟩
    · exact key

theorem bor_sound (hlt : ∀ c, Pp c ∨ Pt c → c < w.heap.size) : ∀ (d : Nat) (g g' : GV) (r : List Nat) (u : Value), bor d h g = some (g', r) → VR w ρ Pp g Pt u → (∀ i, i ∈ r → HB w ρ Pp Pt h i) →
    VR w E0 Pp g' (fun c => c < w.heap.size) u
  | 0, g, g', r, u, e, _, _ => by cases e
  | d + 1, g, g', r, u, e, hv, hb => by
    have hmono : ∀ {gs : List GV} {us : List Value} {Q : Nat → Prop}, (∀ c, Q c → Pp c ∨ Pt c) → VRs w E0 Pp gs Q us → VRs w E0 Pp gs (fun c => c < w.heap.size) us := fun {gs us Q} hQ hh =>
      VRs_mono (Keep.refl w E0 Pp) gs Q _ us (fun c hc => .inl (hlt c (hQ c hc))) (fun _ _ => rfl) hh
    unfold bor at e
    split at e
    · rename_i i off len cap es
      simp only [Option.bind_eq_bind, obsi] at e
      obtain ⟨cs, hcs, xs, hxs, e⟩ := e
      split at e
      · rename_i hle
        obtain ⟨c, sh, A, cap', h6, rfl, h8, h9, h10⟩ := hv
        have hcl := (cellsAt_eq hcs).2
        have hmul : len * es ≤ cap * es := Nat.mul_le_mul_right _ hle
        have hir : i ∈ r := by
          cases len with
          | zero => simp only [Option.some.injEq, Prod.mk.injEq] at e; rw [← e.2]; simp
          | succ n => simp only [Option.some.injEq, Prod.mk.injEq] at e; rw [← e.2]; simp
        have hbr := cells_at hcs (hb i hir) h6
        obtain ⟨us, q1, q2⟩ := BR_cells hbr.1 off (len * es) (by omega)
        have hxl := mapM_len hxs
        have htl : ((cs.drop off).take (len * es)).length = len * es := by simp; omega
        cases len with
        | zero =>
          simp only [Option.some.injEq, Prod.mk.injEq] at e
          obtain ⟨rfl, rfl⟩ := e
          exact .inr ⟨A, cap', rfl, by omega, rfl, fun hc => (hc rfl).elim⟩
        | succ len =>
        simp only [Option.some.injEq, Prod.mk.injEq] at e
        obtain ⟨rfl, rfl⟩ := e
        refine .inr ⟨A, cap', rfl, by omega, by rw [List.length_map, hxl, htl], fun hne => ?_⟩
        have hcap : cap' ≠ 0 := by omega
        obtain ⟨rfl, _⟩ := h10.resolve_left hcap
        refine ⟨by simpa using .inl (BR_lt hbr.1), us, ?_, q2⟩
        simp only [if_true]
        exact VRs_mapM_of hxs q1 fun g x u hg hx hi hu => bor_sound hlt d g x.1 x.2 u hx hu (fun i hi' => hb i (by have := hi i hi'; simp at this ⊢; exact .inr this))
      · cases e
    · rename_i i off tot
      simp only [Option.bind_eq_bind, obsi, Option.some.injEq, Prod.mk.injEq] at e
      obtain ⟨cs, hcs, xs, hxs, rfl, rfl⟩ := e
      obtain ⟨c, sh, h6, rfl⟩ := hv
      have hcl := (cellsAt_eq hcs).2
      have hbr := cells_at hcs (hb i (by simp)) h6
      refine ⟨_, rfl, fun hne => ?_⟩
      have hxl := mapM_len hxs
      have hlt' : off < cs.length := by
        rcases Nat.lt_or_ge off cs.length with h | h
        · exact h
        · rw [List.drop_of_length_le h] at hxl
          exact absurd (by rw [List.eq_nil_of_length_eq_zero hxl]; rfl) hne
      obtain ⟨us, q1, q2⟩ := BR_cells hbr.1 off (cs.length - off) (by omega)
      rw [List.take_of_length_le (by simp)] at q1
      refine ⟨by simpa using .inl (BR_lt hbr.1), us, ?_, q2⟩
      simp only [if_true]
      exact VRs_mapM_of hxs q1 fun g x u hg hx hi hu => bor_sound hlt d g x.1 x.2 u hx hu (fun i hi' => hb i (by have := hi i hi'; simp at this ⊢; exact .inr this))
    · simp only [Option.bind_eq_bind, obsi, Option.some.injEq, Prod.mk.injEq] at e
      obtain ⟨xs, hxs, rfl, rfl⟩ := e
      obtain ⟨us, rfl, h2⟩ := hv
      exact ⟨us, rfl, VRs_mapM_of hxs h2 fun g x u hg hx hi hu => bor_sound hlt d g x.1 x.2 u hx hu (fun i hi' => hb i (hi i hi'))⟩
    · simp only [Option.bind_eq_bind, obsi, Option.some.injEq, Prod.mk.injEq] at e
      obtain ⟨xs, hxs, rfl, rfl⟩ := e
      obtain ⟨us, rfl, h2⟩ := hv
      exact ⟨us, rfl, VRs_mapM_of hxs h2 fun g x u hg hx hi hu => bor_sound hlt d g x.1 x.2 u hx hu (fun i hi' => hb i (hi i hi'))⟩
    · cases e
    · simp only [Option.some.injEq, Prod.mk.injEq] at e
      obtain ⟨rfl, rfl⟩ := e
      exact VR_mt_nils hv
    · simp only [Option.some.injEq, Prod.mk.injEq] at e
      obtain ⟨rfl, rfl⟩ := e
      exact VR_mt_emp hv
    · simp only [Option.some.injEq, Prod.mk.injEq] at e
      obtain ⟨rfl, rfl⟩ := e
      exact lend_sound (fun c hc => hlt c (.inl hc)) (d + 1) _ u Pt (fun c hc => hlt c (.inr hc)) hv
    · simp only [Option.some.injEq, Prod.mk.injEq] at e
      obtain ⟨rfl, rfl⟩ := e
      exact lend_sound (fun c hc => hlt c (.inl hc)) (d + 1) _ u Pt (fun c hc => hlt c (.inr hc)) hv
    · simp only [Option.some.injEq, Prod.mk.injEq] at e
      obtain ⟨rfl, rfl⟩ := e
      have key : ∀ g : GV, VRi w Pp g E0 Pt u → VR w E0 Pp g (fun c => c < w.heap.size) u := fun g hh =>
        VR_mono (Keep.refl w E0 Pp) g Pt _ u (fun c hc => .inl (hlt c (.inr hc))) (fun _ _ => rfl) hh
      cases g <;> first
        | exact key _ hv
        | (rename_i hn1 hn2 hn3 hn4 hn5 hn6 hn7 hn8 hn9; first | exact absurd rfl (hn1 _ _ _ _ _) | exact absurd rfl (hn2 _ _ _) | exact absurd rfl (hn3 _ _) | exact absurd rfl (hn4 _) | exact absurd rfl (hn5 _) | exact absurd rfl hn6 | exact absurd rfl hn7 | exact absurd rfl (hn8 _ _ _ _) | exact absurd rfl (hn9 _ _))

theorem frz_sound {B : Nat} (hb : ∀ i, HB w ρ Pp Pt h i) (hnew : ∀ i c, At ρ h i c → B ≤ c) : ∀ (d : Nat) (g g' : GV) (r : List Nat) (u : Value) (Q : Nat → Prop), frz d h g = some (g', r) → VR w ρ Pp g Pt u →
    VR w E0 (fun c => Pp c ∨ (B ≤ c ∧ c < w.heap.size)) g' Q u
  | 0, g, g', r, u, Q, e, _ => by cases e
  | d + 1, g, g', r, u, Q, e, hv => by
    unfold frz at e
    split at e
    · rename_i i off len cap es
      simp only [Option.bind_eq_bind, obsi] at e
      obtain ⟨cs, hcs, xs, hxs, e⟩ := e
      split at e
      · rename_i hle
        obtain ⟨c, sh, A, cap', h6, rfl, h8, h9, h10⟩ := hv
        have hcl := (cellsAt_eq hcs).2
        have hci := (cellsAt_eq hcs).1
        have hmul : len * es ≤ cap * es := Nat.mul_le_mul_right _ hle
        have hbr := cells_at hcs (hb i) h6
        obtain ⟨us, q1, q2⟩ := BR_cells hbr.1 off (len * es) (by omega)
        have hxl := mapM_len hxs
        have htl : ((cs.drop off).take (len * es)).length = len * es := by simp; omega
        cases len with
        | zero =>
          simp only [Option.some.injEq, Prod.mk.injEq] at e
          obtain ⟨rfl, rfl⟩ := e
          exact .inr ⟨A, cap', rfl, by omega, rfl, fun hc => (hc rfl).elim⟩
        | succ len =>
        simp only [Option.some.injEq, Prod.mk.injEq] at e
        obtain ⟨rfl, rfl⟩ := e
        refine .inr ⟨A, cap', rfl, by omega, by rw [List.length_map, hxl, htl], fun hne => ?_⟩
        have hcap : cap' ≠ 0 := by omega
        obtain ⟨rfl, _⟩ := h10.resolve_left hcap
        have hB := hnew i c ⟨cs, (c, sh), hci, by rw [hcl]; exact h6, rfl⟩
        refine ⟨by simpa using .inr ⟨hB, BR_lt hbr.1⟩, us, ?_, q2⟩
        simp only [Bool.false_eq_true, if_false]
        exact VRs_mapM_of hxs q1 fun g x u hg hx hi hu => frz_sound hb hnew d g x.1 x.2 u _ hx hu
      · cases e
    · cases e
    · cases e
    · cases e
    · simp only [Option.some.injEq, Prod.mk.injEq] at e
      obtain ⟨rfl, rfl⟩ := e
      exact VR_mt_of hv
    · cases e
    · simp only [Option.some.injEq, Prod.mk.injEq] at e
      obtain ⟨rfl, rfl⟩ := e
      exact VR_mt_nils hv
    · simp only [Option.some.injEq, Prod.mk.injEq] at e
      obtain ⟨rfl, rfl⟩ := e
      exact VR_mt_emp hv
    · simp only [Option.bind_eq_bind, obsi, Option.some.injEq, Prod.mk.injEq] at e
      obtain ⟨xs, hxs, rfl, rfl⟩ := e
      obtain ⟨us, rfl, h2⟩ := hv
      exact ⟨us, rfl, VRs_mapM_of hxs h2 fun g x u hg hx hi hu => frz_sound hb hnew d g x.1 x.2 u _ hx hu⟩
    · simp only [Option.bind_eq_bind, obsi, Option.some.injEq, Prod.mk.injEq] at e
      obtain ⟨xs, hxs, rfl, rfl⟩ := e
      obtain ⟨us, rfl, h2⟩ := hv
      exact ⟨us, rfl, VRs_mapM_of hxs h2 fun g x u hg hx hi hu => frz_sound hb hnew d g x.1 x.2 u _ hx hu⟩
    · rename_i hn1 hn2 hn3 hn4 hn5 hn6 hn7 hn8 hn9 hn10
      simp only [Option.some.injEq, Prod.mk.injEq] at e
      obtain ⟨rfl, rfl⟩ := e
      have hk : Keep w E0 Pp w E0 (fun c => Pp c ∨ (B ≤ c ∧ c < w.heap.size)) := ⟨fun _ _ h => h, fun _ _ _ h => h, fun c hc => .inl hc⟩
      have key : ∀ g : GV, (∀ n es cs, g = .fz true n es cs → False) → VRi w Pp g E0 (fun _ => False) u → VR w E0 (fun c => Pp c ∨ (B ≤ c ∧ c < w.heap.size)) g Q u := fun g _ hh =>
        VR_mono hk g (fun _ => False) _ u (fun c hc => hc.elim) (fun _ _ => rfl) hh
      cases g with
      | fz t n es cells =>
        cases n with
        | zero => exact (hn5 _ _ _ rfl).elim
        | succ n =>
        cases t with
        | true => exact (hn6 _ _ _ rfl).elim
        | false => exact key _ (by simp) hv
      | sl i off len cap es => exact absurd rfl (hn1 _ _ _ _ _)
      | ptr i off tot => exact absurd rfl (hn2 _ _ _)
      | fp t cells => exact absurd rfl (hn3 _ _)
      | fn f caps => exact absurd rfl (hn4 _ _)
      | nils => exact absurd rfl hn7
      | emp => exact absurd rfl hn8
      | agg cs => exact absurd rfl (hn9 _)
      | tup cs => exact absurd rfl (hn10 _)
      | _ => exact key _ (by simp) hv

def CSound (P : Program) (k : GCall) : Prop := ∀ (f : FuncId) (args : List GV) (h : Heap) (v : GV) (h' : Heap) (lg : Lg) (us : List Value) (w : World) (ρ : Map) (Pp Pt F : Nat → Prop),
  k f args h = some (v, h', lg) → VRs w ρ Pp args Pt us → Pre Pt w ρ Pp h F h'.length → (∀ i, i ∈ lg.r ∨ i ∈ lg.w → F i) →
  Calls P f us.toArray w fun | .returned u, w' => After Pt w ρ Pp h lg h' v u w' | _, _ => False

def XSound (P : Program) (C : Cfg) : Prop := ∀ (f : FuncId) (e : List GV → Option GV) (args : List GV) (v : GV) (us : List Value) (w : World) (Pp Pt : Nat → Prop),
  C.ext f = some e → e args = some v → VRs w E0 Pp args Pt us → (∀ c, Pp c ∨ Pt c → c < w.heap.size) → GL w Pp →
  Calls P f us.toArray w fun | .returned u, w' => VR w' E0 (fun c => w.heap.size ≤ c ∧ c < w'.heap.size) v (fun _ => False) u ∧ Below w.heap.size w w' | _, _ => False

def NameOk (P : Program) : Prop := ∀ (f : FuncId) (fn : Func), P.funcs[f]? = some fn → (fn.name == "runtime.NumGoroutine") = false

def loc1 (ρ1 : Map) (x : Nat × Nat × Nat) : Nat × Nat := match ρ1 x.1 x.2.2 with | some l => (l.1, l.2 + x.2.1) | none => (0, 0)
def Agree (ρ1 ρ' : Map) (b : Nat) (vis : Vis) (bl : List (List GV)) : Prop := ∀ (k : Nat) (x : Nat × Nat × Nat) (cs : List GV), vis[k]? = some x → bl[k]? = some cs → ρ' (b + k) cs.length = some (loc1 ρ1 x)

structure Owned (w : World) (ρ1 : Map) (Pp1 : Nat → Prop) (h1 : Heap) (b : Nat) (vis : Vis) (bl : List (List GV)) (T : Map → (Nat → Prop) → (Nat → Prop) → Prop) : Prop where
  len : vis.length = bl.length
  at_ : ∀ x ∈ vis, ∃ cs l, cellsAt h1 x.1 x.2.2 = some cs ∧ ρ1 x.1 x.2.2 = some l
  to : ∀ (ρ' : Map) (Pp' Pt' : Nat → Prop), (∀ c, Pp1 c → Pp' c) → Agree ρ1 ρ' b vis bl → T ρ' Pp' Pt' ∧ ∀ (k : Nat) (x : Nat × Nat × Nat) (cs : List GV), vis[k]? = some x → bl[k]? = some cs → BR w ρ' Pp' Pt' cs (loc1 ρ1 x)

theorem ownL_sound {ρ1 : Map} {Pp1 PtC : Nat → Prop} {h1 : Heap} {f : Nat → GV → Option (GV × Vis × List (List GV))}
    (hf : ∀ (g : GV) (b : Nat) (r : GV × Vis × List (List GV)) (u : Value), f b g = some r → VR w ρ1 Pp1 g PtC u → Owned w ρ1 Pp1 h1 b r.2.1 r.2.2 fun ρ' Pp' Pt' => VR w ρ' Pp' r.1 Pt' u) :
    ∀ (gs : List GV) (b : Nat) (q : List GV × Vis × List (List GV)) (us : List Value), ownL f b gs = some q → VRs w ρ1 Pp1 gs PtC us → q.1.length = gs.length ∧ Owned w ρ1 Pp1 h1 b q.2.1 q.2.2 fun ρ' Pp' Pt' => VRs w ρ' Pp' q.1 Pt' us
  | [], b, q, us, e, hv => by
    simp only [ownL, Option.some.injEq] at e
    subst e
    simp only [VRs, VRsi] at hv
    subst hv
    exact ⟨rfl, rfl, by simp, fun _ _ _ _ _ => ⟨rfl, fun k x cs h => by simp at h⟩⟩
  | g :: gs, b, q, us, e, hv => by
    unfold ownL at e
    simp only [obsi, Option.some.injEq] at e
    obtain ⟨r, h2, p, h3, rfl⟩ := e
    obtain ⟨u, us', rfl, h4, h5⟩ := hv
    have o1 := hf g b r u h2 h4
    obtain ⟨l2, o2⟩ := ownL_sound hf gs _ p us' h3 h5
    refine ⟨by simp [l2], by simp [o1.len, o2.len], fun x hx => ?_, fun ρ' Pp' Pt' hp ha => ?_⟩
    · rcases List.mem_append.1 hx with hx | hx
      · exact o1.at_ x hx
      · exact o2.at_ x hx
    · have a1 : Agree ρ1 ρ' b r.2.1 r.2.2 := fun k x cs e1 e2 => ha k x cs (by rw [List.getElem?_append_left (List.getElem?_eq_some_iff.1 e1).1]; exact e1) (by rw [List.getElem?_append_left (List.getElem?_eq_some_iff.1 e2).1]; exact e2)
      have a2 : Agree ρ1 ρ' (b + r.2.2.length) p.2.1 p.2.2 := fun k x cs e1 e2 => by
        have := ha (r.2.2.length + k) x cs (by rw [List.getElem?_append_right (by rw [o1.len]; omega), o1.len]; simpa using e1) (by rw [List.getElem?_append_right (by omega)]; simpa using e2)
        rwa [← Nat.add_assoc] at this
      obtain ⟨t1, b1⟩ := o1.to ρ' Pp' Pt' hp a1
      obtain ⟨t2, b2⟩ := o2.to ρ' Pp' Pt' hp a2
      refine ⟨⟨u, us', rfl, t1, t2⟩, fun k x cs e1 e2 => ?_⟩
      rcases Nat.lt_or_ge k r.2.1.length with hk | hk
      · rw [List.getElem?_append_left hk] at e1
        rw [List.getElem?_append_left (by rw [← o1.len]; exact hk)] at e2
        exact b1 k x cs e1 e2
      · rw [List.getElem?_append_right hk] at e1
        rw [List.getElem?_append_right (by rw [← o1.len]; exact hk), ← o1.len] at e2
        exact b2 _ x cs e1 e2

theorem own_sound {ρ1 : Map} {Pp1 PtC : Nat → Prop} {h1 : Heap} (hb : ∀ i, HB w ρ1 Pp1 PtC h1 i) : ∀ (d : Nat) (g : GV) (b : Nat) (r : GV × Vis × List (List GV)) (u : Value), own d h1 b g = some r → VR w ρ1 Pp1 g PtC u →
    Owned w ρ1 Pp1 h1 b r.2.1 r.2.2 fun ρ' Pp' Pt' => VR w ρ' Pp' r.1 Pt' u
  | 0, g, b, r, u, e, _ => by cases e
  | d + 1, g, b, r, u, e, hv => by
    have ihL := ownL_sound (w := w) (ρ1 := ρ1) (Pp1 := Pp1) (PtC := PtC) (h1 := h1) (f := own d h1) (fun g b r u e hv => own_sound hb d g b r u e hv)
    have nothing : ∀ (T : Map → (Nat → Prop) → (Nat → Prop) → Prop), (∀ ρ' Pp' Pt', (∀ c, Pp1 c → Pp' c) → T ρ' Pp' Pt') → Owned w ρ1 Pp1 h1 b [] [] T := fun T hT =>
      ⟨rfl, by simp, fun ρ' Pp' Pt' hp _ => ⟨hT ρ' Pp' Pt' hp, fun k x cs h => by simp at h⟩⟩
    unfold own at e
    split at e
    · rename_i i off len cap es
      obtain ⟨cs, hcs, e⟩ := obsi.1 e
      split at e
      · rename_i hle
        simp only [obsi, Option.some.injEq] at e
        obtain ⟨q, hq, rfl⟩ := e
        obtain ⟨c, sh, A, cap', h6, rfl, h8, h9, h10⟩ := hv
        have hcl := (cellsAt_eq hcs).2
        have hmul : len * es ≤ cap * es := Nat.mul_le_mul_right _ hle
        have hbr := (cells_at hcs (hb i) h6).1
        have hloc : loc1 ρ1 (i, off, off + cap * es) = (c, sh + off) := by simp only [loc1, h6]
        obtain ⟨rc, ty, lo, hi, k1, k2, k3, k4⟩ := hbr
        have hus : VRs w ρ1 Pp1 ((cs.drop off).take (len * es)) PtC ((List.range (len * es)).map fun j => (rc[sh + (off + j)]?).getD undef) := by
          refine VRs_of (by simp; omega) fun j g u e1 e2 => ?_
          rw [List.getElem?_take] at e1
          split at e1
          · rename_i hj
            rw [List.getElem?_drop] at e1
            obtain ⟨u', h5, h7⟩ := k4 (off + j) g e1
            rw [List.getElem?_map, List.getElem?_range hj] at e2
            simp only [Option.map_some, Option.some.injEq] at e2
            rw [h5] at e2
            simp only [Option.getD_some] at e2
            rw [← e2]; exact h7
          · cases e1
        obtain ⟨ql, o⟩ := ihL _ _ q _ hq hus
        have hql : q.1.length = len * es := by rw [ql]; simp; omega
        refine ⟨by simp [o.len], fun x hx => ?_, fun ρ' Pp' Pt' hp ha => ?_⟩
        · simp only [List.mem_cons] at hx
          rcases hx with rfl | hx
          · exact ⟨cs, (c, sh), hcs, h6⟩
          · exact o.at_ x hx
        · have a2 : Agree ρ1 ρ' (b + 1) q.2.1 q.2.2 := fun k x cs e1 e2 => by
            have := ha (k + 1) x cs (by simpa using e1) (by simpa using e2)
            rwa [show b + (k + 1) = b + 1 + k by omega] at this
          obtain ⟨t1, b1⟩ := o.to ρ' Pp' Pt' hp a2
          have h0 : ρ' b (len * es) = some (c, sh + off) := by
            have := ha 0 _ q.1 rfl rfl
            rw [hql, hloc] at this
            simpa using this
          refine ⟨⟨c, sh + off, A, cap', by simpa using h0, rfl, Nat.le_refl _, by omega, ?_⟩, fun k x cs' e1 e2 => ?_⟩
          · rcases h10 with h10 | ⟨rfl, R, h11, h12⟩
            · exact .inl h10
            · exact .inr ⟨rfl, R, h11, by simpa using h12⟩
          · cases k with
            | zero =>
              simp only [List.getElem?_cons_zero, Option.some.injEq] at e1 e2
              subst e1; subst e2
              rw [hloc]
              refine ⟨rc, ty, lo, hi, k1, ?_, k3, fun j g hg => ?_⟩
              · show sh + off + q.1.length ≤ rc.size
                rw [hql]; simp only at k2; omega
              · obtain ⟨u, e3, e4⟩ := VRs_get t1 j g hg
                have hj : j < len * es := by
                  have := (List.getElem?_eq_some_iff.1 hg).1
                  omega
                rw [List.getElem?_map, List.getElem?_range hj] at e3
                simp only [Option.map_some, Option.some.injEq] at e3
                refine ⟨u, ?_, e4⟩
                show rc[sh + off + j]? = some u
                have hlt : sh + off + j < rc.size := by simp only at k2; omega
                rw [show sh + (off + j) = sh + off + j by omega, Array.getElem?_eq_getElem hlt] at e3
                rw [Array.getElem?_eq_getElem hlt]
                simpa using e3
            | succ k => exact b1 k x cs' (by simpa using e1) (by simpa using e2)
      · cases e
    · simp only [obsi, Option.some.injEq] at e
      obtain ⟨q, hq, rfl⟩ := e
      obtain ⟨us, rfl, h2⟩ := hv
      obtain ⟨_, o⟩ := ihL _ _ q _ hq h2
      exact ⟨o.len, o.at_, fun ρ' Pp' Pt' hp ha => ⟨⟨us, rfl, (o.to ρ' Pp' Pt' hp ha).1⟩, (o.to ρ' Pp' Pt' hp ha).2⟩⟩
    · simp only [obsi, Option.some.injEq] at e
      obtain ⟨q, hq, rfl⟩ := e
      obtain ⟨us, rfl, h2⟩ := hv
      obtain ⟨_, o⟩ := ihL _ _ q _ hq h2
      exact ⟨o.len, o.at_, fun ρ' Pp' Pt' hp ha => ⟨⟨us, rfl, (o.to ρ' Pp' Pt' hp ha).1⟩, (o.to ρ' Pp' Pt' hp ha).2⟩⟩
    · cases e
    · cases e
    · cases e
    · simp only [Option.some.injEq] at e
      subst e
      exact nothing _ fun _ _ _ _ => VR_mt_of hv
    · cases e
    · rename_i hn1 hn2 hn3 hn4 hn5 hn6 hn7 hn8
      simp only [Option.some.injEq] at e
      subst e
      have key : ∀ g : GV, VRi w Pp1 g E0 (fun _ => False) u → Owned w ρ1 Pp1 h1 b [] [] fun ρ' Pp' Pt' => VR w ρ' Pp' g Pt' u := fun g hh =>
        nothing _ fun ρ' Pp' Pt' hp => VR_mono (w := w) (ρ := E0) (Pp := Pp1) (⟨fun _ _ h => h, fun _ _ _ h => by simp [E0] at h, hp⟩ : Keep w E0 Pp1 w ρ' Pp') g (fun _ => False) _ u (fun c hc => hc.elim) (fun _ _ => rfl) hh
      cases g with
      | fz t n es cells =>
        cases n with
        | zero => exact (hn7 _ _ _ rfl).elim
        | succ n =>
        cases t with
        | true => exact (hn8 _ _ _ rfl).elim
        | false => exact key _ hv
      | sl i off len cap es => exact absurd rfl (hn1 _ _ _ _ _)
      | agg cs => exact absurd rfl (hn2 _)
      | tup cs => exact absurd rfl (hn3 _)
      | ptr i off tot => exact absurd rfl (hn4 _ _ _)
      | fp t cells => exact absurd rfl (hn5 _ _)
      | fn f caps => exact absurd rfl (hn6 _ _)
      | _ => exact key _ hv

theorem split_sound (hC : CSound P call) {g : FuncId} {args : List GV} {us : List Value} {ρ0 : Map} {Pt0 : Nat → Prop} (lr : List Nat) (hs : gsplit call g = true) (ha : emptyArg args = true) (hv : VRs w ρ0 Pp args Pt0 us) (hlt : ∀ c, Pp c ∨ Pt c → c < w.heap.size) (hgl : GL w Pp) :
    Calls P g us.toArray w fun | .returned u, w' => After Pt w ρ Pp h ⟨lr, []⟩ h .emp u w' | _, _ => False := by
  have hatn : ∀ i c, ¬ At E0 [] i c := fun i c ha => by
    obtain ⟨cs, loc, h1, _⟩ := ha
    simp at h1
  -- one run, in no heap
  have run : ∀ (a r : GV) (h1 : Heap) (lg1 : Lg), call g [a] [] = some (r, h1, lg1) → (∀ w' ρ' Pp' (Q : Nat → Prop) u, VR w' ρ' Pp' r Q u → VR w' ρ Pp .emp Pt u) → VRs w E0 Pp [a] (fun c => c < w.heap.size) us →
      Calls P g us.toArray w fun | .returned u, w' => After Pt w ρ Pp h ⟨lr, []⟩ h .emp u w' | _, _ => False := by
    intro a r h1 lg1 e hr hva
    have p1 : Pre (fun c => c < w.heap.size) w E0 Pp [] (fun _ => True) h1.length :=
      ⟨fun c hc => hc.elim (fun h => hlt c (.inl h)) id, fun i _ cs hcs => by simp at hcs, fun i j c _ _ _ ha => absurd ha (hatn i c), fun _ _ _ _ => rfl, hgl⟩
    refine Calls.mono (hC g _ [] r h1 lg1 us w E0 Pp _ _ e hva p1 (fun _ _ => trivial)) fun en w' he => ?_
    cases en with
    | returned u =>
      obtain ⟨ρ', Pp', hu, st⟩ := he
      refine ⟨ρ, Pp, hr _ _ _ _ _ hu, ?_⟩
      refine ⟨st.os, st.tape, st.output, st.size, ⟨st.keep.rsz, fun _ _ _ h => h, fun c hc => hc⟩, fun c hc _ => st.kept c hc (fun i _ => hatn i c), fun _ h => .inl h, fun _ _ _ => rfl, Nat.le_refl _, fun _ _ _ => rfl, fun i hi => ?_, fun i c hi => ?_, fun i j c hi => ?_⟩
      · rcases hi with hi | hi
        · exact absurd hi (by simp)
        · omega
      · rcases hi with hi | hi
        · exact absurd hi (by simp)
        · omega
      · rcases hi with hi | hi
        · omega
        · exact absurd hi (by simp)
    | _ => exact he.elim
  unfold gsplit at hs
  split at hs
  · rename_i h1 l1 h2 l2 e1 e2
    have r1 := run .nils .nils h1 l1 e1 (fun w' ρ' Pp' Q u hu => by simp only [VR, VRi] at hu; exact .inl hu)
    have r2 := run (.fz true 0 1 []) .emp h2 l2 e2 (fun w' ρ' Pp' Q u hu => hu)
    unfold emptyArg at ha
    split at ha
    · obtain ⟨u, us', rfl, h3, h4⟩ := hv
      simp only [VRsi] at h4
      subst h4
      rcases h3 with ⟨_, _, _, rfl⟩ | ⟨A, cap', rfl, h8, h9, h10⟩
      · exact r1 ⟨_, _, rfl, rfl, rfl⟩
      · exact r2 ⟨_, _, rfl, .inr ⟨A, cap', rfl, h8, rfl, fun hc => (hc rfl).elim⟩, rfl⟩
    · obtain ⟨u, us', rfl, h3, h4⟩ := hv
      simp only [VRsi] at h4
      subst h4
      rcases h3 with rfl | ⟨A, rfl⟩
      · exact r1 ⟨_, _, rfl, rfl, rfl⟩
      · exact r2 ⟨_, _, rfl, .inr ⟨A, 0, rfl, by omega, rfl, fun hc => (hc rfl).elim⟩, rfl⟩
    · cases ha
  · cases hs

theorem nodupB_ne : ∀ {l : List Nat} {i j a b : Nat}, nodupB l = true → i < j → l[i]? = some a → l[j]? = some b → a ≠ b
  | [], i, j, a, b, _, _, e1, _ => by simp at e1
  | x :: l, i, j, a, b, hn, hij, e1, e2 => by
    simp only [nodupB, Bool.and_eq_true, List.all_eq_true, Bool.not_eq_true'] at hn
    cases j with
    | zero => omega
    | succ j =>
      simp only [List.getElem?_cons_succ] at e2
      cases i with
      | zero =>
        simp only [List.getElem?_cons_zero, Option.some.injEq] at e1
        subst e1
        exact Nat.ne_of_beq_eq_false (hn.1 b (List.mem_of_getElem? e2))
      | succ i => exact nodupB_ne (i := i) (j := j) hn.2 (by omega) (by simpa using e1) e2

theorem fresh_sound (hC : CSound P call) {g : FuncId} {args : List GV} {us : List Value} {xs : List (GV × List Nat)} {v v' : GV} {h1 : Heap} {lg1 : Lg} {vis : Vis} {bl : List (List GV)} (hxs : args.mapM (bor 9 h) = some xs) (hcall : call g (xs.map (·.1)) [] = some (v, h1, lg1))
    (hown : own 9 h1 h.length v = some (v', vis, bl)) (hnd : nodupB (vis.map (·.1)) = true) (hv : VRs w ρ Pp args Pt us) (p : Pre Pt w ρ Pp h F (h ++ bl).length) (hF : ∀ i, i ∈ (xs.map (·.2)).flatten → F i) :
    Calls P g us.toArray w fun | .returned u, w' => After Pt w ρ Pp h ⟨(xs.map (·.2)).flatten, []⟩ (h ++ bl) v' u w' | _, _ => False := by
  have hlent : VRs w E0 Pp (xs.map (·.1)) (fun c => c < w.heap.size) us := VRs_mapM_of hxs hv fun g x u hg hx hi hu =>
    bor_sound p.lt 9 g x.1 x.2 u hx hu (fun i hi' => p.hb i (hF i (hi i hi')))
  have hatn : ∀ i c, ¬ At E0 [] i c := fun i c ha => by
    obtain ⟨cs, loc, h1, _⟩ := ha
    simp at h1
  have p1 : Pre (fun c => c < w.heap.size) w E0 Pp [] (fun _ => True) h1.length :=
    ⟨fun c hc => hc.elim (fun h => p.lt c (.inl h)) id, fun i _ cs hcs => by simp at hcs, fun i j c _ _ _ ha => absurd ha (hatn i c), fun _ _ _ _ => rfl, p.gl⟩
  refine Calls.mono (hC g _ [] v h1 lg1 us w E0 Pp _ _ hcall hlent p1 (fun _ _ => trivial)) fun en w' he => ?_
  cases en with
  | returned u =>
    obtain ⟨ρ1, Pp1, hu, st⟩ := he
    have p2 := st.after p1 (fun _ _ => trivial)
    have o := own_sound (w := w') (fun i => p2.hb i trivial) 9 v h.length _ u hown hu
    simp only at o
    let ρ' : Map := fun i n => if h.length ≤ i ∧ i < h.length + bl.length then (match vis[i - h.length]?, bl[i - h.length]? with | some x, some cs => if n = cs.length then some (loc1 ρ1 x) else none | _, _ => none) else ρ i n
    have hin : ∀ (k : Nat) (x : Nat × Nat × Nat) (cs : List GV) (n : Nat), vis[k]? = some x → bl[k]? = some cs → ρ' (h.length + k) n = if n = cs.length then some (loc1 ρ1 x) else none := by
      intro k x cs n e1 e2
      have hk := (List.getElem?_eq_some_iff.1 e2).1
      show (if h.length ≤ h.length + k ∧ h.length + k < h.length + bl.length then _ else _) = _
      rw [if_pos ⟨by omega, by omega⟩, Nat.add_sub_cancel_left, e1, e2]
    have hout : ∀ i n, ¬(h.length ≤ i ∧ i < h.length + bl.length) → ρ' i n = ρ i n := fun i n hi => if_neg hi
    obtain ⟨t, bb⟩ := o.to ρ' Pp1 Pt (fun _ h => h) (fun k x cs e1 e2 => by rw [hin k x cs _ e1 e2, if_pos rfl])
    -- where the blocks lie
    have far : ∀ (k : Nat) (x : Nat × Nat × Nat), vis[k]? = some x → w.heap.size ≤ (loc1 ρ1 x).1 ∧ ¬ Pp1 (loc1 ρ1 x).1 ∧ At ρ1 h1 x.1 (loc1 ρ1 x).1 := by
      intro k x e1
      obtain ⟨cs, l, h2, h3⟩ := o.at_ x (List.mem_of_getElem? e1)
      have h4 := cells_at h2 (p2.hb x.1 trivial) (c := l.1) (sh := l.2) h3
      have h5 : (loc1 ρ1 x).1 = l.1 := by simp only [loc1, h3]
      have h6 := cellsAt_eq h2
      rw [h5]
      exact ⟨Nat.le_of_not_lt h4.2.2, h4.2.1, cs, l, h6.1, by rw [h6.2]; exact h3, rfl⟩
    have newAt : ∀ (i : Nat) (cs : List GV), (h ++ bl)[i]? = some cs → h.length ≤ i → ∃ (k : Nat) (x : Nat × Nat × Nat), i = h.length + k ∧ vis[k]? = some x ∧ bl[k]? = some cs := by
      intro i cs e hi
      rw [List.getElem?_append_right hi] at e
      have hk := (List.getElem?_eq_some_iff.1 e).1
      refine ⟨i - h.length, vis[i - h.length]'(by rw [o.len]; exact hk), by omega, List.getElem?_eq_getElem _, e⟩
    have atNew : ∀ i c, h.length ≤ i → At ρ' (h ++ bl) i c → ∃ (k : Nat) (x : Nat × Nat × Nat), i = h.length + k ∧ vis[k]? = some x ∧ c = (loc1 ρ1 x).1 ∧ c < w'.heap.size := by
      intro i c hi ⟨cs, loc, e1, e2, e3⟩
      obtain ⟨k, x, rfl, e4, e5⟩ := newAt i cs e1 hi
      rw [hin k x cs _ e4 e5, if_pos rfl] at e2
      cases e2
      exact ⟨k, x, rfl, e4, e3.symm, by rw [← e3]; exact BR_lt (bb k x cs e4 e5)⟩
    refine ⟨ρ', Pp1, t, ?_⟩
    refine ⟨st.os, st.tape, st.output, st.size, ⟨st.keep.rsz, fun i n loc hi => ?_, st.keep.pp⟩, fun c hc _ => st.kept c hc (fun i _ => hatn i c), st.ppnew, fun i n hi => hout i n ?_, by simp, fun i hi _ => by rw [List.getElem?_append_left hi], fun i hi => ?_, fun i c hi ha => ?_, fun i j c hi hj hne ha hb' => ?_⟩
    · by_cases hr : h.length ≤ i ∧ i < h.length + bl.length
      · rw [p.nw i n hr.1 (by simpa using hr.2)] at hi
        cases hi
      · rw [hout i n hr]; exact hi
    · simp only [List.length_append] at hi
      rcases hi with hi | hi <;> omega
    · rcases hi with hi | hi
      · exact absurd hi (by simp)
      · intro cs hcs
        obtain ⟨k, x, rfl, e1, e2⟩ := newAt i cs hcs hi.1
        refine ⟨⟨loc1 ρ1 x, by rw [hin k x cs _ e1 e2, if_pos rfl], bb k x cs e1 e2, (far k x e1).2.1, fun hp => ?_⟩, fun m hm => by rw [hin k x cs _ e1 e2, if_neg (by omega)]⟩
        have := p.lt _ (.inr hp)
        have := (far k x e1).1
        omega
    · rcases hi with hi | hi
      · exact absurd hi (by simp)
      · obtain ⟨k, x, rfl, e1, rfl, e3⟩ := atNew i c hi.1 ha
        exact .inl ⟨(far k x e1).1, e3⟩
    · have hi' := (hi.resolve_right (by simp)).1
      have hj' := (hj.resolve_right (by simp)).1
      obtain ⟨k, x, rfl, e1, e2, e3⟩ := atNew i c hi' ha
      obtain ⟨l, y, rfl, f1, f2, f3⟩ := atNew j c hj' hb'
      have hxy : x.1 ≠ y.1 := by
        have g1 : (vis.map (·.1))[k]? = some x.1 := by simp [e1]
        have g2 : (vis.map (·.1))[l]? = some y.1 := by simp [f1]
        rcases Nat.lt_or_gt_of_ne (show k ≠ l by omega) with hkl | hkl
        · exact nodupB_ne hnd hkl g1 g2
        · exact fun e => nodupB_ne hnd hkl g2 g1 e.symm
      exact absurd (f2 ▸ (far l y f1).2.2) (p2.inj x.1 y.1 c trivial trivial hxy (e2 ▸ (far k x e1).2.2))
  | _ => exact he.elim

theorem gcallee_sound (hC : CSound P call) (hX : XSound P C) {g : FuncId} {args : List GV} {v : GV} {h' : Heap} {lg : Lg} {us : List Value} (e : gcallee P C call g args h = some (v, h', lg)) (hv : VRs w ρ Pp args Pt us)
    (p : Pre Pt w ρ Pp h F h'.length) (hF : ∀ i, i ∈ lg.r ∨ i ∈ lg.w → F i) :
    (∃ fn, P.funcs[g]? = some fn ∧ fn.body.isSome = true) ∧ Calls P g us.toArray w fun | .returned u, w' => After Pt w ρ Pp h lg h' v u w' | _, _ => False := by
  unfold gcallee at e
  split at e
  · cases e
  · rename_i fn hfn
    split at e
    · rename_i hbody
      refine ⟨⟨fn, hfn, hbody⟩, ?_⟩
      split at e
      · rename_i ex hex
        simp only [Option.bind_eq_bind, obsi, Option.some.injEq, Prod.mk.injEq] at e
        obtain ⟨xs, hxs, v', hv', rfl, rfl, rfl⟩ := e
        have hlent : VRs w E0 Pp (xs.map (·.1)) (fun c => c < w.heap.size) us := VRs_mapM_of hxs hv fun g x u hg hx hi hu =>
          bor_sound p.lt 9 g x.1 x.2 u hx hu (fun i hi' => p.hb i (hF i (.inl (hi i hi'))))
        refine Calls.mono (hX g ex _ v' us w Pp _ hex hv' hlent (fun c hc => hc.elim (fun h => p.lt c (.inl h)) id) p.gl) fun en w' he => ?_
        cases en with
        | returned u =>
          obtain ⟨h1, h2⟩ := he
          refine ⟨ρ, fun c => Pp c ∨ (w.heap.size ≤ c ∧ c < w'.heap.size), VR_mono (w := w') ((⟨fun _ _ h => h, fun _ _ _ h => by simp [E0] at h, fun _ h => .inr h⟩ : Keep w' E0 (fun c => w.heap.size ≤ c ∧ c < w'.heap.size) w' ρ (fun c => Pp c ∨ (w.heap.size ≤ c ∧ c < w'.heap.size)))) _ _ _ _ (fun _ h => h.elim) (fun _ _ => rfl) h1, ?_⟩
          refine ⟨h2.os, h2.tape, h2.output, h2.size, ⟨fun c R hc => ?_, fun _ _ _ h => h, fun _ h => .inl h⟩, fun c hc _ => h2.block c hc, fun _ h => h, fun _ _ _ => rfl, Nat.le_refl _, fun _ _ _ => rfl, fun i hi => ?_, fun i c hi => ?_, fun i j c hi => ?_⟩
          · have hlt : c < w.heap.size := by
              unfold rsz at hc
              split at hc
              · rename_i he; exact (Array.getElem?_eq_some_iff.1 he).1
              · cases hc
            unfold rsz at hc ⊢
            rw [h2.block c hlt]
            exact hc
          · rcases hi with hi | hi
            · exact absurd hi (by simp)
            · omega
          · rcases hi with hi | hi
            · exact absurd hi (by simp)
            · omega
          · rcases hi with hi | hi
            · omega
            · exact absurd hi (by simp)
        | _ => exact he.elim
      · split at e
        · split at e
          · rename_i hsp
            split at e
            · rename_i hgs
              simp only [Option.some.injEq, Prod.mk.injEq] at e
              obtain ⟨rfl, rfl, rfl⟩ := e
              simp only [Bool.and_eq_true] at hsp
              exact split_sound hC [] hgs hsp.2 hv p.lt p.gl
            · cases e
          · exact hC g args h v h' lg us w ρ Pp Pt F e hv p hF
        · split at e
          · simp only [Option.bind_eq_bind, obsi] at e
            obtain ⟨xs, hxs, e⟩ := e
            split at e
            · rename_i hsp
              split at e
              · rename_i hgs
                simp only [Option.some.injEq, Prod.mk.injEq] at e
                obtain ⟨rfl, rfl, rfl⟩ := e
                simp only [Bool.and_eq_true] at hsp
                have hlent : VRs w E0 Pp (xs.map (·.1)) (fun c => c < w.heap.size) us := VRs_mapM_of hxs hv fun g x u hg hx hi hu =>
                  bor_sound p.lt 9 g x.1 x.2 u hx hu (fun i hi' => p.hb i (hF i (.inl (hi i hi'))))
                exact split_sound hC _ hgs hsp.2 hlent p.lt p.gl
              · cases e
            simp only [obsi] at e
            obtain ⟨⟨v1, h1, lg1⟩, hcall, ⟨v2, vis, bl⟩, hown, e⟩ := e
            split at e
            · rename_i hnd
              simp only [Option.some.injEq, Prod.mk.injEq] at e
              obtain ⟨rfl, rfl, rfl⟩ := e
              exact fresh_sound hC hxs hcall hown hnd hv p (fun i hi => hF i (.inl hi))
            · cases e
          simp only [Option.bind_eq_bind, obsi] at e
          obtain ⟨xs, hxs, ⟨v1, h1, lg1⟩, hcall, ⟨v2, r2⟩, hfrz, e⟩ := e
          simp only [Option.some.injEq, Prod.mk.injEq] at e
          obtain ⟨rfl, rfl, rfl⟩ := e
          have hlent : VRs w E0 Pp (xs.map (·.1)) (fun c => c < w.heap.size) us := VRs_mapM_of hxs hv fun g x u hg hx hi hu =>
            bor_sound p.lt 9 g x.1 x.2 u hx hu (fun i hi' => p.hb i (hF i (.inl (hi i hi'))))
          have hbn : ∀ i, HB w E0 Pp (fun c => c < w.heap.size) [] i := fun i cs hcs => by simp at hcs
          have hatn : ∀ i c, ¬ At E0 [] i c := fun i c ha => by
            obtain ⟨cs, loc, h1, _⟩ := ha
            simp at h1
          have p1 : Pre (fun c => c < w.heap.size) w E0 Pp [] (fun _ => True) h1.length :=
            ⟨fun c hc => hc.elim (fun h => p.lt c (.inl h)) id, fun i _ => hbn i, fun i j c _ _ _ ha => absurd ha (hatn i c), fun _ _ _ _ => rfl, p.gl⟩
          refine Calls.mono (hC g _ [] v1 h1 lg1 us w E0 Pp _ _ hcall hlent p1 (fun _ _ => trivial)) fun en w' he => ?_
          cases en with
          | returned u =>
            obtain ⟨ρ', Pp', hu, st⟩ := he
            have p2 := st.after p1 (fun _ _ => trivial)
            have hnew : ∀ i c, At ρ' h1 i c → w.heap.size ≤ c := fun i c ha => by
              rcases st.fresh i c (.inr ⟨by simp, ha.bound⟩) ha with h | h
              · exact h.1
              · exact absurd h (hatn i c)
            have hz := frz_sound (B := w.heap.size) (fun i => p2.hb i trivial) hnew 9 v1 v2 r2 u (fun _ => False) hfrz hu
            have hpp : ∀ c, (Pp' c ∨ (w.heap.size ≤ c ∧ c < w'.heap.size)) → Pp c ∨ (w.heap.size ≤ c ∧ c < w'.heap.size) := fun c hc => hc.elim (fun h => st.ppnew c h) .inr
            refine ⟨ρ, fun c => Pp' c ∨ (w.heap.size ≤ c ∧ c < w'.heap.size), ?_, ?_⟩
            · exact VR_mono (w := w') ((Keep.refl w' ρ _).e0 ρ) _ _ _ _ (fun _ h => h.elim) (fun _ _ => rfl) hz
            · refine ⟨st.os, st.tape, st.output, st.size, ⟨st.keep.rsz, fun _ _ _ h => h, fun c hc => .inl (st.keep.pp c hc)⟩, fun c hc _ => st.kept c hc (fun i _ => hatn i c), hpp, fun _ _ _ => rfl, Nat.le_refl _, fun _ _ _ => rfl, fun i hi => ?_, fun i c hi => ?_, fun i j c hi => ?_⟩
              · rcases hi with hi | hi
                · exact absurd hi (by simp)
                · omega
              · rcases hi with hi | hi
                · exact absurd hi (by simp)
                · omega
              · rcases hi with hi | hi
                · omega
                · exact absurd hi (by simp)
          | _ => exact he.elim
    · cases e

theorem op_call (hN : NameOk P) (hC : CSound P call) (hX : XSound P C) {c : Call} {f : Operand} {v : GV} {h' : Heap} {lg : Lg} (ho : o.op = .call c) (hc : c.callee = .value f) (hf : EV w ρ Pp Pt σ a f) (hx : ∀ x, x ∈ c.args.toList → EV w ρ Pp Pt σ a x)
    (e : gop P C call (eval σ) o h = some (v, h', lg)) (p : Pre Pt w ρ Pp h F h'.length) (hF : ∀ i, i ∈ lg.r ∨ i ∈ lg.w → F i) : OpTo P o a w (After Pt w ρ Pp h lg h' v) := by
  simp only [gop, ho, hc, Option.bind_eq_bind, obsi] at e
  obtain ⟨g0, hg0, e⟩ := e
  split at e
  · rename_i g caps
    simp only [obsi] at e
    obtain ⟨args, hargs, e⟩ := e
    obtain ⟨us, hfv, hcaps⟩ := hf _ hg0
    have hv := VRs_append (VRs_mapM hargs hx) hcaps
    obtain ⟨⟨fn, hfn, hbody⟩, hcalls⟩ := gcallee_sound hC hX e hv p hF
    have he : (execOp a.eval o).run P w = .ok (.enter g (c.args.toList.map a.eval ++ us.toList).toArray) w := by
      have hnb : fn.body.isNone = false := by
        cases hb : fn.body with
        | none => rw [hb] at hbody; cases hbody
        | some _ => rfl
      have hargs2 : ((#[] : Array Value) ++ c.args.map a.eval) ++ us = (c.args.toList.map a.eval ++ us.toList).toArray := by
        apply Array.toList_inj.1
        simp
      simp only [execOp, ho, resolve, hc, hfv, Deferred.ofValue, pure_bind, invoke, callFunc, Sem.run_bind, run_program, Result.andThen_ok, hfn, hN g fn hfn, hnb, Bool.false_eq_true, if_false, Sem.run_pure]
      rw [hargs2]
    intro K Q hk
    unfold Oper.wp
    rw [he]
    refine Calls.mono hcalls fun en w' hen => ?_
    cases en with
    | returned u => exact hk u w' hen
    | _ => exact hen.elim
  · cases e
end

end Go.Proofs.Ytlbnioapepelnaa.G

namespace Go.Proofs.Ytlbnioapepelnaa.G
open Go.RowKit

section
variable {P : Program} {Pt Pp : Nat → Prop} {w : World} {ρ : Map} {h : Heap} {a : Act} {o : Oper} {σ : GS} {C : Cfg} {call : GCall} {F : Nat → Prop} {N : Nat}

theorem op_sound (hN : NameOk P) (hC : CSound P call) (hX : XSound P C) {v : GV} {h' : Heap} {lg : Lg} (e : gop P C call (eval σ) o h = some (v, h', lg)) (hev : ∀ x, x ∈ o.op.operands.toList → EV w ρ Pp Pt σ a x)
    (p : Pre Pt w ρ Pp h F h'.length) (hF : ∀ i, i ∈ lg.r ∨ i ∈ lg.w → F i) : OpTo P o a w (After Pt w ρ Pp h lg h' v) := by
  cases ho : o.op with
  | move x => exact op_move ho (hev x (by simp [ho, Op.operands])) e
  | assign x => exact op_assign ho (hev x (by simp [ho, Op.operands])) e
  | pick c x y => exact op_pick ho (hev c (by simp [ho, Op.operands])) (hev x (by simp [ho, Op.operands])) (hev y (by simp [ho, Op.operands])) e
  | alloc t => exact op_alloc ho e p
  | box t x => exact op_box ho (hev x (by simp [ho, Op.operands])) e p
  | build t ps => exact op_build ho (fun q hq => hev q.2 (by simp only [ho, Op.operands]; simp only [List.mem_map]; exact ⟨q, hq, rfl⟩)) e
  | buildSlice t n ps => exact op_buildSlice ho (fun q hq => hev q.2 (by simp only [ho, Op.operands]; simp only [List.mem_map]; exact ⟨q, hq, rfl⟩)) e p
  | load t x => exact op_load ho (hev x (by simp [ho, Op.operands])) e (fun i hi => p.hb i (hF i (.inl hi)))
  | store t x y => exact op_store ho (hev x (by simp [ho, Op.operands])) (hev y (by simp [ho, Op.operands])) e p (fun i hi => hF i (.inr hi))
  | nilCheck x => exact op_nilCheck ho (hev x (by simp [ho, Op.operands])) e
  | binOp b t x y t' => exact op_binOp ho (hev x (by simp [ho, Op.operands])) (hev y (by simp [ho, Op.operands])) e
  | unOp b t x => exact op_unOp ho (hev x (by simp [ho, Op.operands])) e
  | convert s d x => exact op_convert ho (hev x (by simp [ho, Op.operands])) e p (fun i hi => hF i (.inl hi))
  | makeInterface t x => exact op_makeInterface ho e
  | makeFunc f first caps =>
    cases f with
    | func f => exact op_makeFunc ho (fun x hx => hev x (by simp only [ho, Op.operands]; simp; exact .inr (by simpa using hx))) e
    | _ => simp only [gop, ho] at e; cases e
  | makeSlice t x y => exact op_makeSlice ho (hev x (by simp [ho, Op.operands])) (hev y (by simp [ho, Op.operands])) e p
  | slice t x lo hi mx =>
    exact op_slice ho (hev x (by simp [ho, Op.operands])) (fun y hy => hev y (by subst hy; simp [ho, Op.operands])) (fun y hy => hev y (by subst hy; simp [ho, Op.operands])) (fun y hy => hev y (by subst hy; simp [ho, Op.operands])) e
  | fieldAddr t x f => exact op_fieldAddr ho (hev x (by simp [ho, Op.operands])) e
  | field t x f => exact op_field ho (hev x (by simp [ho, Op.operands])) e
  | indexAddr t x y => exact op_indexAddr ho (hev x (by simp [ho, Op.operands])) (hev y (by simp [ho, Op.operands])) e
  | index t x y => exact op_index ho (hev x (by simp [ho, Op.operands])) (hev y (by simp [ho, Op.operands])) e
  | extract x i => exact op_extract ho (hev x (by simp [ho, Op.operands])) e
  | call c =>
    have hargs : ∀ x, x ∈ c.args.toList → EV w ρ Pp Pt σ a x := fun x hx => hev x (by
      simp only [ho, Op.operands, Call.operands]
      cases c.callee <;> simp_all)
    cases hc : c.callee with
    | builtin b =>
      by_cases hb : b = .append ∨ b = .copy ∨ b = .clear
      · exact op_append ho hc hb hargs e p hF
      · refine op_quiet ho hc ?_ hargs e
        cases b <;> first
          | (simp at hb; done)
          | (simp; done)
          | (simp only [gop, ho, hc, Option.bind_eq_bind, obsi, gbuiltin] at e
             obtain ⟨_, _, e⟩ := e
             cases e)
    | value f =>
      refine op_call hN hC hX ho hc (hev f ?_) hargs e p hF
      simp [ho, Op.operands, Call.operands, hc]
    | invoke r m => simp only [gop, ho, hc] at e; cases e
  | _ => simp only [gop, ho] at e; cases e
end

end Go.Proofs.Ytlbnioapepelnaa.G
