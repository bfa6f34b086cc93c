/- The machine beside the model's own, and what it leaves as it is: parts 13 to 19. -/
import Derived.Test.YtklhdbkaejbajaaDoorG12
namespace Go.Proofs.YtklhdbkaejbajaaDoor.G
open Go.RowKit
set_option linter.unusedVariables false
set_option linter.unusedSimpArgs false

section
variable {P : Program} {Pt Pp : Nat → Prop} {w : World} {ρ : Map} {h : Heap} {a : Act} {o : Oper} {σ : GS} {C : Cfg} {call : GCall} {F : Nat → Prop} {N : Nat}

theorem gcopy_run {t : TypeId} {d x v : GV} {ud ux : Value} {h' : Heap} {lg : Lg} (e : gcopy P h t d x = some (v, h', lg)) (hd : VR w ρ Pp d Pt ud) (hx : VR w ρ Pp x Pt ux) (p : Pre Pt w ρ Pp h F N) (hF : ∀ i, i ∈ lg.r ∨ i ∈ lg.w → F i) (ty : TypeId)
    (ts : Array TypeId) (ht : ts[0]? = some t) : ∃ u w', (Builtin.copy_ ts ty #[ud, ux]).run P w = .ok u w' ∧ After Pt w ρ Pp h lg h' v u w' := by
  unfold gcopy at e
  simp only [Option.bind_eq_bind, Option.bind_eq_some_iff] at e
  obtain ⟨dd, hu, e⟩ := e
  split at e
  · rename_i et
    simp only [Option.bind_eq_some_iff] at e
    obtain ⟨es, hes, ⟨n, new, r⟩, hc, e⟩ := e
    split at e
    · rename_i hcell
      dsimp only at hcell e
      split at e
      · simp only [Option.some.injEq, Prod.mk.injEq] at e
        obtain ⟨rfl, rfl, rfl⟩ := e
        simp only [VR, VRi] at hd
        subst hd
        obtain ⟨q1, us, q2, q3⟩ := firstCells_run (P := P) (m := 0) hc hx (fun i hi => p.hb i (hF i (.inl hi))) (by omega)
        refine ⟨.int .i64 0, w, ?_, ρ, Pp, rfl, Step.none ..⟩
        simp [Builtin.copy_, ht, run_underlying hu, q1, run_sizeOf hes, q2, goInt]
      · simp only [Option.some.injEq, Prod.mk.injEq] at e
        obtain ⟨rfl, rfl, rfl⟩ := e
        rcases hd with rfl | ⟨A, rfl⟩
        · obtain ⟨q1, us, q2, q3⟩ := firstCells_run (P := P) (m := 0) hc hx (fun i hi => p.hb i (hF i (.inl hi))) (by omega)
          refine ⟨.int .i64 0, w, ?_, ρ, Pp, rfl, Step.none ..⟩
          simp [Builtin.copy_, ht, run_underlying hu, q1, run_sizeOf hes, q2, goInt]
        obtain ⟨q1, us, q2, q3⟩ := firstCells_run (P := P) (m := 0) hc hx (fun i hi => p.hb i (hF i (.inl hi))) (by omega)
        have : us = [] := by
          have := VRs_len q3
          simpa using this
        subst this
        refine ⟨.int .i64 0, w, ?_, ρ, Pp, rfl, Step.none ..⟩
        simp [Builtin.copy_, ht, run_underlying hu, q1, run_sizeOf hes, q2, goInt, storeCells]
      · rename_i i off len cap es'
        simp only [Option.bind_eq_some_iff] at e
        obtain ⟨cs, hcs, e⟩ := e
        split at e
        · rename_i hle
          obtain ⟨rfl, hle⟩ := hle
          simp only [Option.some.injEq, Prod.mk.injEq] at e
          obtain ⟨rfl, rfl, rfl⟩ := e
          obtain ⟨c, sh, A, cap', h6, rfl, h8, h9, h10⟩ := hd
          obtain ⟨q1, us, q2, q3⟩ := firstCells_run (P := P) (m := min n len) hc hx (fun i hi => p.hb i (hF i (.inl hi))) (by omega)
          have hFi : F i := hF i (.inr (by simp))
          have hcl := (cellsAt_eq hcs).2
          have hci := (cellsAt_eq hcs).1
          have run : ∀ w', (storeCells A us).run P w = .ok () w' → (Builtin.copy_ ts ty #[.slice (some A) len cap', ux]).run P w = .ok (.int .i64 (min n len : Nat)) w' := by
            intro w' hw
            have q2' : (Builtin.firstCells es' (n.min len) ux).run P w = .ok us.toArray w := q2
            simp only [Builtin.copy_, ht]
            simp [run_underlying hu, q1, run_sizeOf hes, q2', hw, goInt]
          have hul := VRs_len q3
          have hnl : new.length = n * es' := by
            rcases gcells_run hc hx (fun i hi => p.hb i (hF i (.inl hi))) with ⟨_, rfl, rfl, _⟩ | ⟨_, _, _, _, _, _, q, _⟩ | ⟨s, _, _, rfl, rfl, rfl⟩
            · simp
            · exact q
            · rw [List.length_map, ByteArray.toList_eq]; simp
          have hmul1 : min n len * es' ≤ n * es' := Nat.mul_le_mul_right _ (by omega)
          have hmul2 : min n len * es' ≤ cap * es' := Nat.mul_le_mul_right _ (by omega)
          have htl : (new.take (min n len * es')).length = min n len * es' := by simp; omega
          by_cases hemp : us = []
          · subst hemp
            have hz : new.take (min n len * es') = [] := by
              apply List.eq_nil_of_length_eq_zero
              rw [← hul]; rfl
            refine ⟨_, w, run w rfl, ρ, Pp, by simp [VR, VRi], ?_⟩
            rw [hz]
            have e1 : splice cs off [] = cs := by simp [splice]
            rw [e1]
            have e2 : h.set i cs = h := by
              apply List.ext_getElem?
              intro k
              by_cases hk : k = i
              · subst hk
                rw [hci, List.getElem?_set]
                simp [(List.getElem?_eq_some_iff.1 hci).1]
              · rw [List.getElem?_set_ne (Ne.symm hk)]
            rw [e2]
            exact step_self p hFi hci (by rw [hcl]; exact h6) _
          · have hcap : cap' ≠ 0 := by
              intro h0
              apply hemp
              apply List.eq_nil_of_length_eq_zero
              rw [hul, htl, show len = 0 by omega]
              simp
            obtain ⟨rfl, _⟩ := h10.resolve_left hcap
            obtain ⟨w', q4, q5⟩ := store_step (P := P) p (off := off) r hFi hcs h6 (by omega) q3 (List.all_eq_true.2 fun g hg => List.all_eq_true.1 hcell g (List.mem_of_mem_take hg))
            exact ⟨_, w', run w' q4, _, Pp, by simp [VR, VRi], q5⟩
        · cases e
      · cases e
    · cases e
  · cases e

theorem zeros_cell {z : List GV} (h : z.all GV.isCell = true) : ∀ n, (zeros z n).all GV.isCell = true
  | 0 => rfl
  | n + 1 => by rw [zeros, List.all_append, h, zeros_cell h n]; rfl

theorem gclear_run {t : TypeId} {d v : GV} {ud : Value} {h' : Heap} {lg : Lg} (e : gclear P h t d = some (v, h', lg)) (hd : VR w ρ Pp d Pt ud) (p : Pre Pt w ρ Pp h F N) (hF : ∀ i, i ∈ lg.r ∨ i ∈ lg.w → F i) (ty : TypeId)
    (ts : Array TypeId) (ht : ts[0]? = some t) : ∃ u w', (Builtin.clear_ ts ty #[ud]).run P w = .ok u w' ∧ After Pt w ρ Pp h lg h' v u w' := by
  unfold gclear at e
  simp only [Option.bind_eq_bind, Option.bind_eq_some_iff] at e
  obtain ⟨dd, hu, e⟩ := e
  have e0 : (#[ud] : Array Value)[0]? = some ud := rfl
  split at e
  · rename_i et
    simp only [Option.bind_eq_some_iff] at e
    obtain ⟨z, hz, e⟩ := e
    have skip : ∀ b c, ud = .slice b 0 c → (Builtin.clear_ ts ty #[ud]).run P w = .ok undef w := by
      rintro b c rfl
      unfold Builtin.clear_
      simp only [ht, e0]
      cases b <;> simp [run_underlying hu] <;> rfl
    split at e
    · simp only [Option.some.injEq, Prod.mk.injEq] at e
      obtain ⟨rfl, rfl, rfl⟩ := e
      simp only [VR, VRi] at hd
      exact ⟨_, w, skip _ _ hd, ρ, Pp, rfl, Step.none ..⟩
    · simp only [Option.some.injEq, Prod.mk.injEq] at e
      obtain ⟨rfl, rfl, rfl⟩ := e
      rcases hd with rfl | ⟨A, rfl⟩
      · exact ⟨_, w, skip _ _ rfl, ρ, Pp, rfl, Step.none ..⟩
      · exact ⟨_, w, skip _ _ rfl, ρ, Pp, rfl, Step.none ..⟩
    · rename_i i off len cap es
      simp only [Option.bind_eq_some_iff] at e
      obtain ⟨cs, hcs, e⟩ := e
      split at e
      · rename_i hc
        obtain ⟨hzl, hle, hcell⟩ := hc
        simp only [Option.some.injEq, Prod.mk.injEq] at e
        obtain ⟨rfl, rfl, rfl⟩ := e
        obtain ⟨c, sh, A, cap', h6, rfl, h8, h9, h10⟩ := hd
        have hFi : F i := hF i (.inr (by simp))
        have hcl := (cellsAt_eq hcs).2
        have hci := (cellsAt_eq hcs).1
        by_cases hl0 : len = 0
        · subst hl0
          refine ⟨_, w, skip _ _ rfl, ρ, Pp, rfl, ?_⟩
          have e1 : splice cs off (zeros z 0) = cs := by simp [splice, zeros]
          rw [e1]
          have e2 : h.set i cs = h := by
            apply List.ext_getElem?
            intro k
            by_cases hk : k = i
            · subst hk
              rw [hci, List.getElem?_set]
              simp [(List.getElem?_eq_some_iff.1 hci).1]
            · rw [List.getElem?_set_ne (Ne.symm hk)]
          rw [e2]
          exact step_self p hFi hci (by rw [hcl]; exact h6) _
        · obtain ⟨rfl, _⟩ := h10.resolve_left (by omega)
          obtain ⟨zv, hz1, hz2⟩ := gzero_run hz
          have hv := VRs_zeros (n := len) (hz2 w ρ Pp Pt)
          have hzs := VRs_len (hz2 w ρ Pp Pt)
          simp only [Array.length_toList] at hzs
          have ez : (Array.range (len * z.length)).map (zv.cells[· % zv.cells.size]!) = Builtin.zeroCells zv.cells len := by
            unfold Builtin.zeroCells
            rw [hzs]
          rw [ez] at hv
          have hmul : len * es ≤ cap * es := Nat.mul_le_mul_right _ hle
          obtain ⟨w', q4, q5⟩ := store_step (P := P) p (off := off) [] hFi hcs h6 (by rw [zeros_len, hzl, hcl]; omega) hv (zeros_cell hcell len)
          refine ⟨undef, w', ?_, _, Pp, rfl, q5⟩
          unfold Builtin.clear_
          obtain ⟨n, rfl⟩ : ∃ n, len = n + 1 := ⟨len - 1, by omega⟩
          simp only [ht, e0]
          simp [run_underlying hu, hz1, q4]
          rfl
      · cases e
    · cases e
  · cases e

theorem grow_le (need old : Nat) (h : need > old) : Builtin.nextslicecap need old ≤ 2 * need := by
  unfold Builtin.nextslicecap
  split
  · omega
  · split
    · omega
    · have key : ∀ (k c : Nat), c ≤ 2 * need → Builtin.growBy need k c ≤ 2 * need ∨ False := by
        intro k
        induction k with
        | zero => intro c hc; exact .inl (by simpa [Builtin.growBy] using hc)
        | succ k ih =>
          intro c hc
          unfold Builtin.growBy
          split
          · exact .inl hc
          · exact ih _ (by omega)
      exact (key 4 old (by omega)).elim id False.elim

section
variable {t t' et : TypeId} {info : TypeInfo} {ts : Array TypeId} {dx : TypeDesc} {ux : Value} {n : Nat} {zv : Value}

theorem append_in (ht : ts[0]? = some t) (ht' : ts[1]? = some t') (hu : P.underlying t = some (.slice et)) (hdx : P.underlying t' = some dx) (hnd : ∀ k, dx ≠ .int k) (hi : P.info? et = some info)
    (ty : TypeId) {A : Addr} {sLen sCap : Nat} {us : List Value} {w' : World} (hl : (Builtin.lenOf ux).run P w = .ok n w) (hf : (Builtin.firstCells info.size n ux).run P w = .ok us.toArray w) (hfit : sLen + n ≤ sCap)
    (hst : (storeCells (A.add (sLen * info.size)) us).run P w = .ok () w') : (Builtin.append_ ts ty #[.slice (some A) sLen sCap, ux]).run P w = .ok (.slice (some A) (sLen + n) sCap) w' := by
  have hsz : (sizeOf et).run P w = .ok info.size w := by simp [sizeOf, run_typeInfo hi]
  unfold Builtin.append_
  have e0 : (#[Value.slice (some A) sLen sCap, ux] : Array Value)[0]? = some (.slice (some A) sLen sCap) := rfl
  have e1 : (#[Value.slice (some A) sLen sCap, ux] : Array Value)[1]? = some ux := rfl
  simp only [ht, ht', e0, e1]
  simp only [Sem.run_bind, run_underlying hu, run_underlying hdx, Result.andThen_ok, hsz]
  cases dx
  case int k => exact absurd rfl (hnd k)
  all_goals
    simp only [Sem.run_pure, Result.andThen_ok, Sem.run_bind, Bool.false_eq_true, if_false, hl, false_or]
    rw [if_pos hfit]
    simp only [Bool.not_false, if_true, Sem.run_bind, hf, Result.andThen_ok, hst, Sem.run_pure]

theorem append_nil (ht : ts[0]? = some t) (ht' : ts[1]? = some t') (hu : P.underlying t = some (.slice et)) (hdx : P.underlying t' = some dx) (hnd : ∀ k, dx ≠ .int k) (hi : P.info? et = some info)
    (ty : TypeId) {us : List Value} (hl : (Builtin.lenOf ux).run P w = .ok 0 w) (hf : (Builtin.firstCells info.size 0 ux).run P w = .ok us.toArray w) : (Builtin.append_ ts ty #[.slice none 0 0, ux]).run P w = .ok (.slice none 0 0) w := by
  have hsz : (sizeOf et).run P w = .ok info.size w := by simp [sizeOf, run_typeInfo hi]
  unfold Builtin.append_
  have e0 : (#[Value.slice none 0 0, ux] : Array Value)[0]? = some (.slice none 0 0) := rfl
  have e1 : (#[Value.slice none 0 0, ux] : Array Value)[1]? = some ux := rfl
  simp only [ht, ht', e0, e1]
  simp only [Sem.run_bind, run_underlying hu, run_underlying hdx, Result.andThen_ok, hsz]
  cases dx
  case int k => exact absurd rfl (hnd k)
  all_goals
    simp only [Sem.run_pure, Result.andThen_ok, Sem.run_bind, Bool.false_eq_true, if_false, hl, false_or]
    rw [if_pos (Nat.le_refl _)]
    simp only [Bool.not_false, if_true, Sem.run_bind, hf, Result.andThen_ok, Sem.run_pure]

theorem append_grow (ht : ts[0]? = some t) (ht' : ts[1]? = some t') (hu : P.underlying t = some (.slice et)) (hdx : P.underlying t' = some dx) (hnd : ∀ k, dx ≠ .int k) (hi : P.info? et = some info)
    (ty : TypeId) {base : Option Addr} {sLen sCap : Nat} {us old : List Value} (hz : ∀ w, (zeroValue et).run P w = .ok zv w) (hl : (Builtin.lenOf ux).run P w = .ok n w) (hf : (Builtin.firstCells info.size n ux).run P w.drew = .ok us.toArray w.drew)
    (ho : (Builtin.firstCells info.size sLen (.slice base sLen sCap)).run P w.drew = .ok old.toArray w.drew) (hfit : ¬ sLen + n ≤ sCap) (hm : sLen + n ≤ maxLen) (hr : (sLen + n) * info.bytes ≤ roomMax) :
    ∃ newCap, sLen + n ≤ newCap ∧ (Builtin.append_ ts ty #[.slice base sLen sCap, ux]).run P w = .ok (.slice (some ⟨w.heap.size, 0, none⟩) (sLen + n) newCap) (w.drew.alloc (.cells (old.toArray ++ us.toArray ++ Builtin.zeroCells zv.cells (newCap - (sLen + n))) et)) := by
  have hsz : ∀ w, (sizeOf et).run P w = .ok info.size w := fun w => by simp [sizeOf, run_typeInfo hi]
  let q : Question := .appendCap (sLen + n) sCap et
  refine ⟨q.cut (w.tape w.drawn q), Nat.le_add_right _ _, ?_⟩
  have hq : (choose q).run P w = .ok (q.cut (w.tape w.drawn q)) w.drew := by
    rw [run_choose]
    rfl
  have n1 : ¬ (((sLen + n : Nat) : Int) > IntKind.i64.max ∧ info.bytes = 0) := by
    rintro ⟨h1, _⟩
    have : ((sLen + n : Nat) : Int) > 9223372036854775807 := h1
    simp only [maxLen] at hm
    omega
  have n2 : ¬ (Builtin.nextslicecap (sLen + n) sCap * info.bytes > 2 ^ 48) := by
    have h1 := grow_le (sLen + n) sCap (by omega)
    have h2 : Builtin.nextslicecap (sLen + n) sCap * info.bytes ≤ 2 * (sLen + n) * info.bytes := Nat.mul_le_mul_right _ h1
    rw [Nat.mul_assoc] at h2
    simp only [roomMax] at hr
    omega
  unfold Builtin.append_
  have e0 : (#[Value.slice base sLen sCap, ux] : Array Value)[0]? = some (.slice base sLen sCap) := rfl
  have e1 : (#[Value.slice base sLen sCap, ux] : Array Value)[1]? = some ux := rfl
  simp only [ht, ht', e0, e1]
  simp only [Sem.run_bind, run_underlying hu, run_underlying hdx, Result.andThen_ok, hsz]
  cases dx
  case int k => exact absurd rfl (hnd k)
  all_goals
    simp only [Sem.run_pure, Result.andThen_ok, Sem.run_bind, Bool.false_eq_true, if_false, hl, false_or]
    rw [if_neg hfit]
    simp only [Sem.run_bind, run_typeInfo hi, Result.andThen_ok]
    rw [if_neg n1]
    simp only [Sem.run_bind, run_typeInfo hi, Result.andThen_ok]
    rw [if_neg n2]
    simp only [Sem.run_bind]
    rw [hq]
    simp only [Result.andThen_ok, Sem.run_bind, run_askRoom, run_typeInfo hi, ho, Sem.run_pure, Bool.not_false, if_true, hf, hz, newRow, run_newObj]
    rfl
end

theorem zeroCells_size (z : Array Value) (n : Nat) : (Builtin.zeroCells z n).size = n * z.size := by simp [Builtin.zeroCells]

theorem gcells_len {es n : Nat} {v : GV} {cs : List GV} {r : List Nat} {u : Value} (e : gcells h es v = some (n, cs, r)) (hv : VR w ρ Pp v Pt u) (hb : ∀ i, i ∈ r → HB w ρ Pp Pt h i) : cs.length = n * es := by
  rcases gcells_run e hv hb with ⟨_, rfl, rfl, _⟩ | ⟨_, _, _, _, _, _, q, _⟩ | ⟨s, _, _, rfl, rfl, rfl⟩
  · simp
  · exact q
  · rw [List.length_map, ByteArray.toList_eq]; simp

theorem gappz_run {t t' : TypeId} {s x v : GV} {us0 ux : Value} {h' : Heap} {lg : Lg} {ik : IntKind} (e : gappz P h t s x = some (v, h', lg)) (hs : VR w ρ Pp s Pt us0) (hx : VR w ρ Pp x Pt ux) (p : Pre Pt w ρ Pp h F h'.length) (ty : TypeId)
    (ts : Array TypeId) (ht : ts[0]? = some t) (ht' : ts[1]? = some t') (hdx : P.underlying t' = some (.int ik)) : ∃ u w', (Builtin.append_ ts ty #[us0, ux]).run P w = .ok u w' ∧ After Pt w ρ Pp h lg h' v u w' := by
  unfold gappz at e
  simp only [Option.bind_eq_bind, Option.bind_eq_some_iff] at e
  obtain ⟨dd, hu, e⟩ := e
  split at e
  · rename_i et
    simp only [Option.bind_eq_some_iff] at e
    obtain ⟨info, hi, z, hz, e⟩ := e
    split at e
    · rename_i l
      simp only [VR, VRi] at hs hx
      subst hs hx
      split at e
      · rename_i hg
        obtain ⟨c0, c1, c2, c3⟩ := hg
        obtain ⟨zv, hz1, hz2⟩ := gzero_run hz
        have hzl := VRs_len (hz2 w ρ Pp Pt)
        simp only [Array.length_toList] at hzl
        have wl : IntKind.i64.wrap l = l := op_makeSlice.wrap_small c0 c1
        have hsz : ∀ w, (sizeOf et).run P w = .ok info.size w := fun w => by simp [sizeOf, run_typeInfo hi]
        have n1 : ¬ (l < 0) := by omega
        have n2 : ¬ (l * info.bytes > 2 ^ 48) := by
          have e1 : ((l.toNat * info.bytes : Nat) : Int) = l * info.bytes := by
            push_cast; congr 1; omega
          rw [← e1]
          simp only [roomMax] at c2
          omega
        have e0 : (#[Value.slice none 0 0, Value.int .i64 l] : Array Value)[0]? = some (.slice none 0 0) := rfl
        have e1 : (#[Value.slice none 0 0, Value.int .i64 l] : Array Value)[1]? = some (.int .i64 l) := rfl
        split at e
        · rename_i hl0
          simp only [Option.some.injEq, Prod.mk.injEq] at e
          obtain ⟨rfl, rfl, rfl⟩ := e
          refine ⟨.slice none 0 0, w, ?_, ρ, Pp, rfl, Step.none ..⟩
          unfold Builtin.append_
          simp only [ht, ht', e0, e1]
          simp only [Sem.run_bind, run_underlying hu, run_underlying hdx, Result.andThen_ok, hsz]
          simp only [Sem.run_pure, Result.andThen_ok, Sem.run_bind, if_true, asInt, asIntOf, wl, n1, n2, if_false, run_typeInfo hi, hl0]
          simp [Sem.run_pure, Sem.run_bind]
        · rename_i hl0
          simp only [Option.some.injEq, Prod.mk.injEq] at e
          obtain ⟨rfl, rfl, rfl⟩ := e
          let q : Question := .appendCap (0 + l.toNat) 0 et
          have hq : (choose q).run P w = .ok (q.cut (w.tape w.drawn q)) w.drew := by
            rw [run_choose]
            rfl
          have hcap : l.toNat ≤ q.cut (w.tape w.drawn q) := by
            show l.toNat ≤ 0 + l.toNat + _
            omega
          have n3 : ¬ (0 + l.toNat ≤ 0) := by omega
          have n4 : ¬ ((((0 + l.toNat : Nat) : Int) > IntKind.i64.max) ∧ (true = true ∨ info.bytes = 0)) := by
            rintro ⟨h1, _⟩
            have : ((0 + l.toNat : Nat) : Int) > 9223372036854775807 := h1
            simp only [maxLen] at c1
            omega
          have n5 : ¬ (Builtin.nextslicecap (0 + l.toNat) 0 * info.bytes > 2 ^ 48) := by
            have : Builtin.nextslicecap (0 + l.toNat) 0 = l.toNat := by
              unfold Builtin.nextslicecap
              rw [if_pos (by omega)]; omega
            rw [this]
            simp only [roomMax] at c2
            omega
          let rc : Array Value := Builtin.zeroCells zv.cells l.toNat ++ Builtin.zeroCells zv.cells (q.cut (w.tape w.drawn q) - l.toNat)
          have hrs : rc.size = q.cut (w.tape w.drawn q) * info.size := by
            simp only [rc, Array.size_append, zeroCells_size, hzl, c3]
            rw [← Nat.add_mul]; congr 1; omega
          have hzc : ∀ n, Builtin.zeroCells zv.cells n = ((Array.range (n * z.length)).map (zv.cells[· % zv.cells.size]!)) := fun n => by
            simp [Builtin.zeroCells, hzl]
          refine ⟨.slice (some ⟨w.heap.size, 0, none⟩) l.toNat (q.cut (w.tape w.drawn q)), w.drew.alloc (.cells rc et), ?_, ρ.put h.length (zeros z l.toNat).length (w.heap.size, 0), Pp, ?_, ?_⟩
          · unfold Builtin.append_
            simp only [ht, ht', e0, e1]
            simp only [Sem.run_bind, run_underlying hu, run_underlying hdx, Result.andThen_ok, hsz]
            simp only [Sem.run_pure, Result.andThen_ok, Sem.run_bind, if_true, asInt, asIntOf, wl, n1, n2, if_false, run_typeInfo hi]
            rw [if_neg n3]
            simp only [Sem.run_bind, run_typeInfo hi, Result.andThen_ok, true_or, and_true] at n4 ⊢
            rw [if_neg n4]
            simp only [Sem.run_bind, run_typeInfo hi, Result.andThen_ok, Sem.run_pure]
            rw [if_neg n5]
            simp only [Sem.run_bind]
            rw [hq]
            simp only [Result.andThen_ok, Sem.run_bind, run_askRoom, run_typeInfo hi, Sem.run_pure, Builtin.firstCells, Bool.not_true, Bool.false_eq_true, if_false]
            by_cases hn0 : l.toNat * info.size = 0
            · rw [if_pos hn0]
              simp only [Sem.run_bind, Sem.run_pure, Result.andThen_ok, hz1, newRow, run_newObj]
              have : Builtin.zeroCells zv.cells l.toNat = #[] := by
                rw [hzc, c3, hn0]; simp
              simp only [rc, this, Nat.zero_add]
              rfl
            · rw [if_neg hn0]
              simp only [Sem.run_bind, Sem.run_pure, Result.andThen_ok, hz1, newRow, run_newObj, Nat.zero_add, rc]
              simp
              rfl
          · refine ⟨w.heap.size, 0, ⟨w.heap.size, 0, none⟩, q.cut (w.tape w.drawn q), ?_, rfl, Nat.le_refl _, hcap, .inr ⟨rfl, q.cut (w.tape w.drawn q) * info.size, ?_, by omega⟩⟩
            · rw [Nat.zero_add, ← c3, ← zeros_len]
              exact put_same
            · have := rsz_alloc w.drew rc et (0, 0)
              rw [hrs] at this
              exact this
          · refine Step.fresh_block (us := (Builtin.zeroCells zv.cells l.toNat).toList) p (by simp) [] rfl rfl rfl rfl ?_ (fun o _ => by omega) ?_ ?_
            · rw [hrs, zeros_len, c3]
              exact Nat.mul_le_mul_right _ hcap
            · simp only [rc, Array.toList_append]
              rw [List.take_append_of_le_length (by simp [zeros_len, zeroCells_size, hzl])]
              rw [List.take_of_length_le (by simp [zeros_len, zeroCells_size, hzl])]
            · rw [hzc]
              exact VRs_zeros (hz2 ..)
      · cases e
    · cases e
  · cases e

theorem gappend_run {t t' : TypeId} {s x v : GV} {us0 ux : Value} {h' : Heap} {lg : Lg} {dx : TypeDesc} (e : gappend P h t s x = some (v, h', lg)) (hs : VR w ρ Pp s Pt us0) (hx : VR w ρ Pp x Pt ux) (p : Pre Pt w ρ Pp h F h'.length) (hF : ∀ i, i ∈ lg.r ∨ i ∈ lg.w → F i) (ty : TypeId)
    (ts : Array TypeId) (ht : ts[0]? = some t) (ht' : ts[1]? = some t') (hdx : P.underlying t' = some dx) (hnd : ∀ k, dx ≠ .int k) : ∃ u w', (Builtin.append_ ts ty #[us0, ux]).run P w = .ok u w' ∧ After Pt w ρ Pp h lg h' v u w' := by
  unfold gappend at e
  simp only [Option.bind_eq_bind, Option.bind_eq_some_iff] at e
  obtain ⟨dd, hu, e⟩ := e
  split at e
  · rename_i et
    simp only [Option.bind_eq_some_iff] at e
    obtain ⟨info, hi, ⟨n, new, r⟩, hc, z, hz, e⟩ := e
    split at e
    · rename_i hg
      dsimp only at hg e
      obtain ⟨hcell, hzl, hnm, hroom⟩ := hg
      obtain ⟨zv, hz1, hz2⟩ := gzero_run hz
      have hzs : zv.cells.size = info.size := by
        have := VRs_len (hz2 w ρ Pp Pt)
        simp only [Array.length_toList] at this
        omega
      -- what is appended, before and after the draw
      have st := Step.drew Pt w ρ Pp h r (w.drawn + 1)
      have p1 := st.after p (fun i hi => by simp at hi)
      have hx1 := st.val p (fun i hi => by simp at hi) hx
      have fresh : ∀ (base : Option Addr), us0 = .slice base 0 0 → n ≠ 0 → (∀ i, i ∈ r → F i) → h'.length = h.length + 1 →
          ∃ u w', (Builtin.append_ ts ty #[us0, ux]).run P w = .ok u w' ∧ After Pt w ρ Pp h ⟨r, []⟩ (h ++ [new]) (.sl h.length 0 n n info.size) u w' := by
        intro base hb hn hr hlen
        subst hb
        have hl := gcells_len hc hx (fun i hi => p.hb i (hr i hi))
        obtain ⟨q1, us, _, _⟩ := firstCells_run (P := P) (m := n) hc hx (fun i hi => p.hb i (hr i hi)) (Nat.le_refl _)
        obtain ⟨_, us, q2, q3⟩ := firstCells_run (P := P) (m := n) hc hx1 (fun i hi => p1.hb i (hr i hi)) (Nat.le_refl _)
        obtain ⟨newCap, q4, q5⟩ := append_grow (P := P) (w := w) ht ht' hu hdx hnd hi ty (base := base) (sLen := 0) (sCap := 0) (old := []) hz1 q1 q2 (by cases base <;> simp [Builtin.firstCells, loadCells, loadCellsFrom]) (by omega) (by omega) (by simpa using hroom)
        have hul := VRs_len q3
        rw [List.take_of_length_le (by omega)] at q3 hul
        simp only [Nat.zero_add] at q4 q5
        have hsz : (#[] ++ us.toArray ++ Builtin.zeroCells zv.cells (newCap - n)).size = newCap * info.size := by
          simp only [Array.size_append, zeroCells_size, hzs]
          have : newCap * info.size = n * info.size + (newCap - n) * info.size := by rw [← Nat.add_mul]; congr 1; omega
          simp
          omega
        refine ⟨_, _, q5, ρ.put h.length new.length (w.heap.size, 0), Pp, ?_, ?_⟩
        · refine ⟨w.heap.size, 0, ⟨w.heap.size, 0, none⟩, newCap, ?_, rfl, Nat.le_refl _, q4, .inr ⟨rfl, newCap * info.size, ?_, by omega⟩⟩
          · rw [Nat.zero_add, ← hl]
            exact put_same
          · have := rsz_alloc w.drew (#[] ++ us.toArray ++ Builtin.zeroCells zv.cells (newCap - n)) et (0, 0)
            rw [hsz] at this
            exact this
        · refine Step.fresh_block (us := us) p (by omega) r rfl rfl rfl rfl ?_ (fun o _ => by omega) ?_ ?_
          · rw [hsz, hl]
            exact Nat.mul_le_mul_right _ q4
          · simp only [Array.toList_append]
            rw [← hul]
            simp
          · have q6 := st.keep
            exact VRs_mono (w := w.drew) (w' := w) (ρ' := ρ) (Pp' := Pp) ⟨fun _ _ h => h, fun _ _ _ h => h, fun _ h => h⟩ _ _ _ _ (fun _ h => .inl h) (fun _ _ => rfl) q3
      split at e
      · simp only [VR, VRi] at hs
        split at e
        · rename_i hn
          simp only [Option.some.injEq, Prod.mk.injEq] at e
          obtain ⟨rfl, rfl, rfl⟩ := e
          subst hn
          subst hs
          obtain ⟨q1, us, q2, q3⟩ := firstCells_run (P := P) (m := 0) hc hx (fun i hi => p.hb i (hF i (.inl hi))) (Nat.le_refl _)
          exact ⟨_, w, append_nil ht ht' hu hdx hnd hi ty q1 q2, ρ, Pp, rfl, Step.none ..⟩
        · rename_i hn
          simp only [Option.some.injEq, Prod.mk.injEq] at e
          obtain ⟨rfl, rfl, rfl⟩ := e
          exact fresh none hs hn (fun i hi => hF i (.inl hi)) (by simp)
      · split at e
        · rename_i hn
          simp only [Option.some.injEq, Prod.mk.injEq] at e
          obtain ⟨rfl, rfl, rfl⟩ := e
          subst hn
          rcases hs with hs | ⟨A, hs⟩
          · subst hs
            obtain ⟨q1, us, q2, q3⟩ := firstCells_run (P := P) (m := 0) hc hx (fun i hi => p.hb i (hF i (.inl hi))) (Nat.le_refl _)
            exact ⟨_, w, append_nil ht ht' hu hdx hnd hi ty q1 q2, ρ, Pp, .inl rfl, Step.none ..⟩
          subst hs
          obtain ⟨q1, us, q2, q3⟩ := firstCells_run (P := P) (m := 0) hc hx (fun i hi => p.hb i (hF i (.inl hi))) (Nat.le_refl _)
          have : us = [] := by
            have := VRs_len q3
            simpa using this
          subst this
          exact ⟨_, w, append_in ht ht' hu hdx hnd hi ty (A := A) (sLen := 0) (sCap := 0) q1 q2 (by omega) rfl, ρ, Pp, .inr ⟨A, rfl⟩, Step.none ..⟩
        · rename_i hn
          simp only [Option.some.injEq, Prod.mk.injEq] at e
          obtain ⟨rfl, rfl, rfl⟩ := e
          rcases hs with hs | ⟨A, hs⟩
          · exact fresh none hs hn (fun i hi => hF i (.inl hi)) (by simp)
          · exact fresh (some A) hs hn (fun i hi => hF i (.inl hi)) (by simp)
      · rename_i i off len cap es'
        simp only [Option.bind_eq_some_iff] at e
        obtain ⟨cs, hcs, e⟩ := e
        split at e
        · rename_i hg
          obtain ⟨rfl, hle, hroom2, hmax⟩ := hg
          obtain ⟨c, sh, A, cap', h6, rfl, h8, h9, h10⟩ := hs
          have hs : VR w ρ Pp (.sl i off len cap info.size) Pt (.slice (some A) len cap') := ⟨c, sh, A, cap', h6, rfl, h8, h9, h10⟩
          have hcl := (cellsAt_eq hcs).2
          have hci := (cellsAt_eq hcs).1
          have hilt : i < h.length := (List.getElem?_eq_some_iff.1 hci).1
          split at e
          · rename_i hfit
            simp only [Option.some.injEq, Prod.mk.injEq] at e
            obtain ⟨rfl, rfl, rfl⟩ := e
            have hFi : F i := hF i (.inr (by simp))
            have hbr : ∀ k, k ∈ r → HB w ρ Pp Pt h k := fun k hk => p.hb k (hF k (.inl (by simp [hk])))
            have hl := gcells_len hc hx hbr
            obtain ⟨q1, us, q2, q3⟩ := firstCells_run (P := P) (m := n) hc hx hbr (Nat.le_refl _)
            rw [List.take_of_length_le (by omega)] at q3
            have hul := VRs_len q3
            by_cases hemp : us = []
            · subst hemp
              have hz : new = [] := by
                apply List.eq_nil_of_length_eq_zero
                rw [← hul]; rfl
              refine ⟨_, w, append_in ht ht' hu hdx hnd hi ty (A := A) q1 q2 (by omega) rfl, ρ, Pp, ⟨c, sh, A, cap', h6, rfl, by omega, h9, h10⟩, ?_⟩
              subst hz
              have e1 : splice cs (off + len * info.size) [] = cs := by simp [splice]
              have e2 : h.set i cs = h := by
                apply List.ext_getElem?
                intro k
                by_cases hk : k = i
                · subst hk
                  rw [hci, List.getElem?_set]
                  simp [hilt]
                · rw [List.getElem?_set_ne (Ne.symm hk)]
              rw [e1, e2]
              exact step_self p hFi hci (by rw [hcl]; exact h6) _
            · have hpos : 0 < n * info.size := by
                rw [← hl, ← hul]
                exact List.length_pos_iff.2 hemp
              have hn : n ≠ 0 := by
                rintro rfl
                simp at hpos
              obtain ⟨rfl, R, h11, h12⟩ := h10.resolve_left (by omega)
              have hmul : (len + n) * info.size ≤ cap * info.size := Nat.mul_le_mul_right _ hfit
              rw [Nat.add_mul] at hmul
              obtain ⟨w', q4, q5⟩ := store_step (P := P) p (off := off + len * info.size) (i :: r) hFi hcs h6 (by omega) q3 hcell
              refine ⟨_, w', append_in ht ht' hu hdx hnd hi ty (A := ⟨c, sh + off, none⟩) q1 q2 (by omega) ?_, _, Pp, ?_, q5⟩
              · rw [addr_add, Nat.add_assoc]
                exact q4
              · exact ⟨c, sh, _, cap', q5.keep.rho _ _ _ h6, rfl, by omega, h9, .inr ⟨rfl, R, q5.keep.rsz _ _ h11, h12⟩⟩
          · rename_i hfit
            split at e
            · rename_i hoff
              obtain ⟨rfl, hes⟩ := hoff
              simp only [Option.some.injEq, Prod.mk.injEq] at e
              obtain ⟨rfl, rfl, rfl⟩ := e
              have hFi : F i := hF i (.inr (by simp))
              have hbr : ∀ k, k ∈ r → HB w ρ Pp Pt h k := fun k hk => p.hb k (hF k (.inl (by simp [hk])))
              have hbi := p.hb i hFi
              have hl := gcells_len hc hx hbr
              obtain ⟨q1, us, q2, q3⟩ := firstCells_run (P := P) (m := n) hc hx hbr (Nat.le_refl _)
              rw [List.take_of_length_le (by omega)] at q3
              have hul := VRs_len q3
              have hgs : gcells h info.size (.sl i 0 len cap info.size) = some (len, (cs.drop 0).take (len * info.size), [i]) := by
                have hcs' : cellsAt h i (0 + cap * info.size) = some cs := hcs
                simp only [gcells, hcs', Option.bind_eq_bind, Option.bind_some]
                rw [if_pos ⟨trivial, hle⟩]
              have hmul : (cap + 1) * info.size ≤ (len + n) * info.size := Nat.mul_le_mul_right _ (by omega)
              have hmul2 : len * info.size ≤ cap * info.size := Nat.mul_le_mul_right _ hle
              have hsum : (len + n) * info.size = len * info.size + n * info.size := Nat.add_mul ..
              rw [Nat.add_mul, Nat.one_mul] at hmul
              have hnl : (cs.take (len * info.size) ++ new).length = (len + n) * info.size := by
                rw [List.length_append, List.length_take, Nat.min_eq_left (by omega), hl]; omega
              rw [Nat.zero_add] at hcl h6
              obtain ⟨⟨rc, rty, lo, hi', h3, h4, h5, h5'⟩, h7, h7'⟩ := cells_at hcs hbi (by rw [Nat.zero_add]; exact h6)
              dsimp only at h3 h4 h5'
              by_cases hin : len + n ≤ cap'
              · obtain ⟨rfl, R, h11, h12⟩ := h10.resolve_left (by omega)
                have hR : R = rc.size := by
                  unfold rsz at h11
                  rw [h3] at h11
                  simpa using h11.symm
                have hmul3 : (len + n) * info.size ≤ cap' * info.size := Nat.mul_le_mul_right _ hin
                have hst := run_storeRow (P := P) (c := c) (o := sh + 0 + len * info.size) us 0 rc w h3 (by omega) (cells_one q3 hcell) h5
                simp only [Nat.add_zero] at hst
                have st2 := Step.write (w' := w.setRow c (rc.toList.take (sh + len * info.size) ++ us ++ rc.toList.drop (sh + len * info.size + us.length)).toArray) (r := i :: r) (cs' := cs.take (len * info.size) ++ new) p hFi hci (by rw [hcl]; exact h6) (by rw [hnl, hcl]; omega) rfl rfl rfl (by simp) h3 (setRow_heap w c rc _ rty (lo, hi') h3) (fun k hk => setRow_other w c k _ hk) (by simp; omega) (by rw [hnl]; omega) (fun j g hg => ?_)
                · refine ⟨_, _, append_in ht ht' hu hdx hnd hi ty (A := ⟨c, sh + 0, none⟩) q1 q2 hin (by rw [addr_add]; exact hst), _, Pp, ?_, st2⟩
                  refine ⟨c, sh, _, cap', ?_, rfl, Nat.le_refl _, hin, .inr ⟨rfl, R, st2.keep.rsz _ _ h11, h12⟩⟩
                  rw [Nat.zero_add, ← hnl]
                  exact put_same
                · have htk : (rc.toList.take (sh + len * info.size)).length = sh + len * info.size := by simp; omega
                  have htk' : (cs.take (len * info.size)).length = len * info.size := by simp; omega
                  simp only [List.getElem?_toArray]
                  by_cases hj : j < len * info.size
                  · rw [List.getElem?_append_left (by omega), List.getElem?_take, if_pos hj] at hg
                    obtain ⟨u, q4, q5⟩ := h5' j g hg
                    refine ⟨u, ?_, q5⟩
                    rw [List.append_assoc, List.getElem?_append_left (by omega), List.getElem?_take, if_pos (by omega)]
                    simpa using q4
                  · rw [List.getElem?_append_right (by omega), htk'] at hg
                    obtain ⟨u, q4, q5⟩ := VRs_get q3 _ g hg
                    refine ⟨u, ?_, q5⟩
                    have := (List.getElem?_eq_some_iff.1 q4).1
                    rw [List.append_assoc, List.getElem?_append_right (by omega), htk, List.getElem?_append_left (by omega), ← q4]
                    congr 1
                    omega
              · have hx1' := hx1
                obtain ⟨_, us1, r1, r2⟩ := firstCells_run (P := P) (m := n) hc hx1 (fun k hk => p1.hb k (hF k (.inl (by simp [hk])))) (Nat.le_refl _)
                have hs1 := st.val p (fun i hi => by simp at hi) hs
                obtain ⟨_, old, r3, r4⟩ := firstCells_run (P := P) (m := len) hgs hs1 (fun k hk => p1.hb k (hF k (.inr (by simpa using hk)))) (Nat.le_refl _)
                rw [List.take_of_length_le (by omega)] at r2
                simp only [List.drop_zero, List.take_take, Nat.min_self] at r4
                obtain ⟨newCap, r5, r6⟩ := append_grow (P := P) (w := w) ht ht' hu hdx hnd hi ty (base := some A) (sLen := len) (sCap := cap') hz1 q1 r1 r3 hin hmax hroom2
                have ol := VRs_len r4
                have ul := VRs_len r2
                have htk' : (cs.take (len * info.size)).length = len * info.size := by simp; omega
                have hsz : (old.toArray ++ us1.toArray ++ Builtin.zeroCells zv.cells (newCap - (len + n))).size = newCap * info.size := by
                  simp only [Array.size_append, zeroCells_size, hzs]
                  have : newCap * info.size = (len + n) * info.size + (newCap - (len + n)) * info.size := by rw [← Nat.add_mul]; congr 1; omega
                  simp
                  omega
                have both := VRs_append r4 r2
                refine ⟨_, _, r6, ρ.put i (cs.take (len * info.size) ++ new).length (w.heap.size, 0), Pp, ?_, ?_⟩
                · refine ⟨w.heap.size, 0, ⟨w.heap.size, 0, none⟩, newCap, ?_, rfl, Nat.le_refl _, r5, .inr ⟨rfl, newCap * info.size, ?_, by omega⟩⟩
                  · rw [Nat.zero_add, ← hnl]
                    exact put_same
                  · have := rsz_alloc w.drew (old.toArray ++ us1.toArray ++ Builtin.zeroCells zv.cells (newCap - (len + n))) et (0, 0)
                    rw [hsz] at this
                    exact this
                · refine Step.place p (i := i) (by simp [hilt]) (fun k hk => by rw [List.getElem?_set_ne (Ne.symm hk)]) (.inr ⟨hilt, by simp, rfl⟩) (fun m hm => ?_) rfl rfl rfl rfl ?_ (fun o _ => by omega) (fun j g hg => ?_)
                  · exact (hbi cs hci).2 m (by omega)
                  · rw [hsz, hnl]
                    exact Nat.mul_le_mul_right _ r5
                  · obtain ⟨u, q4, q5⟩ := VRs_get both j g hg
                    refine ⟨u, ?_, VR_mono (w := w.drew) (w' := w) (ρ' := ρ) (Pp' := Pp) ⟨fun _ _ h => h, fun _ _ _ h => h, fun _ h => h⟩ _ _ _ _ (fun _ h => .inl h) (fun _ _ => rfl) q5⟩
                    have := (List.getElem?_eq_some_iff.1 q4).1
                    rw [← Array.getElem?_toList]
                    simp only [Array.toList_append]
                    rw [List.getElem?_append_left this]
                    exact q4
            · cases e
        · cases e
      · cases e
    · cases e
  · cases e
end

end Go.Proofs.YtklhdbkaejbajaaDoor.G

namespace Go.Proofs.YtklhdbkaejbajaaDoor.G
open Go.RowKit
set_option linter.unusedVariables false
set_option linter.unusedSimpArgs false

section
variable {P : Program} {Pt Pp : Nat → Prop} {w : World} {ρ : Map} {h : Heap} {a : Act} {o : Oper} {σ : GS} {C : Cfg} {call : GCall} {F : Nat → Prop} {N : Nat}

theorem op_append {c : Call} {b : Builtin} {v : GV} {h' : Heap} {lg : Lg} (ho : o.op = .call c) (hc : c.callee = .builtin b) (hb : b = .append ∨ b = .copy ∨ b = .clear) (hx : ∀ x, x ∈ c.args.toList → EV w ρ Pp Pt σ a x)
    (e : gop P C call (eval σ) o h = some (v, h', lg)) (p : Pre Pt w ρ Pp h F h'.length) (hF : ∀ i, i ∈ lg.r ∨ i ∈ lg.w → F i) : OpTo P o a w (After Pt w ρ Pp h lg h' v) := by
  simp only [gop, ho, hc, Option.bind_eq_bind, Option.bind_eq_some_iff] at e
  obtain ⟨gs, h1, e⟩ := e
  have h2 := VRs_mapM h1 hx
  have hargs : (c.args.map a.eval).toList = c.args.toList.map a.eval := by simp
  obtain ⟨k, hk⟩ := exec_builtin ho hc a.eval
  unfold gbuiltin at e
  split at e
  · simp at hb
  · simp at hb
  · simp at hb
  · simp at hb
  · simp only [Option.bind_eq_bind, Option.bind_eq_some_iff] at e
    obtain ⟨t, ht, t', ht', e⟩ := e
    obtain ⟨u1, us1, h3, h4, u2, us2, rfl, h5, h6⟩ := h2
    simp only [VRsi] at h6
    subst h6
    have hargs' : c.args.map a.eval = #[u1, u2] := by
      apply Array.toList_inj.1
      rw [hargs, h3]
    split at e
    · rename_i ik hdx
      obtain ⟨u, w', q1, q2⟩ := gappz_run (P := P) e h4 h5 p o.type c.argTypes ht ht' hdx
      refine .value (u := u) (w' := w') ?_ q2
      rw [hk, hargs']
      simp only [builtin, Sem.run_bind, q1, Result.andThen_ok, Sem.run_pure]
    · rename_i dx hnd hdx
      obtain ⟨u, w', q1, q2⟩ := gappend_run (P := P) e h4 h5 p hF o.type c.argTypes ht ht' hdx (fun k e => hnd k e)
      refine .value (u := u) (w' := w') ?_ q2
      rw [hk, hargs']
      simp only [builtin, Sem.run_bind, q1, Result.andThen_ok, Sem.run_pure]
    · cases e
  · simp only [Option.bind_eq_bind, Option.bind_eq_some_iff] at e
    obtain ⟨t, ht, e⟩ := e
    obtain ⟨u1, us1, h3, h4, u2, us2, rfl, h5, h6⟩ := h2
    simp only [VRsi] at h6
    subst h6
    have hargs' : c.args.map a.eval = #[u1, u2] := by
      apply Array.toList_inj.1
      rw [hargs, h3]
    obtain ⟨u, w', q1, q2⟩ := gcopy_run (P := P) e h4 h5 p hF o.type c.argTypes ht
    refine .value (u := u) (w' := w') ?_ q2
    rw [hk, hargs']
    simp only [builtin, Sem.run_bind, q1, Result.andThen_ok, Sem.run_pure]
  · simp only [Option.bind_eq_bind, Option.bind_eq_some_iff] at e
    obtain ⟨t, ht, e⟩ := e
    obtain ⟨u1, us1, h3, h4, h6⟩ := h2
    simp only [VRsi] at h6
    subst h6
    have hargs' : c.args.map a.eval = #[u1] := by
      apply Array.toList_inj.1
      rw [hargs, h3]
    obtain ⟨u, w', q1, q2⟩ := gclear_run (P := P) e h4 p hF o.type c.argTypes ht
    refine .value (u := u) (w' := w') ?_ q2
    rw [hk, hargs']
    simp only [builtin, Sem.run_bind, q1, Result.andThen_ok, Sem.run_pure]
  · cases e

theorem VRs_mapM_of {f : GV → Option (GV × List Nat)} {ρ' : Map} {Pp' Pt' : Nat → Prop} : ∀ {gs : List GV} {xs : List (GV × List Nat)} {us : List Value}, gs.mapM f = some xs → VRs w ρ Pp gs Pt us →
    (∀ g x u, g ∈ gs → f g = some x → (∀ i, i ∈ x.2 → i ∈ (xs.map (·.2)).flatten) → VR w ρ Pp g Pt u → VR w ρ' Pp' x.1 Pt' u) → VRs w ρ' Pp' (xs.map (·.1)) Pt' us
  | [], xs, us, e, hv, _ => by
    simp at e
    subst e
    simpa [VRs, VRsi] using hv
  | g :: gs, xs, us, e, hv, hf => by
    simp only [List.mapM_cons, Option.bind_eq_bind, Option.bind_eq_some_iff, Option.pure_def, Option.some.injEq] at e
    obtain ⟨x, h1, xs', h2, rfl⟩ := e
    obtain ⟨u, us', rfl, h3, h4⟩ := hv
    refine ⟨u, us', rfl, hf g x u (by simp) h1 (fun i hi => by simp [hi]) h3, VRs_mapM_of h2 h4 fun g x u hg hx hi hu => hf g x u (by simp [hg]) hx (fun i hx => ?_) hu⟩
    have := hi i hx
    simp at this ⊢
    exact .inr this

theorem mapM_len {α β : Type} {f : α → Option β} : ∀ {l : List α} {r : List β}, l.mapM f = some r → r.length = l.length
  | [], r, e => by simp at e; subst e; rfl
  | x :: l, r, e => by
    simp only [List.mapM_cons, Option.bind_eq_bind, Option.bind_eq_some_iff, Option.pure_def, Option.some.injEq] at e
    obtain ⟨y, _, r', h2, rfl⟩ := e
    simp [mapM_len h2]

theorem BR_lt {cs : List GV} {loc : Nat × Nat} (b : BR w ρ Pp Pt cs loc) : loc.1 < w.heap.size := by
  obtain ⟨rc, ty, lo, hi, h1, _⟩ := b
  exact (Array.getElem?_eq_some_iff.1 h1).1

theorem VRs_map_of {f : GV → GV} {ρ ρ' : Map} {Pp' Pt Pt' : Nat → Prop} : ∀ {gs : List GV} {us : List Value}, VRs w ρ Pp gs Pt us → (∀ g u, g ∈ gs → VR w ρ Pp g Pt u → VR w ρ' Pp' (f g) Pt' u) → VRs w ρ' Pp' (gs.map f) Pt' us
  | [], us, h, _ => by simpa [VRs, VRsi] using h
  | g :: gs, us, h, hf => by
    obtain ⟨u, us', rfl, h2, h3⟩ := h
    exact ⟨u, us', rfl, hf g u (by simp) h2, VRs_map_of h3 fun g u hg => hf g u (by simp [hg])⟩

theorem VR_mt_of {t : Bool} {es : Nat} {cells : List GV} {ρ ρ' : Map} {Pp' Pt Pt' : Nat → Prop} {u : Value} (h : VR w ρ Pp (.fz t 0 es cells) Pt u) : VR w ρ' Pp' mt Pt' u := by
  rcases h with ⟨_, _, _, rfl⟩ | ⟨A, cap', rfl, h8, h9, h10⟩
  · exact .inl ⟨rfl, rfl, rfl, rfl⟩
  · exact .inr ⟨A, cap', rfl, h8, rfl, fun hc => (hc rfl).elim⟩
theorem VR_mt_nils {ρ ρ' : Map} {Pp' Pt Pt' : Nat → Prop} {u : Value} (h : VR w ρ Pp .nils Pt u) : VR w ρ' Pp' mt Pt' u := by
  simp only [VR, VRi] at h; subst h; exact .inl ⟨rfl, rfl, rfl, rfl⟩
theorem VR_mt_emp {ρ ρ' : Map} {Pp' Pt Pt' : Nat → Prop} {u : Value} (h : VR w ρ Pp .emp Pt u) : VR w ρ' Pp' mt Pt' u := by
  rcases h with rfl | ⟨A, rfl⟩
  · exact .inl ⟨rfl, rfl, rfl, rfl⟩
  · exact .inr ⟨A, 0, rfl, by omega, rfl, fun hc => (hc rfl).elim⟩

theorem lend_sound (hlt : ∀ c, Pp c → c < w.heap.size) : ∀ (d : Nat) (g : GV) (u : Value) (Q : Nat → Prop), (∀ c, Q c → c < w.heap.size) → VR w E0 Pp g Q u → VR w E0 Pp (lend d g) (fun c => c < w.heap.size) u
  | 0, g, u, Q, hQ, hv => VR_mono (Keep.refl w E0 Pp) g Q _ u (fun c hc => .inl (hQ c hc)) (fun _ _ => rfl) hv
  | d + 1, g, u, Q, hQ, hv => by
    have key : VR w E0 Pp g (fun c => c < w.heap.size) u := VR_mono (Keep.refl w E0 Pp) g Q _ u (fun c hc => .inl (hQ c hc)) (fun _ _ => rfl) hv
    have hQ' : ∀ t : Bool, ∀ c, (if t = true then Q else Pp) c → c < w.heap.size := fun t c hc => by
      by_cases e : t = true <;> simp [e] at hc
      · exact hQ c hc
      · exact hlt c hc
    unfold lend
    split
    · exact VR_mt_of hv
    · rename_i t n es cells
      obtain ⟨A, cap', rfl, h8, h9, h10⟩ := hv.resolve_left (by simp)
      refine .inr ⟨A, cap', rfl, h8, by simpa using h9, fun hc => ?_⟩
      obtain ⟨h11, us, h12, h13⟩ := h10 (by simpa using hc)
      refine ⟨?_, us, ?_, h13⟩
      · simp only [if_true]
        by_cases e : t = true <;> simp [e] at h11
        · exact h11.elim (fun h => .inl (hQ _ h)) .inr
        · exact .inr h11
      · simp only [if_true]
        exact VRs_map_of h12 fun g u hg hu => lend_sound hlt d g u _ (hQ' t) hu
    · rename_i t cells
      obtain ⟨A, rfl, h10⟩ := hv
      refine ⟨A, rfl, fun hc => ?_⟩
      obtain ⟨h11, us, h12, h13⟩ := h10 (by simpa using hc)
      refine ⟨?_, us, ?_, h13⟩
      · simp only [if_true]
        by_cases e : t = true <;> simp [e] at h11
        · exact h11.elim (fun h => .inl (hQ _ h)) .inr
        · exact .inr h11
      · simp only [if_true]
        exact VRs_map_of h12 fun g u hg hu => lend_sound hlt d g u _ (hQ' t) hu
    · exact VR_mt_nils hv
    · exact VR_mt_emp hv
    · obtain ⟨us, rfl, h2⟩ := hv
      exact ⟨us, rfl, VRs_map_of h2 fun g u hg hu => lend_sound hlt d g u _ hQ hu⟩
    · exact key

/-- What is lent is told by what it holds. -/
theorem bor_sound (hlt : ∀ c, Pp c ∨ Pt c → c < w.heap.size) : ∀ (d : Nat) (g g' : GV) (r : List Nat) (u : Value), bor d h g = some (g', r) → VR w ρ Pp g Pt u → (∀ i, i ∈ r → HB w ρ Pp Pt h i) →
    VR w E0 Pp g' (fun c => c < w.heap.size) u
  | 0, g, g', r, u, e, _, _ => by cases e
  | d + 1, g, g', r, u, e, hv, hb => by
    have hmono : ∀ {gs : List GV} {us : List Value} {Q : Nat → Prop}, (∀ c, Q c → Pp c ∨ Pt c) → VRs w E0 Pp gs Q us → VRs w E0 Pp gs (fun c => c < w.heap.size) us := fun {gs us Q} hQ hh =>
      VRs_mono (Keep.refl w E0 Pp) gs Q _ us (fun c hc => .inl (hlt c (hQ c hc))) (fun _ _ => rfl) hh
    unfold bor at e
    split at e
    · rename_i i off len cap es
      simp only [Option.bind_eq_bind, Option.bind_eq_some_iff] at e
      obtain ⟨cs, hcs, xs, hxs, e⟩ := e
      split at e
      · rename_i hle
        obtain ⟨c, sh, A, cap', h6, rfl, h8, h9, h10⟩ := hv
        have hcl := (cellsAt_eq hcs).2
        have hmul : len * es ≤ cap * es := Nat.mul_le_mul_right _ hle
        have hir : i ∈ r := by
          cases len with
          | zero => simp only [Option.some.injEq, Prod.mk.injEq] at e; rw [← e.2]; simp
          | succ n => simp only [Option.some.injEq, Prod.mk.injEq] at e; rw [← e.2]; simp
        have hbr := cells_at hcs (hb i hir) h6
        obtain ⟨us, q1, q2⟩ := BR_cells hbr.1 off (len * es) (by omega)
        have hxl := mapM_len hxs
        have htl : ((cs.drop off).take (len * es)).length = len * es := by simp; omega
        cases len with
        | zero =>
          simp only [Option.some.injEq, Prod.mk.injEq] at e
          obtain ⟨rfl, rfl⟩ := e
          exact .inr ⟨A, cap', rfl, by omega, rfl, fun hc => (hc rfl).elim⟩
        | succ len =>
        simp only [Option.some.injEq, Prod.mk.injEq] at e
        obtain ⟨rfl, rfl⟩ := e
        refine .inr ⟨A, cap', rfl, by omega, by rw [List.length_map, hxl, htl], fun hne => ?_⟩
        have hcap : cap' ≠ 0 := by omega
        obtain ⟨rfl, _⟩ := h10.resolve_left hcap
        refine ⟨by simpa using .inl (BR_lt hbr.1), us, ?_, q2⟩
        simp only [if_true]
        exact VRs_mapM_of hxs q1 fun g x u hg hx hi hu => bor_sound hlt d g x.1 x.2 u hx hu (fun i hi' => hb i (by have := hi i hi'; simp at this ⊢; exact .inr this))
      · cases e
    · rename_i i off tot
      simp only [Option.bind_eq_bind, Option.bind_eq_some_iff, Option.some.injEq, Prod.mk.injEq] at e
      obtain ⟨cs, hcs, xs, hxs, rfl, rfl⟩ := e
      obtain ⟨c, sh, h6, rfl⟩ := hv
      have hcl := (cellsAt_eq hcs).2
      have hbr := cells_at hcs (hb i (by simp)) h6
      refine ⟨_, rfl, fun hne => ?_⟩
      have hxl := mapM_len hxs
      have hlt' : off < cs.length := by
        rcases Nat.lt_or_ge off cs.length with h | h
        · exact h
        · rw [List.drop_of_length_le h] at hxl
          exact absurd (by rw [List.eq_nil_of_length_eq_zero hxl]; rfl) hne
      obtain ⟨us, q1, q2⟩ := BR_cells hbr.1 off (cs.length - off) (by omega)
      rw [List.take_of_length_le (by simp)] at q1
      refine ⟨by simpa using .inl (BR_lt hbr.1), us, ?_, q2⟩
      simp only [if_true]
      exact VRs_mapM_of hxs q1 fun g x u hg hx hi hu => bor_sound hlt d g x.1 x.2 u hx hu (fun i hi' => hb i (by have := hi i hi'; simp at this ⊢; exact .inr this))
    · simp only [Option.bind_eq_bind, Option.bind_eq_some_iff, Option.some.injEq, Prod.mk.injEq] at e
      obtain ⟨xs, hxs, rfl, rfl⟩ := e
      obtain ⟨us, rfl, h2⟩ := hv
      exact ⟨us, rfl, VRs_mapM_of hxs h2 fun g x u hg hx hi hu => bor_sound hlt d g x.1 x.2 u hx hu (fun i hi' => hb i (hi i hi'))⟩
    · simp only [Option.bind_eq_bind, Option.bind_eq_some_iff, Option.some.injEq, Prod.mk.injEq] at e
      obtain ⟨xs, hxs, rfl, rfl⟩ := e
      obtain ⟨us, rfl, h2⟩ := hv
      exact ⟨us, rfl, VRs_mapM_of hxs h2 fun g x u hg hx hi hu => bor_sound hlt d g x.1 x.2 u hx hu (fun i hi' => hb i (hi i hi'))⟩
    · cases e
    · simp only [Option.some.injEq, Prod.mk.injEq] at e
      obtain ⟨rfl, rfl⟩ := e
      exact VR_mt_nils hv
    · simp only [Option.some.injEq, Prod.mk.injEq] at e
      obtain ⟨rfl, rfl⟩ := e
      exact VR_mt_emp hv
    · simp only [Option.some.injEq, Prod.mk.injEq] at e
      obtain ⟨rfl, rfl⟩ := e
      exact lend_sound (fun c hc => hlt c (.inl hc)) (d + 1) _ u Pt (fun c hc => hlt c (.inr hc)) hv
    · simp only [Option.some.injEq, Prod.mk.injEq] at e
      obtain ⟨rfl, rfl⟩ := e
      exact lend_sound (fun c hc => hlt c (.inl hc)) (d + 1) _ u Pt (fun c hc => hlt c (.inr hc)) hv
    · simp only [Option.some.injEq, Prod.mk.injEq] at e
      obtain ⟨rfl, rfl⟩ := e
      have key : ∀ g : GV, VRi w Pp g E0 Pt u → VR w E0 Pp g (fun c => c < w.heap.size) u := fun g hh =>
        VR_mono (Keep.refl w E0 Pp) g Pt _ u (fun c hc => .inl (hlt c (.inr hc))) (fun _ _ => rfl) hh
      cases g <;> first
        | exact key _ hv
        | (rename_i hn1 hn2 hn3 hn4 hn5 hn6 hn7 hn8 hn9; first | exact absurd rfl (hn1 _ _ _ _ _) | exact absurd rfl (hn2 _ _ _) | exact absurd rfl (hn3 _ _) | exact absurd rfl (hn4 _) | exact absurd rfl (hn5 _) | exact absurd rfl hn6 | exact absurd rfl hn7 | exact absurd rfl (hn8 _ _ _ _) | exact absurd rfl (hn9 _ _))

/-- What is handed back is told by what it holds. -/
theorem frz_sound {B : Nat} (hb : ∀ i, HB w ρ Pp Pt h i) (hnew : ∀ i c, At ρ h i c → B ≤ c) : ∀ (d : Nat) (g g' : GV) (r : List Nat) (u : Value) (Q : Nat → Prop), frz d h g = some (g', r) → VR w ρ Pp g Pt u →
    VR w E0 (fun c => Pp c ∨ (B ≤ c ∧ c < w.heap.size)) g' Q u
  | 0, g, g', r, u, Q, e, _ => by cases e
  | d + 1, g, g', r, u, Q, e, hv => by
    unfold frz at e
    split at e
    · rename_i i off len cap es
      simp only [Option.bind_eq_bind, Option.bind_eq_some_iff] at e
      obtain ⟨cs, hcs, xs, hxs, e⟩ := e
      split at e
      · rename_i hle
        obtain ⟨c, sh, A, cap', h6, rfl, h8, h9, h10⟩ := hv
        have hcl := (cellsAt_eq hcs).2
        have hci := (cellsAt_eq hcs).1
        have hmul : len * es ≤ cap * es := Nat.mul_le_mul_right _ hle
        have hbr := cells_at hcs (hb i) h6
        obtain ⟨us, q1, q2⟩ := BR_cells hbr.1 off (len * es) (by omega)
        have hxl := mapM_len hxs
        have htl : ((cs.drop off).take (len * es)).length = len * es := by simp; omega
        cases len with
        | zero =>
          simp only [Option.some.injEq, Prod.mk.injEq] at e
          obtain ⟨rfl, rfl⟩ := e
          exact .inr ⟨A, cap', rfl, by omega, rfl, fun hc => (hc rfl).elim⟩
        | succ len =>
        simp only [Option.some.injEq, Prod.mk.injEq] at e
        obtain ⟨rfl, rfl⟩ := e
        refine .inr ⟨A, cap', rfl, by omega, by rw [List.length_map, hxl, htl], fun hne => ?_⟩
        have hcap : cap' ≠ 0 := by omega
        obtain ⟨rfl, _⟩ := h10.resolve_left hcap
        have hB := hnew i c ⟨cs, (c, sh), hci, by rw [hcl]; exact h6, rfl⟩
        refine ⟨by simpa using .inr ⟨hB, BR_lt hbr.1⟩, us, ?_, q2⟩
        simp only [Bool.false_eq_true, if_false]
        exact VRs_mapM_of hxs q1 fun g x u hg hx hi hu => frz_sound hb hnew d g x.1 x.2 u _ hx hu
      · cases e
    · cases e
    · cases e
    · cases e
    · simp only [Option.some.injEq, Prod.mk.injEq] at e
      obtain ⟨rfl, rfl⟩ := e
      exact VR_mt_of hv
    · cases e
    · simp only [Option.some.injEq, Prod.mk.injEq] at e
      obtain ⟨rfl, rfl⟩ := e
      exact VR_mt_nils hv
    · simp only [Option.some.injEq, Prod.mk.injEq] at e
      obtain ⟨rfl, rfl⟩ := e
      exact VR_mt_emp hv
    · simp only [Option.bind_eq_bind, Option.bind_eq_some_iff, Option.some.injEq, Prod.mk.injEq] at e
      obtain ⟨xs, hxs, rfl, rfl⟩ := e
      obtain ⟨us, rfl, h2⟩ := hv
      exact ⟨us, rfl, VRs_mapM_of hxs h2 fun g x u hg hx hi hu => frz_sound hb hnew d g x.1 x.2 u _ hx hu⟩
    · simp only [Option.bind_eq_bind, Option.bind_eq_some_iff, Option.some.injEq, Prod.mk.injEq] at e
      obtain ⟨xs, hxs, rfl, rfl⟩ := e
      obtain ⟨us, rfl, h2⟩ := hv
      exact ⟨us, rfl, VRs_mapM_of hxs h2 fun g x u hg hx hi hu => frz_sound hb hnew d g x.1 x.2 u _ hx hu⟩
    · rename_i hn1 hn2 hn3 hn4 hn5 hn6 hn7 hn8 hn9 hn10
      simp only [Option.some.injEq, Prod.mk.injEq] at e
      obtain ⟨rfl, rfl⟩ := e
      have hk : Keep w E0 Pp w E0 (fun c => Pp c ∨ (B ≤ c ∧ c < w.heap.size)) := ⟨fun _ _ h => h, fun _ _ _ h => h, fun c hc => .inl hc⟩
      have key : ∀ g : GV, (∀ n es cs, g = .fz true n es cs → False) → VRi w Pp g E0 (fun _ => False) u → VR w E0 (fun c => Pp c ∨ (B ≤ c ∧ c < w.heap.size)) g Q u := fun g _ hh =>
        VR_mono hk g (fun _ => False) _ u (fun c hc => hc.elim) (fun _ _ => rfl) hh
      cases g with
      | fz t n es cells =>
        cases n with
        | zero => exact (hn5 _ _ _ rfl).elim
        | succ n =>
        cases t with
        | true => exact (hn6 _ _ _ rfl).elim
        | false => exact key _ (by simp) hv
      | sl i off len cap es => exact absurd rfl (hn1 _ _ _ _ _)
      | ptr i off tot => exact absurd rfl (hn2 _ _ _)
      | fp t cells => exact absurd rfl (hn3 _ _)
      | fn f caps => exact absurd rfl (hn4 _ _)
      | nils => exact absurd rfl hn7
      | emp => exact absurd rfl hn8
      | agg cs => exact absurd rfl (hn9 _)
      | tup cs => exact absurd rfl (hn10 _)
      | _ => exact key _ (by simp) hv

/-- Calls are told. -/
def CSound (P : Program) (k : GCall) : Prop := ∀ (f : FuncId) (args : List GV) (h : Heap) (v : GV) (h' : Heap) (lg : Lg) (us : List Value) (w : World) (ρ : Map) (Pp Pt F : Nat → Prop),
  k f args h = some (v, h', lg) → VRs w ρ Pp args Pt us → Pre Pt w ρ Pp h F h'.length → (∀ i, i ∈ lg.r ∨ i ∈ lg.w → F i) →
  Calls P f us.toArray w fun | .returned u, w' => After Pt w ρ Pp h lg h' v u w' | _, _ => False

/-- Functions that are told by a rule of their own: they change nothing; what they hand back lies in new blocks, that stay. -/
def XSound (P : Program) (C : Cfg) : Prop := ∀ (f : FuncId) (e : List GV → Option GV) (args : List GV) (v : GV) (us : List Value) (w : World) (Pp Pt : Nat → Prop),
  C.ext f = some e → e args = some v → VRs w E0 Pp args Pt us → (∀ c, Pp c ∨ Pt c → c < w.heap.size) → GL w Pp →
  Calls P f us.toArray w fun | .returned u, w' => VR w' E0 (fun c => w.heap.size ≤ c ∧ c < w'.heap.size) v (fun _ => False) u ∧ Below w.heap.size w w' | _, _ => False

def NameOk (P : Program) : Prop := ∀ (f : FuncId) (fn : Func), P.funcs[f]? = some fn → (fn.name == "runtime.NumGoroutine") = false

/-- Where a block that is handed over lies. -/
def loc1 (ρ1 : Map) (x : Nat × Nat × Nat) : Nat × Nat := match ρ1 x.1 x.2.2 with | some l => (l.1, l.2 + x.2.1) | none => (0, 0)
def Agree (ρ1 ρ' : Map) (b : Nat) (vis : Vis) (bl : List (List GV)) : Prop := ∀ (k : Nat) (x : Nat × Nat × Nat) (cs : List GV), vis[k]? = some x → bl[k]? = some cs → ρ' (b + k) cs.length = some (loc1 ρ1 x)

/-- What is known of blocks that are handed over. -/
structure Owned (w : World) (ρ1 : Map) (Pp1 : Nat → Prop) (h1 : Heap) (b : Nat) (vis : Vis) (bl : List (List GV)) (T : Map → (Nat → Prop) → (Nat → Prop) → Prop) : Prop where
  len : vis.length = bl.length
  at_ : ∀ x ∈ vis, ∃ cs l, cellsAt h1 x.1 x.2.2 = some cs ∧ ρ1 x.1 x.2.2 = some l
  to : ∀ (ρ' : Map) (Pp' Pt' : Nat → Prop), (∀ c, Pp1 c → Pp' c) → Agree ρ1 ρ' b vis bl → T ρ' Pp' Pt' ∧ ∀ (k : Nat) (x : Nat × Nat × Nat) (cs : List GV), vis[k]? = some x → bl[k]? = some cs → BR w ρ' Pp' Pt' cs (loc1 ρ1 x)

theorem ownL_sound {ρ1 : Map} {Pp1 PtC : Nat → Prop} {h1 : Heap} {f : Nat → GV → Option (GV × Vis × List (List GV))}
    (hf : ∀ (g : GV) (b : Nat) (r : GV × Vis × List (List GV)) (u : Value), f b g = some r → VR w ρ1 Pp1 g PtC u → Owned w ρ1 Pp1 h1 b r.2.1 r.2.2 fun ρ' Pp' Pt' => VR w ρ' Pp' r.1 Pt' u) :
    ∀ (gs : List GV) (b : Nat) (q : List GV × Vis × List (List GV)) (us : List Value), ownL f b gs = some q → VRs w ρ1 Pp1 gs PtC us → q.1.length = gs.length ∧ Owned w ρ1 Pp1 h1 b q.2.1 q.2.2 fun ρ' Pp' Pt' => VRs w ρ' Pp' q.1 Pt' us
  | [], b, q, us, e, hv => by
    simp only [ownL, Option.some.injEq] at e
    subst e
    simp only [VRs, VRsi] at hv
    subst hv
    exact ⟨rfl, rfl, by simp, fun _ _ _ _ _ => ⟨rfl, fun k x cs h => by simp at h⟩⟩
  | g :: gs, b, q, us, e, hv => by
    unfold ownL at e
    simp only [Option.bind_eq_some_iff, Option.some.injEq] at e
    obtain ⟨r, h2, p, h3, rfl⟩ := e
    obtain ⟨u, us', rfl, h4, h5⟩ := hv
    have o1 := hf g b r u h2 h4
    obtain ⟨l2, o2⟩ := ownL_sound hf gs _ p us' h3 h5
    refine ⟨by simp [l2], by simp [o1.len, o2.len], fun x hx => ?_, fun ρ' Pp' Pt' hp ha => ?_⟩
    · rcases List.mem_append.1 hx with hx | hx
      · exact o1.at_ x hx
      · exact o2.at_ x hx
    · have a1 : Agree ρ1 ρ' b r.2.1 r.2.2 := fun k x cs e1 e2 => ha k x cs (by rw [List.getElem?_append_left (List.getElem?_eq_some_iff.1 e1).1]; exact e1) (by rw [List.getElem?_append_left (List.getElem?_eq_some_iff.1 e2).1]; exact e2)
      have a2 : Agree ρ1 ρ' (b + r.2.2.length) p.2.1 p.2.2 := fun k x cs e1 e2 => by
        have := ha (r.2.2.length + k) x cs (by rw [List.getElem?_append_right (by rw [o1.len]; omega), o1.len]; simpa using e1) (by rw [List.getElem?_append_right (by omega)]; simpa using e2)
        rwa [← Nat.add_assoc] at this
      obtain ⟨t1, b1⟩ := o1.to ρ' Pp' Pt' hp a1
      obtain ⟨t2, b2⟩ := o2.to ρ' Pp' Pt' hp a2
      refine ⟨⟨u, us', rfl, t1, t2⟩, fun k x cs e1 e2 => ?_⟩
      rcases Nat.lt_or_ge k r.2.1.length with hk | hk
      · rw [List.getElem?_append_left hk] at e1
        rw [List.getElem?_append_left (by rw [← o1.len]; exact hk)] at e2
        exact b1 k x cs e1 e2
      · rw [List.getElem?_append_right hk] at e1
        rw [List.getElem?_append_right (by rw [← o1.len]; exact hk), ← o1.len] at e2
        exact b2 _ x cs e1 e2

theorem own_sound {ρ1 : Map} {Pp1 PtC : Nat → Prop} {h1 : Heap} (hb : ∀ i, HB w ρ1 Pp1 PtC h1 i) : ∀ (d : Nat) (g : GV) (b : Nat) (r : GV × Vis × List (List GV)) (u : Value), own d h1 b g = some r → VR w ρ1 Pp1 g PtC u →
    Owned w ρ1 Pp1 h1 b r.2.1 r.2.2 fun ρ' Pp' Pt' => VR w ρ' Pp' r.1 Pt' u
  | 0, g, b, r, u, e, _ => by cases e
  | d + 1, g, b, r, u, e, hv => by
    have ihL := ownL_sound (w := w) (ρ1 := ρ1) (Pp1 := Pp1) (PtC := PtC) (h1 := h1) (f := own d h1) (fun g b r u e hv => own_sound hb d g b r u e hv)
    have nothing : ∀ (T : Map → (Nat → Prop) → (Nat → Prop) → Prop), (∀ ρ' Pp' Pt', (∀ c, Pp1 c → Pp' c) → T ρ' Pp' Pt') → Owned w ρ1 Pp1 h1 b [] [] T := fun T hT =>
      ⟨rfl, by simp, fun ρ' Pp' Pt' hp _ => ⟨hT ρ' Pp' Pt' hp, fun k x cs h => by simp at h⟩⟩
    unfold own at e
    split at e
    · rename_i i off len cap es
      obtain ⟨cs, hcs, e⟩ := Option.bind_eq_some_iff.1 e
      split at e
      · rename_i hle
        simp only [Option.bind_eq_some_iff, Option.some.injEq] at e
        obtain ⟨q, hq, rfl⟩ := e
        obtain ⟨c, sh, A, cap', h6, rfl, h8, h9, h10⟩ := hv
        have hcl := (cellsAt_eq hcs).2
        have hmul : len * es ≤ cap * es := Nat.mul_le_mul_right _ hle
        have hbr := (cells_at hcs (hb i) h6).1
        have hloc : loc1 ρ1 (i, off, off + cap * es) = (c, sh + off) := by simp only [loc1, h6]
        obtain ⟨rc, ty, lo, hi, k1, k2, k3, k4⟩ := hbr
        have hus : VRs w ρ1 Pp1 ((cs.drop off).take (len * es)) PtC ((List.range (len * es)).map fun j => (rc[sh + (off + j)]?).getD undef) := by
          refine VRs_of (by simp; omega) fun j g u e1 e2 => ?_
          rw [List.getElem?_take] at e1
          split at e1
          · rename_i hj
            rw [List.getElem?_drop] at e1
            obtain ⟨u', h5, h7⟩ := k4 (off + j) g e1
            rw [List.getElem?_map, List.getElem?_range hj] at e2
            simp only [Option.map_some, Option.some.injEq] at e2
            rw [h5] at e2
            simp only [Option.getD_some] at e2
            rw [← e2]; exact h7
          · cases e1
        obtain ⟨ql, o⟩ := ihL _ _ q _ hq hus
        have hql : q.1.length = len * es := by rw [ql]; simp; omega
        refine ⟨by simp [o.len], fun x hx => ?_, fun ρ' Pp' Pt' hp ha => ?_⟩
        · simp only [List.mem_cons] at hx
          rcases hx with rfl | hx
          · exact ⟨cs, (c, sh), hcs, h6⟩
          · exact o.at_ x hx
        · have a2 : Agree ρ1 ρ' (b + 1) q.2.1 q.2.2 := fun k x cs e1 e2 => by
            have := ha (k + 1) x cs (by simpa using e1) (by simpa using e2)
            rwa [show b + (k + 1) = b + 1 + k by omega] at this
          obtain ⟨t1, b1⟩ := o.to ρ' Pp' Pt' hp a2
          have h0 : ρ' b (len * es) = some (c, sh + off) := by
            have := ha 0 _ q.1 rfl rfl
            rw [hql, hloc] at this
            simpa using this
          refine ⟨⟨c, sh + off, A, cap', by simpa using h0, rfl, Nat.le_refl _, by omega, ?_⟩, fun k x cs' e1 e2 => ?_⟩
          · rcases h10 with h10 | ⟨rfl, R, h11, h12⟩
            · exact .inl h10
            · exact .inr ⟨rfl, R, h11, by simpa using h12⟩
          · cases k with
            | zero =>
              simp only [List.getElem?_cons_zero, Option.some.injEq] at e1 e2
              subst e1; subst e2
              rw [hloc]
              refine ⟨rc, ty, lo, hi, k1, ?_, k3, fun j g hg => ?_⟩
              · show sh + off + q.1.length ≤ rc.size
                rw [hql]; simp only at k2; omega
              · obtain ⟨u, e3, e4⟩ := VRs_get t1 j g hg
                have hj : j < len * es := by
                  have := (List.getElem?_eq_some_iff.1 hg).1
                  omega
                rw [List.getElem?_map, List.getElem?_range hj] at e3
                simp only [Option.map_some, Option.some.injEq] at e3
                refine ⟨u, ?_, e4⟩
                show rc[sh + off + j]? = some u
                have hlt : sh + off + j < rc.size := by simp only at k2; omega
                rw [show sh + (off + j) = sh + off + j by omega, Array.getElem?_eq_getElem hlt] at e3
                rw [Array.getElem?_eq_getElem hlt]
                simpa using e3
            | succ k => exact b1 k x cs' (by simpa using e1) (by simpa using e2)
      · cases e
    · simp only [Option.bind_eq_some_iff, Option.some.injEq] at e
      obtain ⟨q, hq, rfl⟩ := e
      obtain ⟨us, rfl, h2⟩ := hv
      obtain ⟨_, o⟩ := ihL _ _ q _ hq h2
      exact ⟨o.len, o.at_, fun ρ' Pp' Pt' hp ha => ⟨⟨us, rfl, (o.to ρ' Pp' Pt' hp ha).1⟩, (o.to ρ' Pp' Pt' hp ha).2⟩⟩
    · simp only [Option.bind_eq_some_iff, Option.some.injEq] at e
      obtain ⟨q, hq, rfl⟩ := e
      obtain ⟨us, rfl, h2⟩ := hv
      obtain ⟨_, o⟩ := ihL _ _ q _ hq h2
      exact ⟨o.len, o.at_, fun ρ' Pp' Pt' hp ha => ⟨⟨us, rfl, (o.to ρ' Pp' Pt' hp ha).1⟩, (o.to ρ' Pp' Pt' hp ha).2⟩⟩
    · cases e
    · cases e
    · cases e
    · simp only [Option.some.injEq] at e
      subst e
      exact nothing _ fun _ _ _ _ => VR_mt_of hv
    · cases e
    · rename_i hn1 hn2 hn3 hn4 hn5 hn6 hn7 hn8
      simp only [Option.some.injEq] at e
      subst e
      have key : ∀ g : GV, VRi w Pp1 g E0 (fun _ => False) u → Owned w ρ1 Pp1 h1 b [] [] fun ρ' Pp' Pt' => VR w ρ' Pp' g Pt' u := fun g hh =>
        nothing _ fun ρ' Pp' Pt' hp => VR_mono (w := w) (ρ := E0) (Pp := Pp1) (⟨fun _ _ h => h, fun _ _ _ h => by simp [E0] at h, hp⟩ : Keep w E0 Pp1 w ρ' Pp') g (fun _ => False) _ u (fun c hc => hc.elim) (fun _ _ => rfl) hh
      cases g with
      | fz t n es cells =>
        cases n with
        | zero => exact (hn7 _ _ _ rfl).elim
        | succ n =>
        cases t with
        | true => exact (hn8 _ _ _ rfl).elim
        | false => exact key _ hv
      | sl i off len cap es => exact absurd rfl (hn1 _ _ _ _ _)
      | agg cs => exact absurd rfl (hn2 _)
      | tup cs => exact absurd rfl (hn3 _)
      | ptr i off tot => exact absurd rfl (hn4 _ _ _)
      | fp t cells => exact absurd rfl (hn5 _ _)
      | fn f caps => exact absurd rfl (hn6 _ _)
      | _ => exact key _ hv

/-- A function that was run twice, for nil and for a slice that is not nil. -/
theorem split_sound (hC : CSound P call) {g : FuncId} {args : List GV} {us : List Value} {ρ0 : Map} {Pt0 : Nat → Prop} (lr : List Nat) (hs : gsplit call g = true) (ha : emptyArg args = true) (hv : VRs w ρ0 Pp args Pt0 us) (hlt : ∀ c, Pp c ∨ Pt c → c < w.heap.size) (hgl : GL w Pp) :
    Calls P g us.toArray w fun | .returned u, w' => After Pt w ρ Pp h ⟨lr, []⟩ h .emp u w' | _, _ => False := by
  have hatn : ∀ i c, ¬ At E0 [] i c := fun i c ha => by
    obtain ⟨cs, loc, h1, _⟩ := ha
    simp at h1
  -- one run, in no heap
  have run : ∀ (a r : GV) (h1 : Heap) (lg1 : Lg), call g [a] [] = some (r, h1, lg1) → (∀ w' ρ' Pp' (Q : Nat → Prop) u, VR w' ρ' Pp' r Q u → VR w' ρ Pp .emp Pt u) → VRs w E0 Pp [a] (fun c => c < w.heap.size) us →
      Calls P g us.toArray w fun | .returned u, w' => After Pt w ρ Pp h ⟨lr, []⟩ h .emp u w' | _, _ => False := by
    intro a r h1 lg1 e hr hva
    have p1 : Pre (fun c => c < w.heap.size) w E0 Pp [] (fun _ => True) h1.length :=
      ⟨fun c hc => hc.elim (fun h => hlt c (.inl h)) id, fun i _ cs hcs => by simp at hcs, fun i j c _ _ _ ha => absurd ha (hatn i c), fun _ _ _ _ => rfl, hgl⟩
    refine Calls.mono (hC g _ [] r h1 lg1 us w E0 Pp _ _ e hva p1 (fun _ _ => trivial)) fun en w' he => ?_
    cases en with
    | returned u =>
      obtain ⟨ρ', Pp', hu, st⟩ := he
      refine ⟨ρ, Pp, hr _ _ _ _ _ hu, ?_⟩
      refine ⟨st.os, st.tape, st.output, st.size, ⟨st.keep.rsz, fun _ _ _ h => h, fun c hc => hc⟩, fun c hc _ => st.kept c hc (fun i _ => hatn i c), fun _ h => .inl h, fun _ _ _ => rfl, Nat.le_refl _, fun _ _ _ => rfl, fun i hi => ?_, fun i c hi => ?_, fun i j c hi => ?_⟩
      · rcases hi with hi | hi
        · exact absurd hi (by simp)
        · omega
      · rcases hi with hi | hi
        · exact absurd hi (by simp)
        · omega
      · rcases hi with hi | hi
        · omega
        · exact absurd hi (by simp)
    | _ => exact he.elim
  unfold gsplit at hs
  split at hs
  · rename_i h1 l1 h2 l2 e1 e2
    have r1 := run .nils .nils h1 l1 e1 (fun w' ρ' Pp' Q u hu => by simp only [VR, VRi] at hu; exact .inl hu)
    have r2 := run (.fz true 0 1 []) .emp h2 l2 e2 (fun w' ρ' Pp' Q u hu => hu)
    unfold emptyArg at ha
    split at ha
    · obtain ⟨u, us', rfl, h3, h4⟩ := hv
      simp only [VRsi] at h4
      subst h4
      rcases h3 with ⟨_, _, _, rfl⟩ | ⟨A, cap', rfl, h8, h9, h10⟩
      · exact r1 ⟨_, _, rfl, rfl, rfl⟩
      · exact r2 ⟨_, _, rfl, .inr ⟨A, cap', rfl, h8, rfl, fun hc => (hc rfl).elim⟩, rfl⟩
    · obtain ⟨u, us', rfl, h3, h4⟩ := hv
      simp only [VRsi] at h4
      subst h4
      rcases h3 with rfl | ⟨A, rfl⟩
      · exact r1 ⟨_, _, rfl, rfl, rfl⟩
      · exact r2 ⟨_, _, rfl, .inr ⟨A, 0, rfl, by omega, rfl, fun hc => (hc rfl).elim⟩, rfl⟩
    · cases ha
  · cases hs

theorem nodupB_ne : ∀ {l : List Nat} {i j a b : Nat}, nodupB l = true → i < j → l[i]? = some a → l[j]? = some b → a ≠ b
  | [], i, j, a, b, _, _, e1, _ => by simp at e1
  | x :: l, i, j, a, b, hn, hij, e1, e2 => by
    simp only [nodupB, Bool.and_eq_true, List.all_eq_true, Bool.not_eq_true'] at hn
    cases j with
    | zero => omega
    | succ j =>
      simp only [List.getElem?_cons_succ] at e2
      cases i with
      | zero =>
        simp only [List.getElem?_cons_zero, Option.some.injEq] at e1
        subst e1
        exact Nat.ne_of_beq_eq_false (hn.1 b (List.mem_of_getElem? e2))
      | succ i => exact nodupB_ne (i := i) (j := j) hn.2 (by omega) (by simpa using e1) e2

/-- A function that hands back new memory. -/
theorem fresh_sound (hC : CSound P call) {g : FuncId} {args : List GV} {us : List Value} {xs : List (GV × List Nat)} {v v' : GV} {h1 : Heap} {lg1 : Lg} {vis : Vis} {bl : List (List GV)} (hxs : args.mapM (bor 9 h) = some xs) (hcall : call g (xs.map (·.1)) [] = some (v, h1, lg1))
    (hown : own 9 h1 h.length v = some (v', vis, bl)) (hnd : nodupB (vis.map (·.1)) = true) (hv : VRs w ρ Pp args Pt us) (p : Pre Pt w ρ Pp h F (h ++ bl).length) (hF : ∀ i, i ∈ (xs.map (·.2)).flatten → F i) :
    Calls P g us.toArray w fun | .returned u, w' => After Pt w ρ Pp h ⟨(xs.map (·.2)).flatten, []⟩ (h ++ bl) v' u w' | _, _ => False := by
  have hlent : VRs w E0 Pp (xs.map (·.1)) (fun c => c < w.heap.size) us := VRs_mapM_of hxs hv fun g x u hg hx hi hu =>
    bor_sound p.lt 9 g x.1 x.2 u hx hu (fun i hi' => p.hb i (hF i (hi i hi')))
  have hatn : ∀ i c, ¬ At E0 [] i c := fun i c ha => by
    obtain ⟨cs, loc, h1, _⟩ := ha
    simp at h1
  have p1 : Pre (fun c => c < w.heap.size) w E0 Pp [] (fun _ => True) h1.length :=
    ⟨fun c hc => hc.elim (fun h => p.lt c (.inl h)) id, fun i _ cs hcs => by simp at hcs, fun i j c _ _ _ ha => absurd ha (hatn i c), fun _ _ _ _ => rfl, p.gl⟩
  refine Calls.mono (hC g _ [] v h1 lg1 us w E0 Pp _ _ hcall hlent p1 (fun _ _ => trivial)) fun en w' he => ?_
  cases en with
  | returned u =>
    obtain ⟨ρ1, Pp1, hu, st⟩ := he
    have p2 := st.after p1 (fun _ _ => trivial)
    have o := own_sound (w := w') (fun i => p2.hb i trivial) 9 v h.length _ u hown hu
    simp only at o
    let ρ' : Map := fun i n => if h.length ≤ i ∧ i < h.length + bl.length then (match vis[i - h.length]?, bl[i - h.length]? with | some x, some cs => if n = cs.length then some (loc1 ρ1 x) else none | _, _ => none) else ρ i n
    have hin : ∀ (k : Nat) (x : Nat × Nat × Nat) (cs : List GV) (n : Nat), vis[k]? = some x → bl[k]? = some cs → ρ' (h.length + k) n = if n = cs.length then some (loc1 ρ1 x) else none := by
      intro k x cs n e1 e2
      have hk := (List.getElem?_eq_some_iff.1 e2).1
      show (if h.length ≤ h.length + k ∧ h.length + k < h.length + bl.length then _ else _) = _
      rw [if_pos ⟨by omega, by omega⟩, Nat.add_sub_cancel_left, e1, e2]
    have hout : ∀ i n, ¬(h.length ≤ i ∧ i < h.length + bl.length) → ρ' i n = ρ i n := fun i n hi => if_neg hi
    obtain ⟨t, bb⟩ := o.to ρ' Pp1 Pt (fun _ h => h) (fun k x cs e1 e2 => by rw [hin k x cs _ e1 e2, if_pos rfl])
    -- where the blocks lie
    have far : ∀ (k : Nat) (x : Nat × Nat × Nat), vis[k]? = some x → w.heap.size ≤ (loc1 ρ1 x).1 ∧ ¬ Pp1 (loc1 ρ1 x).1 ∧ At ρ1 h1 x.1 (loc1 ρ1 x).1 := by
      intro k x e1
      obtain ⟨cs, l, h2, h3⟩ := o.at_ x (List.mem_of_getElem? e1)
      have h4 := cells_at h2 (p2.hb x.1 trivial) (c := l.1) (sh := l.2) h3
      have h5 : (loc1 ρ1 x).1 = l.1 := by simp only [loc1, h3]
      have h6 := cellsAt_eq h2
      rw [h5]
      exact ⟨Nat.le_of_not_lt h4.2.2, h4.2.1, cs, l, h6.1, by rw [h6.2]; exact h3, rfl⟩
    have newAt : ∀ (i : Nat) (cs : List GV), (h ++ bl)[i]? = some cs → h.length ≤ i → ∃ (k : Nat) (x : Nat × Nat × Nat), i = h.length + k ∧ vis[k]? = some x ∧ bl[k]? = some cs := by
      intro i cs e hi
      rw [List.getElem?_append_right hi] at e
      have hk := (List.getElem?_eq_some_iff.1 e).1
      refine ⟨i - h.length, vis[i - h.length]'(by rw [o.len]; exact hk), by omega, List.getElem?_eq_getElem _, e⟩
    have atNew : ∀ i c, h.length ≤ i → At ρ' (h ++ bl) i c → ∃ (k : Nat) (x : Nat × Nat × Nat), i = h.length + k ∧ vis[k]? = some x ∧ c = (loc1 ρ1 x).1 ∧ c < w'.heap.size := by
      intro i c hi ⟨cs, loc, e1, e2, e3⟩
      obtain ⟨k, x, rfl, e4, e5⟩ := newAt i cs e1 hi
      rw [hin k x cs _ e4 e5, if_pos rfl] at e2
      cases e2
      exact ⟨k, x, rfl, e4, e3.symm, by rw [← e3]; exact BR_lt (bb k x cs e4 e5)⟩
    refine ⟨ρ', Pp1, t, ?_⟩
    refine ⟨st.os, st.tape, st.output, st.size, ⟨st.keep.rsz, fun i n loc hi => ?_, st.keep.pp⟩, fun c hc _ => st.kept c hc (fun i _ => hatn i c), st.ppnew, fun i n hi => hout i n ?_, by simp, fun i hi _ => by rw [List.getElem?_append_left hi], fun i hi => ?_, fun i c hi ha => ?_, fun i j c hi hj hne ha hb' => ?_⟩
    · by_cases hr : h.length ≤ i ∧ i < h.length + bl.length
      · rw [p.nw i n hr.1 (by simpa using hr.2)] at hi
        cases hi
      · rw [hout i n hr]; exact hi
    · simp only [List.length_append] at hi
      rcases hi with hi | hi <;> omega
    · rcases hi with hi | hi
      · exact absurd hi (by simp)
      · intro cs hcs
        obtain ⟨k, x, rfl, e1, e2⟩ := newAt i cs hcs hi.1
        refine ⟨⟨loc1 ρ1 x, by rw [hin k x cs _ e1 e2, if_pos rfl], bb k x cs e1 e2, (far k x e1).2.1, fun hp => ?_⟩, fun m hm => by rw [hin k x cs _ e1 e2, if_neg (by omega)]⟩
        have := p.lt _ (.inr hp)
        have := (far k x e1).1
        omega
    · rcases hi with hi | hi
      · exact absurd hi (by simp)
      · obtain ⟨k, x, rfl, e1, rfl, e3⟩ := atNew i c hi.1 ha
        exact .inl ⟨(far k x e1).1, e3⟩
    · have hi' := (hi.resolve_right (by simp)).1
      have hj' := (hj.resolve_right (by simp)).1
      obtain ⟨k, x, rfl, e1, e2, e3⟩ := atNew i c hi' ha
      obtain ⟨l, y, rfl, f1, f2, f3⟩ := atNew j c hj' hb'
      have hxy : x.1 ≠ y.1 := by
        have g1 : (vis.map (·.1))[k]? = some x.1 := by simp [e1]
        have g2 : (vis.map (·.1))[l]? = some y.1 := by simp [f1]
        rcases Nat.lt_or_gt_of_ne (show k ≠ l by omega) with hkl | hkl
        · exact nodupB_ne hnd hkl g1 g2
        · exact fun e => nodupB_ne hnd hkl g2 g1 e.symm
      exact absurd (f2 ▸ (far l y f1).2.2) (p2.inj x.1 y.1 c trivial trivial hxy (e2 ▸ (far k x e1).2.2))
  | _ => exact he.elim

theorem gcallee_sound (hC : CSound P call) (hX : XSound P C) {g : FuncId} {args : List GV} {v : GV} {h' : Heap} {lg : Lg} {us : List Value} (e : gcallee P C call g args h = some (v, h', lg)) (hv : VRs w ρ Pp args Pt us)
    (p : Pre Pt w ρ Pp h F h'.length) (hF : ∀ i, i ∈ lg.r ∨ i ∈ lg.w → F i) :
    (∃ fn, P.funcs[g]? = some fn ∧ fn.body.isSome = true) ∧ Calls P g us.toArray w fun | .returned u, w' => After Pt w ρ Pp h lg h' v u w' | _, _ => False := by
  unfold gcallee at e
  split at e
  · cases e
  · rename_i fn hfn
    split at e
    · rename_i hbody
      refine ⟨⟨fn, hfn, hbody⟩, ?_⟩
      split at e
      · rename_i ex hex
        simp only [Option.bind_eq_bind, Option.bind_eq_some_iff, Option.some.injEq, Prod.mk.injEq] at e
        obtain ⟨xs, hxs, v', hv', rfl, rfl, rfl⟩ := e
        have hlent : VRs w E0 Pp (xs.map (·.1)) (fun c => c < w.heap.size) us := VRs_mapM_of hxs hv fun g x u hg hx hi hu =>
          bor_sound p.lt 9 g x.1 x.2 u hx hu (fun i hi' => p.hb i (hF i (.inl (hi i hi'))))
        refine Calls.mono (hX g ex _ v' us w Pp _ hex hv' hlent (fun c hc => hc.elim (fun h => p.lt c (.inl h)) id) p.gl) fun en w' he => ?_
        cases en with
        | returned u =>
          obtain ⟨h1, h2⟩ := he
          refine ⟨ρ, fun c => Pp c ∨ (w.heap.size ≤ c ∧ c < w'.heap.size), VR_mono (w := w') ((⟨fun _ _ h => h, fun _ _ _ h => by simp [E0] at h, fun _ h => .inr h⟩ : Keep w' E0 (fun c => w.heap.size ≤ c ∧ c < w'.heap.size) w' ρ (fun c => Pp c ∨ (w.heap.size ≤ c ∧ c < w'.heap.size)))) _ _ _ _ (fun _ h => h.elim) (fun _ _ => rfl) h1, ?_⟩
          refine ⟨h2.os, h2.tape, h2.output, h2.size, ⟨fun c R hc => ?_, fun _ _ _ h => h, fun _ h => .inl h⟩, fun c hc _ => h2.block c hc, fun _ h => h, fun _ _ _ => rfl, Nat.le_refl _, fun _ _ _ => rfl, fun i hi => ?_, fun i c hi => ?_, fun i j c hi => ?_⟩
          · have hlt : c < w.heap.size := by
              unfold rsz at hc
              split at hc
              · rename_i he; exact (Array.getElem?_eq_some_iff.1 he).1
              · cases hc
            unfold rsz at hc ⊢
            rw [h2.block c hlt]
            exact hc
          · rcases hi with hi | hi
            · exact absurd hi (by simp)
            · omega
          · rcases hi with hi | hi
            · exact absurd hi (by simp)
            · omega
          · rcases hi with hi | hi
            · omega
            · exact absurd hi (by simp)
        | _ => exact he.elim
      · split at e
        · split at e
          · rename_i hsp
            split at e
            · rename_i hgs
              simp only [Option.some.injEq, Prod.mk.injEq] at e
              obtain ⟨rfl, rfl, rfl⟩ := e
              simp only [Bool.and_eq_true] at hsp
              exact split_sound hC [] hgs hsp.2 hv p.lt p.gl
            · cases e
          · exact hC g args h v h' lg us w ρ Pp Pt F e hv p hF
        · split at e
          · simp only [Option.bind_eq_bind, Option.bind_eq_some_iff] at e
            obtain ⟨xs, hxs, e⟩ := e
            split at e
            · rename_i hsp
              split at e
              · rename_i hgs
                simp only [Option.some.injEq, Prod.mk.injEq] at e
                obtain ⟨rfl, rfl, rfl⟩ := e
                simp only [Bool.and_eq_true] at hsp
                have hlent : VRs w E0 Pp (xs.map (·.1)) (fun c => c < w.heap.size) us := VRs_mapM_of hxs hv fun g x u hg hx hi hu =>
                  bor_sound p.lt 9 g x.1 x.2 u hx hu (fun i hi' => p.hb i (hF i (.inl (hi i hi'))))
                exact split_sound hC _ hgs hsp.2 hlent p.lt p.gl
              · cases e
            simp only [Option.bind_eq_some_iff] at e
            obtain ⟨⟨v1, h1, lg1⟩, hcall, ⟨v2, vis, bl⟩, hown, e⟩ := e
            split at e
            · rename_i hnd
              simp only [Option.some.injEq, Prod.mk.injEq] at e
              obtain ⟨rfl, rfl, rfl⟩ := e
              exact fresh_sound hC hxs hcall hown hnd hv p (fun i hi => hF i (.inl hi))
            · cases e
          simp only [Option.bind_eq_bind, Option.bind_eq_some_iff] at e
          obtain ⟨xs, hxs, ⟨v1, h1, lg1⟩, hcall, ⟨v2, r2⟩, hfrz, e⟩ := e
          simp only [Option.some.injEq, Prod.mk.injEq] at e
          obtain ⟨rfl, rfl, rfl⟩ := e
          have hlent : VRs w E0 Pp (xs.map (·.1)) (fun c => c < w.heap.size) us := VRs_mapM_of hxs hv fun g x u hg hx hi hu =>
            bor_sound p.lt 9 g x.1 x.2 u hx hu (fun i hi' => p.hb i (hF i (.inl (hi i hi'))))
          have hbn : ∀ i, HB w E0 Pp (fun c => c < w.heap.size) [] i := fun i cs hcs => by simp at hcs
          have hatn : ∀ i c, ¬ At E0 [] i c := fun i c ha => by
            obtain ⟨cs, loc, h1, _⟩ := ha
            simp at h1
          have p1 : Pre (fun c => c < w.heap.size) w E0 Pp [] (fun _ => True) h1.length :=
            ⟨fun c hc => hc.elim (fun h => p.lt c (.inl h)) id, fun i _ => hbn i, fun i j c _ _ _ ha => absurd ha (hatn i c), fun _ _ _ _ => rfl, p.gl⟩
          refine Calls.mono (hC g _ [] v1 h1 lg1 us w E0 Pp _ _ hcall hlent p1 (fun _ _ => trivial)) fun en w' he => ?_
          cases en with
          | returned u =>
            obtain ⟨ρ', Pp', hu, st⟩ := he
            have p2 := st.after p1 (fun _ _ => trivial)
            have hnew : ∀ i c, At ρ' h1 i c → w.heap.size ≤ c := fun i c ha => by
              rcases st.fresh i c (.inr ⟨by simp, ha.bound⟩) ha with h | h
              · exact h.1
              · exact absurd h (hatn i c)
            have hz := frz_sound (B := w.heap.size) (fun i => p2.hb i trivial) hnew 9 v1 v2 r2 u (fun _ => False) hfrz hu
            have hpp : ∀ c, (Pp' c ∨ (w.heap.size ≤ c ∧ c < w'.heap.size)) → Pp c ∨ (w.heap.size ≤ c ∧ c < w'.heap.size) := fun c hc => hc.elim (fun h => st.ppnew c h) .inr
            refine ⟨ρ, fun c => Pp' c ∨ (w.heap.size ≤ c ∧ c < w'.heap.size), ?_, ?_⟩
            · exact VR_mono (w := w') ((Keep.refl w' ρ _).e0 ρ) _ _ _ _ (fun _ h => h.elim) (fun _ _ => rfl) hz
            · refine ⟨st.os, st.tape, st.output, st.size, ⟨st.keep.rsz, fun _ _ _ h => h, fun c hc => .inl (st.keep.pp c hc)⟩, fun c hc _ => st.kept c hc (fun i _ => hatn i c), hpp, fun _ _ _ => rfl, Nat.le_refl _, fun _ _ _ => rfl, fun i hi => ?_, fun i c hi => ?_, fun i j c hi => ?_⟩
              · rcases hi with hi | hi
                · exact absurd hi (by simp)
                · omega
              · rcases hi with hi | hi
                · exact absurd hi (by simp)
                · omega
              · rcases hi with hi | hi
                · omega
                · exact absurd hi (by simp)
          | _ => exact he.elim
    · cases e

theorem op_call (hN : NameOk P) (hC : CSound P call) (hX : XSound P C) {c : Call} {f : Operand} {v : GV} {h' : Heap} {lg : Lg} (ho : o.op = .call c) (hc : c.callee = .value f) (hf : EV w ρ Pp Pt σ a f) (hx : ∀ x, x ∈ c.args.toList → EV w ρ Pp Pt σ a x)
    (e : gop P C call (eval σ) o h = some (v, h', lg)) (p : Pre Pt w ρ Pp h F h'.length) (hF : ∀ i, i ∈ lg.r ∨ i ∈ lg.w → F i) : OpTo P o a w (After Pt w ρ Pp h lg h' v) := by
  simp only [gop, ho, hc, Option.bind_eq_bind, Option.bind_eq_some_iff] at e
  obtain ⟨g0, hg0, e⟩ := e
  split at e
  · rename_i g caps
    simp only [Option.bind_eq_some_iff] at e
    obtain ⟨args, hargs, e⟩ := e
    obtain ⟨us, hfv, hcaps⟩ := hf _ hg0
    have hv := VRs_append (VRs_mapM hargs hx) hcaps
    obtain ⟨⟨fn, hfn, hbody⟩, hcalls⟩ := gcallee_sound hC hX e hv p hF
    have he : (execOp a.eval o).run P w = .ok (.enter g (c.args.toList.map a.eval ++ us.toList).toArray) w := by
      have hnb : fn.body.isNone = false := by
        cases hb : fn.body with
        | none => rw [hb] at hbody; cases hbody
        | some _ => rfl
      have hargs2 : ((#[] : Array Value) ++ c.args.map a.eval) ++ us = (c.args.toList.map a.eval ++ us.toList).toArray := by
        apply Array.toList_inj.1
        simp
      simp only [execOp, ho, resolve, hc, hfv, Deferred.ofValue, pure_bind, invoke, callFunc, Sem.run_bind, run_program, Result.andThen_ok, hfn, hN g fn hfn, hnb, Bool.false_eq_true, if_false, Sem.run_pure]
      rw [hargs2]
    intro K Q hk
    unfold Oper.wp
    rw [he]
    refine Calls.mono hcalls fun en w' hen => ?_
    cases en with
    | returned u => exact hk u w' hen
    | _ => exact hen.elim
  · cases e
end

end Go.Proofs.YtklhdbkaejbajaaDoor.G

namespace Go.Proofs.YtklhdbkaejbajaaDoor.G
open Go.RowKit
set_option linter.unusedVariables false
set_option linter.unusedSimpArgs false

section
variable {P : Program} {Pt Pp : Nat → Prop} {w : World} {ρ : Map} {h : Heap} {a : Act} {o : Oper} {σ : GS} {C : Cfg} {call : GCall} {F : Nat → Prop} {N : Nat}

theorem op_sound (hN : NameOk P) (hC : CSound P call) (hX : XSound P C) {v : GV} {h' : Heap} {lg : Lg} (e : gop P C call (eval σ) o h = some (v, h', lg)) (hev : ∀ x, x ∈ o.op.operands.toList → EV w ρ Pp Pt σ a x)
    (p : Pre Pt w ρ Pp h F h'.length) (hF : ∀ i, i ∈ lg.r ∨ i ∈ lg.w → F i) : OpTo P o a w (After Pt w ρ Pp h lg h' v) := by
  cases ho : o.op with
  | move x => exact op_move ho (hev x (by simp [ho, Op.operands])) e
  | assign x => exact op_assign ho (hev x (by simp [ho, Op.operands])) e
  | pick c x y => exact op_pick ho (hev c (by simp [ho, Op.operands])) (hev x (by simp [ho, Op.operands])) (hev y (by simp [ho, Op.operands])) e
  | alloc t => exact op_alloc ho e p
  | box t x => exact op_box ho (hev x (by simp [ho, Op.operands])) e p
  | build t ps => exact op_build ho (fun q hq => hev q.2 (by simp only [ho, Op.operands]; simp only [List.mem_map]; exact ⟨q, hq, rfl⟩)) e
  | buildSlice t n ps => exact op_buildSlice ho (fun q hq => hev q.2 (by simp only [ho, Op.operands]; simp only [List.mem_map]; exact ⟨q, hq, rfl⟩)) e p
  | load t x => exact op_load ho (hev x (by simp [ho, Op.operands])) e (fun i hi => p.hb i (hF i (.inl hi)))
  | store t x y => exact op_store ho (hev x (by simp [ho, Op.operands])) (hev y (by simp [ho, Op.operands])) e p (fun i hi => hF i (.inr hi))
  | nilCheck x => exact op_nilCheck ho (hev x (by simp [ho, Op.operands])) e
  | binOp b t x y t' => exact op_binOp ho (hev x (by simp [ho, Op.operands])) (hev y (by simp [ho, Op.operands])) e
  | unOp b t x => exact op_unOp ho (hev x (by simp [ho, Op.operands])) e
  | convert s d x => exact op_convert ho (hev x (by simp [ho, Op.operands])) e p (fun i hi => hF i (.inl hi))
  | makeInterface t x => exact op_makeInterface ho e
  | makeFunc f first caps =>
    cases f with
    | func f => exact op_makeFunc ho (fun x hx => hev x (by simp only [ho, Op.operands]; simp; exact .inr (by simpa using hx))) e
    | _ => simp only [gop, ho] at e; cases e
  | makeSlice t x y => exact op_makeSlice ho (hev x (by simp [ho, Op.operands])) (hev y (by simp [ho, Op.operands])) e p
  | slice t x lo hi mx =>
    exact op_slice ho (hev x (by simp [ho, Op.operands])) (fun y hy => hev y (by subst hy; simp [ho, Op.operands])) (fun y hy => hev y (by subst hy; simp [ho, Op.operands])) (fun y hy => hev y (by subst hy; simp [ho, Op.operands])) e
  | fieldAddr t x f => exact op_fieldAddr ho (hev x (by simp [ho, Op.operands])) e
  | field t x f => exact op_field ho (hev x (by simp [ho, Op.operands])) e
  | indexAddr t x y => exact op_indexAddr ho (hev x (by simp [ho, Op.operands])) (hev y (by simp [ho, Op.operands])) e
  | index t x y => exact op_index ho (hev x (by simp [ho, Op.operands])) (hev y (by simp [ho, Op.operands])) e
  | extract x i => exact op_extract ho (hev x (by simp [ho, Op.operands])) e
  | call c =>
    have hargs : ∀ x, x ∈ c.args.toList → EV w ρ Pp Pt σ a x := fun x hx => hev x (by
      simp only [ho, Op.operands, Call.operands]
      cases c.callee <;> simp_all)
    cases hc : c.callee with
    | builtin b =>
      by_cases hb : b = .append ∨ b = .copy ∨ b = .clear
      · exact op_append ho hc hb hargs e p hF
      · refine op_quiet ho hc ?_ hargs e
        cases b <;> first
          | (simp at hb; done)
          | (simp; done)
          | (simp only [gop, ho, hc, Option.bind_eq_bind, Option.bind_eq_some_iff, gbuiltin] at e
             obtain ⟨_, _, e⟩ := e
             cases e)
    | value f =>
      refine op_call hN hC hX ho hc (hev f ?_) hargs e p hF
      simp [ho, Op.operands, Call.operands, hc]
    | invoke r m => simp only [gop, ho, hc] at e; cases e
  | _ => simp only [gop, ho] at e; cases e
end

end Go.Proofs.YtklhdbkaejbajaaDoor.G

namespace Go.Proofs.YtklhdbkaejbajaaDoor.G
open Go.RowKit
set_option linter.unusedVariables false
set_option linter.unusedSimpArgs false

/-- Blocks that are not written stay. -/
structure FR (h : Heap) (lg : Lg) (h' : Heap) : Prop where
  len : h.length ≤ h'.length
  keep : ∀ i, i < h.length → i ∉ lg.w → h'[i]? = h[i]?

theorem FR.same (h : Heap) (lg : Lg) : FR h lg h := ⟨Nat.le_refl _, fun _ _ _ => rfl⟩
theorem FR.app (h : Heap) (lg : Lg) (cs : List GV) : FR h lg (h ++ [cs]) := ⟨by simp, fun i hi _ => by rw [List.getElem?_append_left hi]⟩
theorem FR.apps (h : Heap) (lg : Lg) (bl : List (List GV)) : FR h lg (h ++ bl) := ⟨by simp, fun i hi _ => by rw [List.getElem?_append_left hi]⟩
theorem FR.set {h : Heap} {lg : Lg} {i : Nat} (hi : i ∈ lg.w) (cs : List GV) : FR h lg (h.set i cs) := ⟨by simp, fun k _ hk => by rw [List.getElem?_set_ne (by rintro rfl; exact hk hi)]⟩
theorem FR.trans {h h1 h2 : Heap} {a b : Lg} (x : FR h a h1) (y : FR h1 b h2) : FR h (a.add b) h2 :=
  ⟨Nat.le_trans x.len y.len, fun i hi hn => by
    have h1 : i ∉ a.w := fun e => hn (by simp [Lg.add, e])
    have h2 : i ∉ b.w := fun e => hn (by simp [Lg.add, e])
    rw [y.keep i (Nat.lt_of_lt_of_le hi x.len) h2, x.keep i hi h1]⟩
theorem FR.more {h h' : Heap} {a : Lg} (x : FR h a h') (r : List Nat) : FR h (a.add ⟨r, []⟩) h' := x.trans (FR.same _ _)

def CFrame (call : GCall) : Prop := ∀ f args h v h' lg, call f args h = some (v, h', lg) → FR h lg h'

section
variable {P : Program} {h h' : Heap} {lg : Lg} {v : GV} {ev : Operand → Option GV} {o : Oper} {C : Cfg} {call : GCall}

theorem gcallee_frame (hC : CFrame call) {g : FuncId} {args : List GV} (e : gcallee P C call g args h = some (v, h', lg)) : FR h lg h' := by
  unfold gcallee at e
  split at e
  · cases e
  · split at e
    · split at e
      · simp only [Option.bind_eq_bind, Option.bind_eq_some_iff, Option.some.injEq, Prod.mk.injEq] at e
        obtain ⟨_, _, _, _, _, rfl, rfl⟩ := e
        exact FR.same _ _
      · split at e
        · split at e
          · split at e
            · simp only [Option.some.injEq, Prod.mk.injEq] at e
              obtain ⟨_, rfl, rfl⟩ := e
              exact FR.same _ _
            · cases e
          · exact hC _ _ _ _ _ _ e
        · split at e
          · simp only [Option.bind_eq_bind, Option.bind_eq_some_iff] at e
            obtain ⟨_, _, e⟩ := e
            split at e
            · split at e
              · simp only [Option.some.injEq, Prod.mk.injEq] at e
                obtain ⟨_, rfl, rfl⟩ := e
                exact FR.same _ _
              · cases e
            simp only [Option.bind_eq_some_iff] at e
            obtain ⟨⟨_, _, _⟩, _, ⟨_, _, _⟩, _, e⟩ := e
            split at e
            · simp only [Option.some.injEq, Prod.mk.injEq] at e
              obtain ⟨_, rfl, rfl⟩ := e
              exact FR.apps _ _ _
            · cases e
          simp only [Option.bind_eq_bind, Option.bind_eq_some_iff, Option.some.injEq, Prod.mk.injEq] at e
          obtain ⟨_, _, ⟨_, _, _⟩, _, ⟨_, _⟩, _, _, rfl, rfl⟩ := e
          exact FR.same _ _
    · cases e

theorem gappz_frame {t : TypeId} {s x : GV} (e : gappz P h t s x = some (v, h', lg)) : FR h lg h' := by
  unfold gappz at e
  simp only [Option.bind_eq_bind, Option.bind_eq_some_iff] at e
  obtain ⟨dd, hu, e⟩ := e
  split at e
  · simp only [Option.bind_eq_some_iff] at e
    obtain ⟨info, hi, z, hz, e⟩ := e
    split at e
    · split at e
      · split at e <;> (simp only [Option.some.injEq, Prod.mk.injEq] at e; obtain ⟨rfl, rfl, rfl⟩ := e; first | exact FR.same _ _ | exact FR.app _ _ _)
      · cases e
    · cases e
  · cases e

theorem gappend_frame {t : TypeId} {s x : GV} (e : gappend P h t s x = some (v, h', lg)) : FR h lg h' := by
  unfold gappend at e
  simp only [Option.bind_eq_bind, Option.bind_eq_some_iff] at e
  obtain ⟨dd, hu, e⟩ := e
  split at e
  · simp only [Option.bind_eq_some_iff] at e
    obtain ⟨info, hi, ⟨n, new, r⟩, hc, z, hz, e⟩ := e
    split at e
    · split at e
      · split at e <;> (simp only [Option.some.injEq, Prod.mk.injEq] at e; obtain ⟨rfl, rfl, rfl⟩ := e; first | exact FR.same _ _ | exact FR.app _ _ _)
      · split at e <;> (simp only [Option.some.injEq, Prod.mk.injEq] at e; obtain ⟨rfl, rfl, rfl⟩ := e; first | exact FR.same _ _ | exact FR.app _ _ _)
      · simp only [Option.bind_eq_some_iff] at e
        obtain ⟨cs, hcs, e⟩ := e
        split at e
        · split at e
          · simp only [Option.some.injEq, Prod.mk.injEq] at e
            obtain ⟨rfl, rfl, rfl⟩ := e
            exact FR.set (by simp) _
          · split at e
            · simp only [Option.some.injEq, Prod.mk.injEq] at e
              obtain ⟨rfl, rfl, rfl⟩ := e
              exact FR.set (by simp) _
            · cases e
        · cases e
      · cases e
    · cases e
  · cases e

theorem gcopy_frame {t : TypeId} {s x : GV} (e : gcopy P h t s x = some (v, h', lg)) : FR h lg h' := by
  unfold gcopy at e
  simp only [Option.bind_eq_bind, Option.bind_eq_some_iff] at e
  obtain ⟨dd, hu, e⟩ := e
  split at e
  · simp only [Option.bind_eq_some_iff] at e
    obtain ⟨es, hi, ⟨n, new, r⟩, hc, e⟩ := e
    split at e
    · split at e
      · simp only [Option.some.injEq, Prod.mk.injEq] at e; obtain ⟨rfl, rfl, rfl⟩ := e; exact FR.same _ _
      · simp only [Option.some.injEq, Prod.mk.injEq] at e; obtain ⟨rfl, rfl, rfl⟩ := e; exact FR.same _ _
      · simp only [Option.bind_eq_some_iff] at e
        obtain ⟨cs, hcs, e⟩ := e
        split at e
        · simp only [Option.some.injEq, Prod.mk.injEq] at e
          obtain ⟨rfl, rfl, rfl⟩ := e
          exact FR.set (by simp) _
        · cases e
      · cases e
    · cases e
  · cases e

theorem gclear_frame {t : TypeId} {s : GV} (e : gclear P h t s = some (v, h', lg)) : FR h lg h' := by
  unfold gclear at e
  simp only [Option.bind_eq_bind, Option.bind_eq_some_iff] at e
  obtain ⟨dd, hu, e⟩ := e
  split at e
  · simp only [Option.bind_eq_some_iff] at e
    obtain ⟨z, hi, e⟩ := e
    split at e
    · simp only [Option.some.injEq, Prod.mk.injEq] at e; obtain ⟨rfl, rfl, rfl⟩ := e; exact FR.same _ _
    · simp only [Option.some.injEq, Prod.mk.injEq] at e; obtain ⟨rfl, rfl, rfl⟩ := e; exact FR.same _ _
    · simp only [Option.bind_eq_some_iff] at e
      obtain ⟨cs, hcs, e⟩ := e
      split at e
      · simp only [Option.some.injEq, Prod.mk.injEq] at e
        obtain ⟨rfl, rfl, rfl⟩ := e
        exact FR.set (by simp) _
      · cases e
    · cases e
  · cases e

theorem gbuiltin_frame {b : Builtin} {ts : Array TypeId} {args : List GV} (e : gbuiltin P b ts args h = some (v, h', lg)) : FR h lg h' := by
  unfold gbuiltin at e
  split at e
  · simp only [Option.bind_eq_bind, Option.bind_eq_some_iff] at e
    obtain ⟨t, ht, e⟩ := e
    split at e
    · simp only [Option.some.injEq, Prod.mk.injEq] at e; obtain ⟨rfl, rfl, rfl⟩ := e; exact FR.same _ _
    · split at e
      · cases e
      · simp only [Option.bind_eq_some_iff, Option.some.injEq, Prod.mk.injEq] at e
        obtain ⟨_, _, rfl, rfl, rfl⟩ := e
        exact FR.same _ _
    · simp only [Option.some.injEq, Prod.mk.injEq] at e; obtain ⟨rfl, rfl, rfl⟩ := e; exact FR.same _ _
    · cases e
  · simp only [Option.bind_eq_bind, Option.bind_eq_some_iff] at e
    obtain ⟨t, ht, e⟩ := e
    split at e
    · simp only [Option.some.injEq, Prod.mk.injEq] at e; obtain ⟨rfl, rfl, rfl⟩ := e; exact FR.same _ _
    · simp only [Option.some.injEq, Prod.mk.injEq] at e; obtain ⟨rfl, rfl, rfl⟩ := e; exact FR.same _ _
    · cases e
  · simp only [Option.bind_eq_bind, Option.bind_eq_some_iff, Option.some.injEq, Prod.mk.injEq] at e
    obtain ⟨_, _, _, rfl, rfl⟩ := e
    exact FR.same _ _
  · simp only [Option.bind_eq_bind, Option.bind_eq_some_iff, Option.some.injEq, Prod.mk.injEq] at e
    obtain ⟨_, _, _, rfl, rfl⟩ := e
    exact FR.same _ _
  · simp only [Option.bind_eq_bind, Option.bind_eq_some_iff] at e
    obtain ⟨t, ht, t', ht', e⟩ := e
    split at e
    · exact gappz_frame e
    · exact gappend_frame e
    · cases e
  · simp only [Option.bind_eq_bind, Option.bind_eq_some_iff] at e
    obtain ⟨t, ht, e⟩ := e
    exact gcopy_frame e
  · simp only [Option.bind_eq_bind, Option.bind_eq_some_iff] at e
    obtain ⟨t, ht, e⟩ := e
    exact gclear_frame e
  · cases e

theorem gconvert_frame {s d : TypeId} {x : GV} (e : gconvert P s d x h = some (v, h', lg)) : FR h lg h' := by
  unfold gconvert at e
  split at e
  · simp only [Option.some.injEq, Prod.mk.injEq] at e; obtain ⟨rfl, rfl, rfl⟩ := e; exact FR.same _ _
  · simp only [Option.some.injEq, Prod.mk.injEq] at e; obtain ⟨rfl, rfl, rfl⟩ := e; exact FR.same _ _
  · split at e
    · simp only [Option.some.injEq, Prod.mk.injEq] at e; obtain ⟨rfl, rfl, rfl⟩ := e; exact FR.app _ _ _
    · cases e
  · split at e
    · split at e
      · cases e
      · cases e
      · simp only [Option.bind_eq_bind, Option.bind_eq_some_iff] at e
        obtain ⟨⟨n, cs, r⟩, hc, ns, hns, e⟩ := e
        split at e
        · simp only [Option.some.injEq, Prod.mk.injEq] at e; obtain ⟨rfl, rfl, rfl⟩ := e; exact FR.same _ _
        · cases e
    · cases e
  · cases e

theorem gstore_frame {t : TypeId} {a x : GV} {i : Nat} (e : gstore P h t a x = some (h', i)) : FR h ⟨[], [i]⟩ h' := by
  unfold gstore at e
  simp only [Option.bind_eq_bind, Option.bind_eq_some_iff] at e
  obtain ⟨n, hn, e⟩ := e
  split at e
  · split at e
    · simp only [Option.bind_eq_some_iff] at e
      obtain ⟨cs, hcs, e⟩ := e
      split at e
      · simp only [Option.some.injEq, Prod.mk.injEq] at e
        obtain ⟨rfl, rfl⟩ := e
        exact FR.set (by simp) _
      · cases e
    · cases e
  · cases e

theorem gop_frame (hC : CFrame call) (e : gop P C call ev o h = some (v, h', lg)) : FR h lg h' := by
  unfold gop at e
  split at e
  · simp only [Option.bind_eq_bind, Option.bind_eq_some_iff, Option.some.injEq, Prod.mk.injEq] at e
    obtain ⟨_, _, _, rfl, rfl⟩ := e; exact FR.same _ _
  · simp only [Option.bind_eq_bind, Option.bind_eq_some_iff, Option.some.injEq, Prod.mk.injEq] at e
    obtain ⟨_, _, _, rfl, rfl⟩ := e; exact FR.same _ _
  · simp only [Option.bind_eq_bind, Option.bind_eq_some_iff] at e
    obtain ⟨_, _, e⟩ := e
    split at e
    · simp only [Option.bind_eq_some_iff, Option.some.injEq, Prod.mk.injEq] at e
      obtain ⟨_, _, _, _, _, rfl, rfl⟩ := e; exact FR.same _ _
    · cases e
  · simp only [Option.bind_eq_bind, Option.bind_eq_some_iff, Option.some.injEq, Prod.mk.injEq] at e
    obtain ⟨_, _, _, rfl, rfl⟩ := e; exact FR.app _ _ _
  · simp only [Option.bind_eq_bind, Option.bind_eq_some_iff, Option.some.injEq, Prod.mk.injEq] at e
    obtain ⟨_, _, _, rfl, rfl⟩ := e; exact FR.app _ _ _
  · simp only [Option.bind_eq_bind, Option.bind_eq_some_iff] at e
    obtain ⟨_, _, _, _, e⟩ := e
    split at e
    · simp only [Option.bind_eq_some_iff, Option.some.injEq, Prod.mk.injEq] at e
      obtain ⟨_, _, _, _, _, rfl, rfl⟩ := e; exact FR.same _ _
    · simp only [Option.bind_eq_some_iff, Option.some.injEq, Prod.mk.injEq] at e
      obtain ⟨_, _, _, _, _, rfl, rfl⟩ := e; exact FR.same _ _
    · cases e
  · simp only [Option.bind_eq_bind, Option.bind_eq_some_iff] at e
    obtain ⟨_, _, e⟩ := e
    split at e
    · simp only [Option.bind_eq_some_iff] at e
      obtain ⟨_, _, _, _, _, _, e⟩ := e
      split at e
      · simp only [Option.bind_eq_some_iff] at e
        obtain ⟨_, _, e⟩ := e
        split at e
        · simp only [Option.some.injEq, Prod.mk.injEq] at e
          obtain ⟨_, rfl, rfl⟩ := e; exact FR.same _ _
        · simp only [Option.some.injEq, Prod.mk.injEq] at e
          obtain ⟨_, rfl, rfl⟩ := e; exact FR.app _ _ _
      · cases e
    · cases e
  · simp only [Option.bind_eq_bind, Option.bind_eq_some_iff, Option.some.injEq, Prod.mk.injEq] at e
    obtain ⟨_, _, ⟨_, _⟩, _, _, rfl, rfl⟩ := e; exact FR.same _ _
  · simp only [Option.bind_eq_bind, Option.bind_eq_some_iff, Option.some.injEq, Prod.mk.injEq] at e
    obtain ⟨_, _, _, _, ⟨_, _⟩, hs, _, rfl, rfl⟩ := e
    exact gstore_frame hs
  · simp only [Option.bind_eq_bind, Option.bind_eq_some_iff] at e
    obtain ⟨_, _, e⟩ := e
    split at e <;> first
      | (simp only [Option.some.injEq, Prod.mk.injEq] at e; obtain ⟨_, rfl, rfl⟩ := e; exact FR.same _ _)
      | cases e
  · simp only [Option.bind_eq_bind, Option.bind_eq_some_iff, Option.some.injEq, Prod.mk.injEq] at e
    obtain ⟨_, _, _, _, _, _, _, rfl, rfl⟩ := e; exact FR.same _ _
  · simp only [Option.bind_eq_bind, Option.bind_eq_some_iff] at e
    obtain ⟨_, _, e⟩ := e
    split at e <;> first
      | (simp only [Option.some.injEq, Prod.mk.injEq] at e; obtain ⟨_, rfl, rfl⟩ := e; exact FR.same _ _)
      | cases e
  · simp only [Option.bind_eq_bind, Option.bind_eq_some_iff] at e
    obtain ⟨_, _, e⟩ := e
    exact gconvert_frame e
  · simp only [Option.bind_eq_bind, Option.bind_eq_some_iff] at e
    obtain ⟨_, _, e⟩ := e
    split at e <;> first
      | (simp only [Option.some.injEq, Prod.mk.injEq] at e; obtain ⟨_, rfl, rfl⟩ := e; exact FR.same _ _)
      | cases e
  · simp only [Option.bind_eq_bind, Option.bind_eq_some_iff] at e
    obtain ⟨_, _, e⟩ := e
    split at e
    · simp only [Option.some.injEq, Prod.mk.injEq] at e; obtain ⟨_, rfl, rfl⟩ := e; exact FR.same _ _
    · cases e
  · simp only [Option.bind_eq_bind, Option.bind_eq_some_iff] at e
    obtain ⟨_, _, e⟩ := e
    split at e
    · simp only [Option.bind_eq_some_iff] at e
      obtain ⟨_, _, _, _, _, _, e⟩ := e
      split at e
      · simp only [Option.bind_eq_some_iff] at e
        obtain ⟨_, _, e⟩ := e
        split at e
        · split at e
          · simp only [Option.some.injEq, Prod.mk.injEq] at e; obtain ⟨_, rfl, rfl⟩ := e; exact FR.app _ _ _
          · cases e
        · cases e
      · cases e
    · cases e
  · simp only [Option.bind_eq_bind, Option.bind_eq_some_iff] at e
    obtain ⟨_, _, _, _, _, _, _, _, e⟩ := e
    split at e
    · simp only [Option.bind_eq_some_iff, Option.some.injEq, Prod.mk.injEq] at e
      obtain ⟨_, _, _, rfl, rfl⟩ := e; exact FR.same _ _
    · split at e
      · simp only [Option.bind_eq_some_iff, Option.some.injEq, Prod.mk.injEq] at e
        obtain ⟨_, _, _, rfl, rfl⟩ := e; exact FR.same _ _
      · cases e
    · split at e
      · simp only [Option.bind_eq_some_iff, Option.some.injEq, Prod.mk.injEq] at e
        obtain ⟨_, _, _, rfl, rfl⟩ := e; exact FR.same _ _
      · cases e
    · simp only [Option.bind_eq_some_iff, Option.some.injEq, Prod.mk.injEq] at e
      obtain ⟨_, _, _, _, _, rfl, rfl⟩ := e; exact FR.same _ _
    · simp only [Option.bind_eq_some_iff, Option.some.injEq, Prod.mk.injEq] at e
      obtain ⟨_, _, _, _, _, rfl, rfl⟩ := e; exact FR.same _ _
    · cases e
  · simp only [Option.bind_eq_bind, Option.bind_eq_some_iff] at e
    obtain ⟨_, _, e⟩ := e
    split at e
    · simp only [Option.bind_eq_some_iff] at e
      obtain ⟨_, _, _, _, e⟩ := e
      split at e
      · cases e
      · simp only [Option.bind_eq_some_iff] at e
        obtain ⟨_, _, e⟩ := e
        split at e <;> first
          | (simp only [Option.some.injEq, Prod.mk.injEq] at e; obtain ⟨_, rfl, rfl⟩ := e; exact FR.same _ _)
          | cases e
    · cases e
  · simp only [Option.bind_eq_bind, Option.bind_eq_some_iff] at e
    obtain ⟨_, _, e⟩ := e
    split at e
    · simp only [Option.bind_eq_some_iff] at e
      obtain ⟨_, _, _, _, e⟩ := e
      split at e
      · simp only [Option.bind_eq_some_iff, Option.some.injEq, Prod.mk.injEq] at e
        obtain ⟨_, _, _, rfl, rfl⟩ := e; exact FR.same _ _
      · cases e
    · cases e
  · simp only [Option.bind_eq_bind, Option.bind_eq_some_iff] at e
    obtain ⟨_, _, _, _, e⟩ := e
    split at e
    · split at e
      · split at e
        · simp only [Option.some.injEq, Prod.mk.injEq] at e; obtain ⟨_, rfl, rfl⟩ := e; exact FR.same _ _
        · cases e
      · split at e
        · simp only [Option.some.injEq, Prod.mk.injEq] at e; obtain ⟨_, rfl, rfl⟩ := e; exact FR.same _ _
        · cases e
      · cases e
    · cases e
  · simp only [Option.bind_eq_bind, Option.bind_eq_some_iff] at e
    obtain ⟨_, _, _, _, e⟩ := e
    split at e
    · split at e
      · split at e
        · split at e
          · simp only [Option.some.injEq, Prod.mk.injEq] at e; obtain ⟨_, rfl, rfl⟩ := e; exact FR.same _ _
          · cases e
        · cases e
      · simp only [Option.bind_eq_some_iff] at e
        obtain ⟨_, _, e⟩ := e
        split at e
        · simp only [Option.bind_eq_some_iff, Option.some.injEq, Prod.mk.injEq] at e
          obtain ⟨_, _, _, rfl, rfl⟩ := e; exact FR.same _ _
        · cases e
      · cases e
    · cases e
  · simp only [Option.bind_eq_bind, Option.bind_eq_some_iff] at e
    obtain ⟨_, _, e⟩ := e
    split at e
    · simp only [Option.bind_eq_some_iff, Option.some.injEq, Prod.mk.injEq] at e
      obtain ⟨_, _, _, rfl, rfl⟩ := e; exact FR.same _ _
    · cases e
  · split at e
    · simp only [Option.bind_eq_bind, Option.bind_eq_some_iff] at e
      obtain ⟨_, _, e⟩ := e
      exact gbuiltin_frame e
    · simp only [Option.bind_eq_bind, Option.bind_eq_some_iff] at e
      obtain ⟨_, _, e⟩ := e
      split at e
      · simp only [Option.bind_eq_some_iff] at e
        obtain ⟨_, _, e⟩ := e
        exact gcallee_frame hC e
      · cases e
    · cases e
  · cases e
end

end Go.Proofs.YtklhdbkaejbajaaDoor.G

namespace Go.Proofs.YtklhdbkaejbajaaDoor.G
open Go.RowKit
set_option linter.unusedVariables false
set_option linter.unusedSimpArgs false

/-- The temporaries are told. -/
structure TR (w : World) (ρ : Map) (Pp Pt : Nat → Prop) (nt : Nat) (σ : GS) (a : Act) : Prop where
  size : a.tmps.size = nt
  val : ∀ t, VR w ρ Pp (σ t) Pt (a.tmps.getD t undef)
  defers : a.defers = []

section
variable {P : Program} {Pt Pp : Nat → Prop} {w : World} {ρ : Map} {h : Heap} {a : Act} {o : Oper} {σ : GS} {C : Cfg} {call : GCall} {F : Nat → Prop} {N nt : Nat} {ops : Array Oper}

theorem eval_EV {x : Operand} (hgl : GL w Pp) (hv : ∀ t, x = .tmp t → VR w ρ Pp (σ t) Pt (a.tmps.getD t undef)) : EV w ρ Pp Pt σ a x := by
  intro g e
  cases x with
  | tmp t =>
    simp only [eval, Option.some.injEq] at e
    subst e
    exact hv t rfl
  | const v => exact VR_ofV e
  | func f =>
    simp only [eval, Option.some.injEq] at e
    subst e
    exact ⟨#[], rfl, rfl⟩
  | global k =>
    simp only [eval, Option.map_eq_some_iff] at e
    obtain ⟨cells, h1, rfl⟩ := e
    obtain ⟨A, h2, h3⟩ := (hgl.gl k cells h1).2
    exact ⟨A, h2, h3⟩

theorem VR_bool {x : GV} {b : Bool} (h : VR w ρ Pp x Pt (.bool b)) : x = .bool b := by
  cases x <;> simp [VR, VRi, undef] at h <;> first | (subst h; rfl) | skip

theorem yield_eq {j : Nat} (hv : ∀ d, (ops[j]?).bind (·.dst) = some d → VR w ρ Pp (σ d) Pt (a.tmps.getD d undef)) : yielded ops a.tmps j = gyield ops σ j := by
  unfold yielded gyield
  cases hd : (ops[j]?).bind (·.dst) with
  | none => simp
  | some d =>
    have hh := hv d hd
    simp only [Option.bind_some]
    cases ht : a.tmps[d]? with
    | none =>
      have e0 : a.tmps.getD d undef = undef := by simp [ht]
      rw [e0] at hh
      cases hs : σ d <;> rw [hs] at hh <;> simp [VR, VRi, undef] at hh ⊢
    | some v =>
      have e0 : a.tmps.getD d undef = v := by simp [ht]
      rw [e0] at hh
      cases v with
      | bool b => rw [VR_bool hh]
      | _ => cases hs : σ d <;> rw [hs] at hh <;> simp [VR, VRi, undef] at hh ⊢

theorem wanted_eq {o : Oper} (hv : ∀ j want d, o.guard = some (j, want) → (ops[j]?).bind (·.dst) = some d → VR w ρ Pp (σ d) Pt (a.tmps.getD d undef)) : Region.wanted o (yielded ops a.tmps) = Region.wanted o (gyield ops σ) := by
  unfold Region.wanted
  cases hg : o.guard with
  | none => rfl
  | some p =>
    obtain ⟨j, want⟩ := p
    simp only
    rw [yield_eq (fun d hd => hv j want d hg hd)]

theorem getD_put {dst : Option Tmp} {u : Value} {t : Nat} (hd : dstOk a.tmps.size dst = true) : (a.put dst u).tmps.getD t undef = if dst = some t then u else a.tmps.getD t undef := by
  cases dst with
  | none => simp [Act.put]
  | some d =>
    simp only [dstOk] at hd
    have hd' : d < a.tmps.size := by simpa using hd
    by_cases hdt : d = t
    · subst hdt
      simp [Act.put, hd']
    · simp only [Act.put, Option.some.injEq, hdt, if_false]
      simp [Array.getElem?_setIfInBounds, hdt]

theorem upd_eq {dst : Option Tmp} {v : GV} {t : Nat} : upd σ dst v t = if dst = some t then v else σ t := by
  cases dst with
  | none => simp [upd]
  | some d =>
    simp only [upd, Option.some.injEq]
    by_cases hdt : d = t
    · subst hdt; simp
    · have : Nat.beq t d = false := by
        cases hb : Nat.beq t d with
        | false => rfl
        | true => exact absurd (Nat.eq_of_beq_eq_true hb).symm hdt
      simp [hdt, this]

theorem put_size {dst : Option Tmp} {u : Value} : (a.put dst u).tmps.size = a.tmps.size := by
  cases dst <;> simp [Act.put]
theorem put_defers {dst : Option Tmp} {u : Value} : (a.put dst u).defers = a.defers := by
  cases dst <;> simp [Act.put]

theorem TR.put {w' : World} {ρ' : Map} {Pp' : Nat → Prop} {dst : Option Tmp} {v : GV} {u : Value} (tr : TR w ρ Pp Pt nt σ a) (hd : dstOk nt dst = true) (hv : VR w' ρ' Pp' v Pt u)
    (hm : ∀ t, VR w ρ Pp (σ t) Pt (a.tmps.getD t undef) → VR w' ρ' Pp' (σ t) Pt (a.tmps.getD t undef)) : TR w' ρ' Pp' Pt nt (upd σ dst v) (a.put dst u) := by
  refine ⟨by rw [put_size]; exact tr.size, fun t => ?_, by rw [put_defers]; exact tr.defers⟩
  rw [getD_put (by rw [tr.size]; exact hd), upd_eq]
  split
  · exact hv
  · exact hm t (tr.val t)

theorem ops_seq (hN : NameOk P) (hC : CSound P call) (hX : XSound P C) {Q : Exit → Act → World → Prop} : ∀ (l : List Nat) (σ : GS) (h : Heap) (a : Act) (w : World) (ρ : Map) (Pp : Nat → Prop) (σ' : GS) (h' : Heap) (recs : List Rec),
    gops P C call nt ops l σ h = some (σ', h', recs) → TR w ρ Pp Pt nt σ a → Pre Pt w ρ Pp h F N → h'.length ≤ N → (∀ i, i ∈ (logOf recs).r ∨ i ∈ (logOf recs).w → F i) →
    (h.length ≤ h'.length) → (CFrame call) →
    (∀ a' w' ρ' Pp', TR w' ρ' Pp' Pt nt σ' a' → Step Pt w ρ Pp h (logOf recs) w' ρ' Pp' h' → Q .normal a' w') → wpOps P ops Q l a w
  | [], σ, h, a, w, ρ, Pp, σ', h', recs, e, tr, p, hn, hF, hle, hfr, hQ => by
    simp only [gops, Option.some.injEq, Prod.mk.injEq] at e
    obtain ⟨rfl, rfl, rfl⟩ := e
    exact hQ a w ρ Pp tr (Step.none ..)
  | j :: rest, σ, h, a, w, ρ, Pp, σ', h', recs, e, tr, p, hn, hF, hle, hfr, hQ => by
    unfold gops at e
    unfold wpOps
    cases hj : ops[j]? with
    | none => rw [hj] at e; cases e
    | some o =>
      rw [hj] at e
      simp only at e ⊢
      rw [wanted_eq (σ := σ) (fun _ _ d _ _ => tr.val d)]
      split at e
      · rename_i hd
        by_cases hw : Region.wanted o (gyield ops σ) = true
        · rw [if_pos hw] at e ⊢
          simp only [Option.bind_eq_bind, Option.bind_eq_some_iff, Option.some.injEq, Prod.mk.injEq] at e
          obtain ⟨⟨v, h1, lg⟩, he, ⟨σ2, h2, recs2⟩, hr, rfl, rfl, rfl⟩ := e
          have fr := gop_frame hfr he
          have fr2 := gops_len hfr rest _ _ _ _ _ hr
          left
          refine op_sound hN hC hX he (fun x _ => eval_EV p.gl fun t _ => tr.val t) (p.less (N' := h1.length) (Nat.le_trans fr2 hn)) (fun i hi => hF i (by simp only [logOf, Lg.add]; rcases hi with hi | hi <;> simp [hi])) _ _ fun u w' ⟨ρ', Pp', hv, st⟩ => ?_
          have hFw : ∀ i, i ∈ lg.w → F i := fun i hi => hF i (by simp only [logOf, Lg.add]; simp [hi])
          refine ops_seq hN hC hX rest _ h1 _ w' ρ' Pp' σ2 h2 recs2 hr (tr.put hd hv fun t ht => st.val p hFw ht) (st.after p hFw) hn (fun i hi => hF i (by simp only [logOf, Lg.add]; rcases hi with hi | hi <;> simp [hi])) fr2 hfr fun a' w2 ρ2 P2 tr2 st2 => ?_
          exact hQ a' w2 ρ2 P2 tr2 (st.trans st2 p hFw (fun i hi => .inl (hF i (by simp only [logOf, Lg.add]; simp [hi]))))
        · rw [if_neg hw] at e ⊢
          simp only [Option.bind_eq_bind, Option.bind_eq_some_iff, Option.some.injEq, Prod.mk.injEq] at e
          obtain ⟨⟨σ2, h2, recs2⟩, hr, rfl, rfl, rfl⟩ := e
          have el : logOf (⟨j, h.length, h.length, .nil⟩ :: recs2) = logOf recs2 := by simp [logOf, Lg.add, Lg.nil]
          rw [el] at hF hQ
          exact ops_seq hN hC hX rest _ h _ w ρ Pp σ2 h2 recs2 hr (tr.put hd (by simp [VR, VRi]) fun t ht => ht) p hn hF hle hfr hQ
      · cases e
where gops_len (hfr : CFrame call) : ∀ (l : List Nat) (σ : GS) (h : Heap) (σ' : GS) (h' : Heap) (recs : List Rec), gops P C call nt ops l σ h = some (σ', h', recs) → h.length ≤ h'.length
        | [], σ, h, σ', h', recs, e => by
          simp only [gops, Option.some.injEq, Prod.mk.injEq] at e
          obtain ⟨rfl, rfl, rfl⟩ := e
          exact Nat.le_refl _
        | j :: rest, σ, h, σ', h', recs, e => by
          unfold gops at e
          cases hj : ops[j]? with
          | none => rw [hj] at e; cases e
          | some o =>
            rw [hj] at e
            simp only at e
            split at e
            · split at e
              · simp only [Option.bind_eq_bind, Option.bind_eq_some_iff, Option.some.injEq, Prod.mk.injEq] at e
                obtain ⟨⟨v, h1, lg⟩, he, ⟨σ2, h2, recs2⟩, hr, rfl, rfl, rfl⟩ := e
                exact Nat.le_trans (gop_frame hfr he).len (gops_len hfr rest _ _ _ _ _ hr)
              · simp only [Option.bind_eq_bind, Option.bind_eq_some_iff, Option.some.injEq, Prod.mk.injEq] at e
                obtain ⟨⟨σ2, h2, recs2⟩, hr, rfl, rfl, rfl⟩ := e
                exact gops_len hfr rest _ _ _ _ _ hr
            · cases e
end

end Go.Proofs.YtklhdbkaejbajaaDoor.G

namespace Go.Proofs.YtklhdbkaejbajaaDoor.G
open Go.RowKit
set_option linter.unusedVariables false
set_option linter.unusedSimpArgs false

/-! Masks. -/
theorem masks_spec (ops : Array Oper) (he : edgesOk ops = true) (i : Nat) (o : Oper) (ho : ops[i]? = some o) (k : Nat) (hk : ((masks ops).getD i 0).testBit k = true) :
    ∃ e, e ∈ o.after.toList ∧ Region.binds .any e = true ∧ e.on < i ∧ (k = e.on ∨ ((masks ops).getD e.on 0).testBit k = true) := by
  have hi : i < ops.size := (Array.getElem?_eq_some_iff.1 ho).1
  let f : List Nat → Oper → List Nat := fun acc o => acc ++ [maskOf acc o]
  have hlen : ∀ (l : List Oper) (acc : List Nat), (l.foldl f acc).length = acc.length + l.length := by
    intro l
    induction l with
    | nil => simp
    | cons x l ih => intro acc; rw [List.foldl_cons, ih]; simp [f]; omega
  have hpre : ∀ (l : List Oper) (acc : List Nat), (l.foldl f acc).take acc.length = acc := by
    intro l
    induction l with
    | nil => simp
    | cons x l ih =>
      intro acc
      rw [List.foldl_cons]
      have := ih (f acc x)
      have h2 : ((l.foldl f (f acc x)).take (f acc x).length).take acc.length = (l.foldl f (f acc x)).take acc.length := by
        rw [List.take_take]; congr 1; simp [f]
      rw [← h2, this]
      simp [f]
  have hget : ∀ (l : List Oper) (acc : List Nat) (j : Nat) (x : Oper), l[j]? = some x → (l.foldl f acc)[acc.length + j]? = some (maskOf ((l.foldl f acc).take (acc.length + j)) x) := by
    intro l
    induction l with
    | nil => intro acc j x hx; simp at hx
    | cons y l ih =>
      intro acc j x hx
      rw [List.foldl_cons]
      cases j with
      | zero =>
        simp at hx
        subst hx
        have h1 := hpre l (f acc y)
        have h2 : (l.foldl f (f acc y)).take acc.length = acc := by
          have h2 : ((l.foldl f (f acc y)).take (f acc y).length).take acc.length = (l.foldl f (f acc y)).take acc.length := by
            rw [List.take_take]; congr 1; simp [f]
          rw [← h2, h1]
          simp [f]
        rw [Nat.add_zero, h2]
        have h3 : (f acc y)[acc.length]? = some (maskOf acc y) := by simp [f]
        rw [← h1, List.getElem?_take] at h3
        rw [if_pos (by simp [f])] at h3
        exact h3
      | succ j =>
        have := ih (f acc y) j x (by simpa using hx)
        have hfl : (f acc y).length = acc.length + 1 := by simp [f]
        rw [hfl] at this
        rw [show acc.length + (j + 1) = acc.length + 1 + j by omega]
        exact this
  have hm : (masks ops)[i]? = some (maskOf ((masks ops).take i) o) := by
    have := hget ops.toList [] i o (by simpa using ho)
    simp only [List.length_nil, Nat.zero_add] at this
    exact this
  have hd : (masks ops).getD i 0 = maskOf ((masks ops).take i) o := by simp [List.getD, hm]
  rw [hd] at hk
  have hfold : ∀ (l : List Edge) (s : Nat), (l.foldl (fun s e => if Region.binds .any e then s ||| (2 ^ e.on ||| ((masks ops).take i).getD e.on 0) else s) s).testBit k = true →
      s.testBit k = true ∨ ∃ e, e ∈ l ∧ Region.binds .any e = true ∧ (k = e.on ∨ (((masks ops).take i).getD e.on 0).testBit k = true) := by
    intro l
    induction l with
    | nil => intro s h; exact .inl h
    | cons e l ih =>
      intro s h
      rw [List.foldl_cons] at h
      rcases ih _ h with h1 | ⟨e', h1, h2⟩
      · by_cases hb : Region.binds .any e = true
        · rw [if_pos hb] at h1
          rw [Nat.testBit_or, Nat.testBit_or, Nat.testBit_two_pow] at h1
          simp only [Bool.or_eq_true, decide_eq_true_eq] at h1
          rcases h1 with h1 | h1 | h1
          · exact .inl h1
          · exact .inr ⟨e, by simp, hb, .inl h1.symm⟩
          · exact .inr ⟨e, by simp, hb, .inr h1⟩
        · rw [if_neg hb] at h1
          exact .inl h1
      · exact .inr ⟨e', by simp [h1], h2⟩
  rcases hfold _ _ hk with h1 | ⟨e, h1, h2, h3⟩
  · simp at h1
  · have he' := List.all_eq_true.1 he i (by simpa using hi)
    simp only [ho] at he'
    have he2 := List.all_eq_true.1 he' e h1
    simp only [h2, Bool.not_true, Bool.false_or, Nat.blt_eq] at he2
    refine ⟨e, h1, h2, he2, h3.imp id fun h => ?_⟩
    have : ((masks ops).take i).getD e.on 0 = (masks ops).getD e.on 0 := by
      simp [List.getD, List.getElem?_take, he2]
    rw [← this]
    exact h

theorem slots_pair {ops : Array Oper} {m : List Nat} (hs : slotsOk ops m = true) {i j : Nat} (hij : i < j) {a b : Oper} (ha : ops[i]? = some a) (hb : ops[j]? = some b) (hm : (m.getD j 0).testBit i = false) :
    (∀ d, a.dst = some d → d ∉ slotsOf ops b) ∧ (∀ d, b.dst = some d → d ∉ slotsOf ops a) := by
  have hj : j < ops.size := (Array.getElem?_eq_some_iff.1 hb).1
  have h1 := List.all_eq_true.1 hs j (by simpa using hj)
  have h2 := List.all_eq_true.1 h1 i (by simpa using hij)
  simp only [hm, Bool.false_or, ha, hb, Bool.and_eq_true] at h2
  obtain ⟨h3, h4⟩ := h2
  constructor
  · intro d hd
    rw [hd] at h3
    simpa using h3
  · intro d hd
    rw [hd] at h4
    simpa using h4

theorem recs_pair {m : List Nat} : ∀ {l : List Rec}, recsOk m l = true → ∀ {i j : Nat} {a b : Rec}, i < j → l[i]? = some a → l[j]? = some b → (m.getD b.j 0).testBit a.j = false → meets a b = false
  | [], _, i, j, a, b, _, ha, _, _ => by simp at ha
  | x :: l, h, i, j, a, b, hij, ha, hb, hm => by
    simp only [recsOk, Bool.and_eq_true] at h
    cases j with
    | zero => omega
    | succ j =>
      simp only [List.getElem?_cons_succ] at hb
      cases i with
      | zero =>
        simp at ha
        subst ha
        have := List.all_eq_true.1 h.1 b (List.mem_of_getElem? hb)
        rw [hm] at this
        simpa using this
      | succ i =>
        simp only [List.getElem?_cons_succ] at ha
        exact recs_pair h.2 (by omega) ha hb hm

/-- What two operations that do not meet leave alone. -/
structure Apart (a b : Rec) : Prop where
  ww : ∀ i, i ∈ a.lg.w → touches b i = false ∧ i ∉ b.lg.r
  ww' : ∀ i, i ∈ b.lg.w → touches a i = false ∧ i ∉ a.lg.r
  r : ∀ i, i ∈ b.lg.r → touches a i = false
  r' : ∀ i, i ∈ a.lg.r → touches b i = false

theorem apart_of {a b : Rec} (h : meets a b = false) : Apart a b := by
  simp only [meets, Bool.or_eq_false_iff] at h
  obtain ⟨⟨⟨h1, h2⟩, h3⟩, h4⟩ := h
  refine ⟨fun i hi => ?_, fun i hi => ?_, fun i hi => ?_, fun i hi => ?_⟩
  · have := List.any_eq_false.1 h1 i hi
    simp at this
    exact ⟨by simpa using this.2, this.1⟩
  · have := List.any_eq_false.1 h2 i hi
    simp at this
    exact ⟨by simpa using this.2, this.1⟩
  · have := List.any_eq_false.1 h3 i hi
    simpa using this
  · have := List.any_eq_false.1 h4 i hi
    simpa using this

section
variable {P : Program} {C : Cfg} {call : GCall} {nt : Nat} {ops : Array Oper}

/-- A run in the order of the text, step by step. -/
structure StepAt (P : Program) (C : Cfg) (call : GCall) (nt : Nat) (ops : Array Oper) (σs : Nat → GS) (hs : Nat → Heap) (vs : Nat → GV) (lgs : Nat → Lg) (j : Nat) : Prop where
  ex : ∃ o, ops[j]? = some o ∧ dstOk nt o.dst = true ∧ σs (j + 1) = upd (σs j) o.dst (vs j) ∧
    ((Region.wanted o (gyield ops (σs j)) = true ∧ gop P C call (eval (σs j)) o (hs j) = some (vs j, hs (j + 1), lgs j)) ∨
     (Region.wanted o (gyield ops (σs j)) = false ∧ vs j = .un ∧ hs (j + 1) = hs j ∧ lgs j = .nil))

def recAt (hs : Nat → Heap) (lgs : Nat → Lg) (j : Nat) : Rec := ⟨j, (hs j).length, (hs (j + 1)).length, lgs j⟩

theorem gops_run : ∀ (m k : Nat) (σ : GS) (h : Heap) (σ' : GS) (h' : Heap) (recs : List Rec), gops P C call nt ops (List.range' k m) σ h = some (σ', h', recs) →
    ∃ σs hs vs lgs, σs k = σ ∧ hs k = h ∧ σs (k + m) = σ' ∧ hs (k + m) = h' ∧ (∀ j, k ≤ j → j < k + m → StepAt P C call nt ops σs hs vs lgs j) ∧ recs = (List.range' k m).map (recAt hs lgs)
  | 0, k, σ, h, σ', h', recs, e => by
    simp only [List.range'_zero, gops, Option.some.injEq, Prod.mk.injEq] at e
    obtain ⟨rfl, rfl, rfl⟩ := e
    exact ⟨fun _ => σ, fun _ => h, fun _ => .un, fun _ => .nil, rfl, rfl, rfl, rfl, fun j h1 h2 => by omega, rfl⟩
  | m + 1, k, σ, h, σ', h', recs, e => by
    rw [List.range'_succ] at e
    unfold gops at e
    cases hj : ops[k]? with
    | none => rw [hj] at e; cases e
    | some o =>
      rw [hj] at e
      simp only at e
      split at e
      · rename_i hd
        have fin : ∀ (v : GV) (h1 : Heap) (lg : Lg) (recs2 : List Rec), gops P C call nt ops (List.range' (k + 1) m) (upd σ o.dst v) h1 = some (σ', h', recs2) → recs = ⟨k, h.length, h1.length, lg⟩ :: recs2 →
            ((Region.wanted o (gyield ops σ) = true ∧ gop P C call (eval σ) o h = some (v, h1, lg)) ∨ (Region.wanted o (gyield ops σ) = false ∧ v = .un ∧ h1 = h ∧ lg = .nil)) →
            ∃ σs hs vs lgs, σs k = σ ∧ hs k = h ∧ σs (k + (m + 1)) = σ' ∧ hs (k + (m + 1)) = h' ∧ (∀ j, k ≤ j → j < k + (m + 1) → StepAt P C call nt ops σs hs vs lgs j) ∧ recs = (List.range' k (m + 1)).map (recAt hs lgs) := by
          intro v h1 lg recs2 hr hrec hst
          obtain ⟨σs, hs, vs, lgs, e1, e2, e3, e4, e5, e6⟩ := gops_run m (k + 1) _ _ _ _ _ hr
          refine ⟨fun j => if j = k then σ else σs j, fun j => if j = k then h else hs j, fun j => if j = k then v else vs j, fun j => if j = k then lg else lgs j, by simp, by simp, ?_, ?_, fun j h1 h2 => ?_, ?_⟩
          · simp only [show k + (m + 1) ≠ k by omega, if_false]
            rw [← e3]; congr 1; omega
          · simp only [show k + (m + 1) ≠ k by omega, if_false]
            rw [← e4]; congr 1; omega
          · by_cases hjk : j = k
            · subst hjk
              refine ⟨o, hj, hd, ?_, ?_⟩
              · simp [e1]
              · simpa [e2] using hst
            · obtain ⟨o', q1, q2, q3, q4⟩ := (e5 j (by omega) (by omega)).ex
              refine ⟨o', q1, q2, ?_, ?_⟩
              · simpa [hjk, show j + 1 ≠ k by omega] using q3
              · simpa [hjk, show j + 1 ≠ k by omega] using q4
          · rw [hrec, List.range'_succ, List.map_cons, e6]
            congr 1
            · simp [recAt, e2]
            · apply List.map_congr_left
              intro j hjm
              have := (List.mem_range'_1.1 hjm).1
              simp [recAt, show j ≠ k by omega, show j + 1 ≠ k by omega]
        by_cases hw : Region.wanted o (gyield ops σ) = true
        · rw [if_pos hw] at e
          simp only [Option.bind_eq_bind, Option.bind_eq_some_iff, Option.some.injEq, Prod.mk.injEq] at e
          obtain ⟨⟨v, h1, lg⟩, he, ⟨σ2, h2, recs2⟩, hr, rfl, rfl, rfl⟩ := e
          exact fin v h1 lg recs2 hr rfl (.inl ⟨hw, he⟩)
        · rw [if_neg hw] at e
          simp only [Option.bind_eq_bind, Option.bind_eq_some_iff, Option.some.injEq, Prod.mk.injEq] at e
          obtain ⟨⟨σ2, h2, recs2⟩, hr, rfl, rfl, rfl⟩ := e
          exact fin .un h .nil recs2 hr rfl (.inr ⟨by simpa using hw, rfl, rfl, rfl⟩)
      · cases e
end

end Go.Proofs.YtklhdbkaejbajaaDoor.G

namespace Go.Proofs.YtklhdbkaejbajaaDoor.G
open Go.RowKit
set_option linter.unusedVariables false
set_option linter.unusedSimpArgs false

section
variable {P : Program} {C : Cfg} {call : GCall} {nt : Nat} {ops : Array Oper} {σs : Nat → GS} {hs : Nat → Heap} {vs : Nat → GV} {lgs : Nat → Lg}

def dstAt (ops : Array Oper) (j : Nat) : Option Tmp := (ops[j]?).bind (·.dst)

/-- A slot's value once the operations of S (below m) have been done. -/
def cur (ops : Array Oper) (σs : Nat → GS) (vs : Nat → GV) (S : Nat → Bool) : Nat → GS
  | 0, t => σs 0 t
  | m + 1, t => if S m = true ∧ dstAt ops m = some t then vs m else cur ops σs vs S m t

/-- A block's content once the operations of S (below m) have been done. -/
def cont (hs : Nat → Heap) (lgs : Nat → Lg) (S : Nat → Bool) : Nat → Nat → Option (List GV)
  | 0, i => (hs 0)[i]?
  | m + 1, i => if S m = true ∧ touches (recAt hs lgs m) i = true then (hs (m + 1))[i]? else cont hs lgs S m i

theorem cur_below {S : Nat → Bool} {t : Tmp} : ∀ {m : Nat}, (∀ j, j < m → StepAt P C call nt ops σs hs vs lgs j) → (∀ k, k < m → dstAt ops k = some t → S k = true) → cur ops σs vs S m t = σs m t
  | 0, _, _ => rfl
  | m + 1, hst, hb => by
    obtain ⟨o, q1, q2, q3, q4⟩ := (hst m (by omega)).ex
    have hd : dstAt ops m = o.dst := by simp [dstAt, q1]
    unfold cur
    rw [q3, upd_eq]
    by_cases h : o.dst = some t
    · rw [if_pos ⟨hb m (by omega) (by rw [hd]; exact h), by rw [hd]; exact h⟩, if_pos h]
    · rw [if_neg (by rw [hd]; exact fun e => h e.2), if_neg h]
      exact cur_below (fun j hj => hst j (by omega)) (fun k hk => hb k (by omega))
theorem cur_above {S : Nat → Bool} {t : Tmp} {m : Nat} : ∀ {n : Nat}, m ≤ n → (∀ k, m ≤ k → k < n → dstAt ops k = some t → S k = false) → cur ops σs vs S n t = cur ops σs vs S m t
  | n, hmn, hb => by
    by_cases h : m = n
    · subst h; rfl
    · cases n with
      | zero => omega
      | succ n =>
        rw [show cur ops σs vs S (n + 1) t = if S n = true ∧ dstAt ops n = some t then vs n else cur ops σs vs S n t from rfl, if_neg]
        · exact cur_above (by omega) (fun k h1 h2 => hb k h1 (by omega))
        · rintro ⟨h1, h2⟩
          rw [hb n (by omega) (by omega) h2] at h1
          cases h1
theorem cur_congr {S S' : Nat → Bool} {t : Tmp} : ∀ {m : Nat}, (∀ k, k < m → dstAt ops k = some t → S k = S' k) → cur ops σs vs S m t = cur ops σs vs S' m t
  | 0, _ => rfl
  | m + 1, h => by
    have ih := cur_congr (m := m) (fun k hk => h k (by omega))
    unfold cur
    rw [ih]
    by_cases hd : dstAt ops m = some t
    · rw [h m (by omega) hd]
    · rw [if_neg (fun e => hd e.2), if_neg (fun e => hd e.2)]

theorem hs_frame (hfr : CFrame call) {j : Nat} (hst : StepAt P C call nt ops σs hs vs lgs j) : FR (hs j) (lgs j) (hs (j + 1)) := by
  obtain ⟨o, q1, q2, q3, ⟨_, q4⟩ | ⟨_, _, q4, _⟩⟩ := hst.ex
  · exact gop_frame hfr q4
  · rw [q4]; exact FR.same _ _

theorem hs_mono (hfr : CFrame call) {n : Nat} (hst : ∀ j, j < n → StepAt P C call nt ops σs hs vs lgs j) {j : Nat} : ∀ {k : Nat}, j ≤ k → k ≤ n → (hs j).length ≤ (hs k).length
  | k, hjk, hk => by
    by_cases h : j = k
    · subst h; exact Nat.le_refl _
    · cases k with
      | zero => omega
      | succ k => exact Nat.le_trans (hs_mono hfr hst (by omega) (by omega)) (hs_frame hfr (hst k (by omega))).len

theorem touches_iff {j i : Nat} : touches (recAt hs lgs j) i = true ↔ i ∈ (lgs j).w ∨ ((hs j).length ≤ i ∧ i < (hs (j + 1)).length) := by
  simp [touches, recAt]

theorem untouched (hfr : CFrame call) {j i : Nat} (hst : StepAt P C call nt ops σs hs vs lgs j) (h : touches (recAt hs lgs j) i = false) : (hs (j + 1))[i]? = (hs j)[i]? := by
  have hf := hs_frame hfr hst
  have h' : ¬ (i ∈ (lgs j).w ∨ ((hs j).length ≤ i ∧ i < (hs (j + 1)).length)) := by
    rw [← touches_iff, h]; simp
  by_cases hi : i < (hs j).length
  · exact hf.keep i hi (fun e => h' (.inl e))
  · have h2 : (hs (j + 1)).length ≤ i := by
      rcases Nat.lt_or_ge i (hs (j + 1)).length with h1 | h1
      · exact absurd (.inr ⟨by omega, h1⟩) h'
      · exact h1
    rw [List.getElem?_eq_none h2, List.getElem?_eq_none (by omega : (hs j).length ≤ i)]

theorem cont_below (hfr : CFrame call) {S : Nat → Bool} {i : Nat} : ∀ {m : Nat}, (∀ j, j < m → StepAt P C call nt ops σs hs vs lgs j) → (∀ k, k < m → touches (recAt hs lgs k) i = true → S k = true) → cont hs lgs S m i = (hs m)[i]?
  | 0, _, _ => rfl
  | m + 1, hst, hb => by
    unfold cont
    cases ht : touches (recAt hs lgs m) i with
    | true => rw [if_pos ⟨hb m (by omega) ht, rfl⟩]
    | false =>
      rw [if_neg (by simp), untouched hfr (hst m (by omega)) ht]
      exact cont_below hfr (fun j hj => hst j (by omega)) (fun k hk => hb k (by omega))
theorem cont_above {S : Nat → Bool} {i m : Nat} : ∀ {n : Nat}, m ≤ n → (∀ k, m ≤ k → k < n → touches (recAt hs lgs k) i = true → S k = false) → cont hs lgs S n i = cont hs lgs S m i
  | n, hmn, hb => by
    by_cases h : m = n
    · subst h; rfl
    · cases n with
      | zero => omega
      | succ n =>
        rw [show cont hs lgs S (n + 1) i = if S n = true ∧ touches (recAt hs lgs n) i = true then (hs (n + 1))[i]? else cont hs lgs S n i from rfl, if_neg]
        · exact cont_above (by omega) (fun k h1 h2 => hb k h1 (by omega))
        · rintro ⟨h1, h2⟩
          rw [hb n (by omega) (by omega) h2] at h1
          cases h1
theorem cont_congr {S S' : Nat → Bool} {i : Nat} : ∀ {m : Nat}, (∀ k, k < m → touches (recAt hs lgs k) i = true → S k = S' k) → cont hs lgs S m i = cont hs lgs S' m i
  | 0, _ => rfl
  | m + 1, h => by
    have ih := cont_congr (m := m) (fun k hk => h k (by omega))
    unfold cont
    rw [ih]
    cases hd : touches (recAt hs lgs m) i with
    | true => rw [h m (by omega) hd]
    | false => simp

/-- How many are left. -/
def unl (S : Nat → Bool) : Nat → Nat
  | 0 => 0
  | m + 1 => unl S m + (if S m = true then 0 else 1)
theorem unl_zero {S : Nat → Bool} : ∀ {m : Nat}, unl S m = 0 → ∀ k, k < m → S k = true
  | 0, _, k, hk => by omega
  | m + 1, h, k, hk => by
    unfold unl at h
    by_cases hkm : k = m
    · subst hkm
      by_cases hs : S k = true
      · exact hs
      · rw [if_neg hs] at h; omega
    · exact unl_zero (m := m) (by omega) k (by omega)
theorem unl_same {S S' : Nat → Bool} : ∀ {m : Nat}, (∀ k, k < m → S k = S' k) → unl S m = unl S' m
  | 0, _ => rfl
  | m + 1, h => by
    unfold unl
    rw [unl_same (m := m) (fun k hk => h k (by omega)), h m (by omega)]
theorem unl_set {S S' : Nat → Bool} {j : Nat} (hj : S j = false) (hj' : S' j = true) (ho : ∀ k, k ≠ j → S k = S' k) : ∀ {m : Nat}, j < m → unl S m = unl S' m + 1
  | 0, h => by omega
  | m + 1, h => by
    unfold unl
    by_cases hjm : j = m
    · subst hjm
      rw [hj, hj', unl_same (m := j) (fun k hk => ho k (by omega))]
      simp
    · rw [unl_set hj hj' ho (m := m) (by omega), ho m (by omega)]
      omega
end

/-- HB, At, of a content. -/
def HBc (w : World) (ρ : Map) (Pp Pt : Nat → Prop) (c : Option (List GV)) (i : Nat) : Prop :=
  ∀ cs, c = some cs → (∃ loc, ρ i cs.length = some loc ∧ BR w ρ Pp Pt cs loc ∧ ¬ Pp loc.1 ∧ ¬ Pt loc.1) ∧ ∀ m, cs.length < m → ρ i m = none
def Atc (ρ : Map) (c : Option (List GV)) (i : Nat) (k : Nat) : Prop := ∃ cs loc, c = some cs ∧ ρ i cs.length = some loc ∧ loc.1 = k

theorem HBc_iff {w : World} {ρ : Map} {Pp Pt : Nat → Prop} {h : Heap} {i : Nat} : HB w ρ Pp Pt h i ↔ HBc w ρ Pp Pt h[i]? i := Iff.rfl
theorem Atc_iff {ρ : Map} {h : Heap} {i k : Nat} : At ρ h i k ↔ Atc ρ h[i]? i k := Iff.rfl
theorem Atc.lt {w : World} {ρ : Map} {Pp Pt : Nat → Prop} {c : Option (List GV)} {i k : Nat} (hb : HBc w ρ Pp Pt c i) (ha : Atc ρ c i k) : k < w.heap.size ∧ ¬ Pp k ∧ ¬ Pt k := by
  obtain ⟨cs, loc, h1, h2, rfl⟩ := ha
  obtain ⟨⟨loc', h3, ⟨rc, ty, lo, hi, h4, _⟩, h5, h6⟩, _⟩ := hb cs h1
  rw [h2] at h3
  cases h3
  exact ⟨(Array.getElem?_eq_some_iff.1 h4).1, h5, h6⟩

/-- Between operations: S has been done. w0, ρ0, P0: at the beginning; L: all that is read and written. -/
structure Inv (ops : Array Oper) (σs : Nat → GS) (hs : Nat → Heap) (vs : Nat → GV) (lgs : Nat → Lg) (n nt : Nat) (F : Nat → Prop) (L : Lg) (Pt : Nat → Prop) (w0 : World) (ρ0 : Map) (P0 : Nat → Prop)
    (S : Nat → Bool) (a : Act) (w : World) (ρ : Map) (Pp : Nat → Prop) : Prop where
  size : a.tmps.size = nt
  defers : a.defers = []
  val : ∀ t, VR w ρ Pp (cur ops σs vs S n t) Pt (a.tmps.getD t undef)
  lt : ∀ c, Pp c ∨ Pt c → c < w.heap.size
  gl : GL w Pp
  hb : ∀ i, F i → HBc w ρ Pp Pt (cont hs lgs S n i) i
  inj : ∀ i j c, F i → F j → i ≠ j → Atc ρ (cont hs lgs S n i) i c → ¬ Atc ρ (cont hs lgs S n j) j c
  nw : ∀ k i m, k < n → S k = false → (hs k).length ≤ i → i < (hs (k + 1)).length → ρ i m = none
  os : w.os = w0.os
  tape : w.tape = w0.tape
  output : w.output = w0.output
  wsize : w0.heap.size ≤ w.heap.size
  keep : Keep w0 ρ0 P0 w ρ Pp
  kept : ∀ c, c < w0.heap.size → (∀ i, i ∈ L.w → ¬ At ρ0 (hs 0) i c) → w.heap[c]? = w0.heap[c]?
  ppnew : ∀ c, Pp c → P0 c ∨ (w0.heap.size ≤ c ∧ c < w.heap.size)
  rhoold : ∀ i m, (i < (hs 0).length ∧ i ∉ L.w) ∨ (hs n).length ≤ i → ρ i m = ρ0 i m
  fresh : ∀ i c, (i ∈ L.w ∨ ((hs 0).length ≤ i ∧ i < (hs n).length)) → Atc ρ (cont hs lgs S n i) i c → (w0.heap.size ≤ c ∧ c < w.heap.size) ∨ At ρ0 (hs 0) i c

end Go.Proofs.YtklhdbkaejbajaaDoor.G
