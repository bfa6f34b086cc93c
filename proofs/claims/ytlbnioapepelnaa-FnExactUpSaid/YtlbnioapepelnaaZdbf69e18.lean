/- The reference moves rows in a grid that lies in memory. Data in memory: what is handed back told; which blocks it leads to. Grids scrolled, on both sides. Scrolled grids are of the right size. What these functions do, told for open values, out of the machine with continuations. Printed by a program of this session. The law FnExactUp, for all data. -/
import Derived.Test.YtlbnioapepelnaaZ0c381bac
import Derived.Test.YtlbnioapepelnaaZfe0b0506
import Derived.Test.YtlbnioapepelnaaZ39b70ebb
import Derived.KernelRfl
namespace Go.Proofs.Ytlbnioapepelnaa.G
open Go.RowKit
set_option linter.unusedVariables false
set_option linter.unusedSimpArgs false
theorem All3.got {α : Type} {E : List GV → α → List Nat → Prop} {css : List (List GV)} {xs : List α} {Rs : List (List Nat)} (h : All3 E css xs Rs) : ∀ {m : Nat} (hm : m < xs.length), ∃ c R, css[m]? = some c ∧ Rs[m]? = some R ∧ E c xs[m] R := by
  induction h with
  | nil => intro m hm; cases hm
  | cons a _ ih =>
    intro m hm
    cases m with
    | zero => exact ⟨_, _, rfl, rfl, a⟩
    | succ m => exact ih (Nat.lt_of_succ_lt_succ hm)
/-- New rows so far; the block that lists them. -/
def VA (P : Nat → Prop) (H0 H : Heap) (v : GV) (gs : List GV) (rows : List (List CellT)) : Prop := Fr [] H0 H ∧ ∃ Rs, All3 (rCellS H) (wr gs) rows Rs ∧ (∀ i ∈ Rs.flatten, P i) ∧ ((v = .emp ∧ gs = []) ∨ ∃ q, v = .sl q 0 gs.length gs.length 1 ∧ H[q]? = some gs ∧ H0.length ≤ q ∧ q ∉ Rs.flatten)
theorem VA.step {P : Nat → Prop} {H0 H H1 : Heap} {v w : GV} {gs : List GV} {rows : List (List CellT)} {row : List CellT} {Rx : List Nat} (h : VA P H0 H v gs rows) (hn : gs.length ≤ 1000) (f : Fr [] H H1) (hx : rCellS H1 [w] row Rx) (hd : ∀ i ∈ Rx, i < H0.length ∨ H.length ≤ i) (hb : ∀ i ∈ Rx, P i) :
    ∃ v' H', kapp [.nils] 1 24 v (.sl H1.length 0 1 1 1) (H1 ++ [[w]]) = some (v', H') ∧ VA P H0 H' v' (gs ++ [w]) (rows ++ [row]) := by
  obtain ⟨fr, Rs, ha, hbn, hv⟩ := h
  obtain ⟨H2, hH2⟩ : ∃ H2, H1 ++ [[w]] = H2 := ⟨_, rfl⟩
  have f2 : Fr [] H1 H2 := by rw [← hH2]; exact .app
  have l2 : H2.length = H1.length + 1 := by rw [← hH2]; simp
  have W2 : H2[H1.length]? = some [w] := by rw [← hH2]; simp
  rw [hH2]
  have f02 : Fr [] H0 H2 := fr.trans (f.trans f2)
  have ha2 : All3 (rCellS H2) (wr gs) rows Rs := All3.frame (fun a b => goodCellS.frame a b) ha fun i hi => (f.trans f2).2 i (All3.mem (fun a => goodCellS.mem a) ha i hi) no_nil
  have hx2 : rCellS H2 [w] row Rx := goodCellS.keep hx f2 (fun _ _ => no_nil)
  have wc := cell_of hx
  have hg : gcells H2 1 (.sl H1.length 0 1 1 1) = some (1, [w], [H1.length]) := by
    unfold gcells
    simp [W2]
  have hcc : [w].all GV.isCell = true := by simp [wc.2]
  have hxm := goodCellS.mem hx
  rcases hv with ⟨rfl, rfl⟩ | ⟨q, rfl, hq, hlo, hqn⟩
  · cases ha
    have f3 : Fr [] H2 (H2 ++ [[w]]) := .app
    refine ⟨.sl H2.length 0 1 1 1, H2 ++ [[w]], ?_, f02.trans f3, [Rx], .cons (goodCellS.keep hx2 f3 (fun _ _ => no_nil)) .nil, fun i hi => hb i (by simpa using hi), Or.inr ⟨H2.length, rfl, by simp, ?_, fun h => ?_⟩⟩
    · unfold kapp
      rw [hg]
      simp only [Option.bind_some]
      rw [if_pos ⟨hcc, rfl, by simp only [maxLen]; omega, by simp only [roomMax]; omega⟩]
      rfl
    · exact f02.1
    · simp only [List.flatten_cons, List.flatten_nil, List.append_nil] at h
      have := hxm _ h
      omega
  · have hql := (List.getElem?_eq_some_iff.1 hq).1
    have hq2 := (f.trans f2).blk hq no_nil
    have hql2 := (List.getElem?_eq_some_iff.1 hq2).1
    have hqx : q ∉ Rx := fun h => by rcases hd q h with h | h <;> omega
    refine ⟨.sl q 0 (gs.length + 1) (gs.length + 1) 1, H2.set q (gs ++ [w]), ?_, ⟨by rw [List.length_set]; exact f02.1, fun i hi hn => by rw [List.getElem?_set_ne (by omega)]; exact f02.2 i hi no_nil⟩, Rs ++ [Rx], ?_, fun i hi => (by rw [List.flatten_append, List.mem_append] at hi; exact hi.elim (hbn i) fun h => hb i (by simpa using h)), Or.inr ⟨q, by rw [List.length_append]; rfl, List.getElem?_set_self hql2, hlo, ?_⟩⟩
    · unfold kapp
      rw [hg]
      simp only [Option.bind_some]
      rw [if_pos ⟨hcc, rfl, by simp only [maxLen]; omega, by simp only [roomMax]; omega⟩]
      simp only [Nat.zero_add, cellsAt_if, hq2, Option.bind_some, Nat.mul_one, if_true]
      rw [if_pos ⟨trivial, Nat.le_refl _, by simp only [roomMax]; omega, by simp only [maxLen]; omega⟩, if_neg (by omega), if_pos ⟨trivial, by omega⟩, List.take_of_length_le (Nat.le_refl _)]
    · rw [wr_app]
      refine All3.snoc (All3.frame (fun a b => goodCellS.frame a b) ha2 fun k hk => List.getElem?_set_ne fun e => hqn (by rw [e]; exact hk)) (goodCellS.frame hx2 fun k hk => List.getElem?_set_ne fun e => hqx (by rw [e]; exact hk))
    · rw [List.flatten_append, List.mem_append]
      simp only [List.flatten_cons, List.flatten_nil, List.append_nil]
      exact fun h => h.elim hqn hqx
/-- The row that comes to a place. -/
def moveAt (c : Int) (rows : List (List CellT)) (t bo : Nat) (n : Int) (s : StyT) (j : Nat) : List CellT := if inB (((t + j : Nat) : Int) + n) t bo = true then rows[(((t + j : Nat) : Int) + n).toNat]?.getD [] else List.replicate c.toNat (blankS s)
def moveR (c : Int) (rows : List (List CellT)) (t bo : Nat) (n : Int) (s : StyT) : List (List CellT) := rows.take t ++ (List.range (bo + 1 - t)).map (moveAt c rows t bo n s) ++ rows.drop (bo + 1)
theorem move_up {c : Int} {rows : List (List CellT)} {t bo : Nat} {n : Int} {s : StyT} (h0 : 0 ≤ n) (ht : t ≤ bo) (hb : bo < rows.length) : moveR c rows t bo n s = upR rows t bo (movN t bo n) (blanksM c s (movN t bo n)) := by
  obtain ⟨k, hk⟩ : ∃ k, movN t bo n = k := ⟨_, rfl⟩
  rw [hk]
  have hk' : (k : Int) = min n ((bo : Int) - t + 1) := by rw [← hk]; unfold movN; rw [Int.toNat_of_nonneg]; omega
  unfold moveR upR blanksM
  congr 2
  refine List.ext_getElem? fun i => ?_
  have el : ((rows.drop (t + k)).take (bo + 1 - (t + k))).length = bo + 1 - (t + k) := by rw [List.length_take, List.length_drop]; omega
  rw [List.getElem?_map]
  by_cases h1 : i < bo + 1 - t
  · rw [List.getElem?_range h1, Option.map_some]
    unfold moveAt
    by_cases h2 : t + i + k ≤ bo
    · rw [List.getElem?_append_left (by omega), if_pos (by rw [inB_iff]; omega), List.getElem?_take_of_lt (by omega), List.getElem?_drop]
      have e : (((t + i : Nat) : Int) + n).toNat = t + k + i := by omega
      rw [e, List.getElem?_eq_getElem (by omega)]; rfl
    · rw [List.getElem?_append_right (by omega), el, if_neg (by rw [inB_iff]; omega), List.getElem?_replicate, if_pos (by omega)]
  · rw [List.getElem?_eq_none (by simp; omega), List.getElem?_append_right (by omega), el, List.getElem?_replicate, if_neg (by omega)]; rfl
theorem move_down {c : Int} {rows : List (List CellT)} {t bo : Nat} {n : Int} {s : StyT} (h0 : 0 ≤ n) (ht : t ≤ bo) (hb : bo < rows.length) : moveR c rows t bo (-n) s = downR rows t bo (movN t bo n) (blanksM c s (movN t bo n)) := by
  obtain ⟨k, hk⟩ : ∃ k, movN t bo n = k := ⟨_, rfl⟩
  rw [hk]
  have hk' : (k : Int) = min n ((bo : Int) - t + 1) := by rw [← hk]; unfold movN; rw [Int.toNat_of_nonneg]; omega
  unfold moveR downR blanksM
  congr 2
  refine List.ext_getElem? fun i => ?_
  have el : (List.replicate k (List.replicate c.toNat (blankS s))).length = k := List.length_replicate
  rw [List.getElem?_map]
  by_cases h1 : i < bo + 1 - t
  · rw [List.getElem?_range h1, Option.map_some]
    unfold moveAt
    by_cases h2 : i < k
    · rw [List.getElem?_append_left (by omega), if_neg (by rw [inB_iff]; omega), List.getElem?_replicate, if_pos h2]
    · rw [List.getElem?_append_right (by omega), el, if_pos (by rw [inB_iff]; omega), List.getElem?_take_of_lt (by omega), List.getElem?_drop]
      have e : (((t + i : Nat) : Int) + -n).toNat = t + (i - k) := by omega
      rw [e, List.getElem?_eq_getElem (by omega)]; rfl
  · rw [List.getElem?_eq_none (by simp; omega), List.getElem?_append_right (by omega), el, List.getElem?_eq_none (by rw [List.length_take, List.length_drop]; omega)]; rfl
theorem set_next {cs gs : List GV} {t j : Nat} {g : GV} (ht : t + j < cs.length) (hj : gs[j]? = some g) : (cs.take t ++ gs.take j ++ cs.drop (t + j)).set (t + j) g = cs.take t ++ gs.take (j + 1) ++ cs.drop (t + (j + 1)) := by
  have hl := (List.getElem?_eq_some_iff.1 hj).1
  have e1 : (cs.take t ++ gs.take j).length = t + j := by rw [List.length_append, List.length_take, List.length_take]; omega
  rw [List.set_append, if_neg (by omega), e1, Nat.sub_self, List.drop_eq_getElem_cons ht, List.set_cons_zero, List.take_add_one, hj]
  simp
  try rfl
theorem move_op {p : Nat} {c : Int} {rows : List (List CellT)} {H : Heap} {vR : GV} {R : List Nat} (hp : H[p]? = some (gridC c vR)) (hr : rCellSS H [vR] rows R) (nd : R.Nodup) (hpR : p ∉ R) {t bo : Nat} {n : Int} {s : StyT} (hc : 1 ≤ c ∧ c ≤ 60) (htb : t ≤ bo) (hb : bo < rows.length) (hN : rows.length ≤ 30) (hn : -1000 ≤ n ∧ n ≤ 1000) :
    ∃ H' R', HH fn.spec_l5Move [.ptr p 0 2, .int .i64 (t : Int), .int .i64 (bo : Int), .int .i64 n, styG s] H = some (.tup [], H') ∧ H'[p]? = some (gridC c vR) ∧ rCellSS H' [vR] (moveR c rows t bo n s) R' ∧ (∀ i ∈ R', i ∈ R ∨ H.length ≤ i) ∧ Fr R H H' := by
  obtain ⟨b, cs, Rs, hv, hcb, hcl, ha, rfl⟩ := rows_open hr (by omega)
  rw [List.nodup_cons] at nd
  obtain ⟨N, hN'⟩ : ∃ N, rows.length = N := ⟨_, rfl⟩
  rw [hN'] at hv hcl hb hN
  have hpl := (List.getElem?_eq_some_iff.1 hp).1
  have hblen := (List.getElem?_eq_some_iff.1 hcb).1
  have hpb : p ≠ b := fun e => hpR (by rw [e]; exact List.mem_cons_self ..)
  obtain ⟨cn, rfl⟩ : ∃ cn : Nat, c = (cn : Int) := ⟨c.toNat, by omega⟩
  obtain ⟨Z, hZ⟩ : ∃ Z, styC s = Z := ⟨_, rfl⟩
  have hZL : Z.length = 5 := by rw [← hZ]; rfl
  have hsg : styG s = .agg Z := by rw [← hZ]
  have bl := fun H => fresh_one goodCellS (f := fn.spec_l4Row) (args := [.int .i64 (cn : Int), styG s]) (xs := [.int .i64 (cn : Int), styG s]) (H := H) (bors_i _ _ _ _ (bors_st _ _ _ _ rfl)) (spec_l4Row_spec s cn (by omega) H.length)
  rw [hsg]
  simp only [hsg] at bl
  obtain ⟨H1, hH1⟩ : ∃ H1, H ++ [Z] = H1 := ⟨_, rfl⟩
  have hbox : ∀ {Q : Type} (K : GV → Heap → Option Q), kbox (.agg Z) H K = K (.ptr H.length 0 5) H1 := fun K => by rw [kbox_agg, hZL, ← hH1]
  have f1 : Fr [] H H1 := by rw [← hH1]; exact .app
  have l1 : H1.length = H.length + 1 := by rw [← hH1]; simp
  have Z1 : H1[H.length]? = some Z := by rw [← hH1]; simp
  have P1 := f1.blk hp no_nil
  have B1 := f1.blk hcb no_nil
  have hRsm : ∀ i ∈ Rs.flatten, i < H.length := fun i hi => goodCellSS.mem hr i (List.mem_cons_of_mem _ hi)
  have ha1 : All3 (rCellS H1) (wr cs) rows Rs := All3.frame (fun a b => goodCellS.frame a b) ha fun i hi => f1.2 i (hRsm i hi) no_nil
  -- new rows
  refine Exists.elim (loop_inv (n := bo + 1 - t) (T := GV × Heap) (Inv := fun j x => ∃ gs, gs.length = j ∧ VA (fun i => i ≠ b ∧ (i ∈ Rs.flatten ∨ H1.length ≤ i)) H1 x.2 x.1 gs ((List.range j).map (moveAt cn rows t bo n s)))
    (f := fun r j x => fun (G : GX → GV → GV → GV → GV → Heap → Option (GV × Heap)) => S.spec_l5Move.l15 32 G r (.ptr p 0 2) (.int .i64 (t : Int)) (.int .i64 (bo : Int)) (.int .i64 n) (.ptr H.length 0 5) x.1 (.int .i64 ((t + j : Nat) : Int)) x.2) (A := fun x => fun G => G (.ext 0) (.ptr p 0 2) (.int .i64 (t : Int)) (.int .i64 (bo : Int)) x.1 x.2) (s := (.emp, H1)) ?_ ?_ ⟨[], rfl, Fr.refl, [], .nil, by simp, Or.inl ⟨rfl, rfl⟩⟩ (m := 32) (by omega)) ?_
  · rintro j r ⟨v, H2⟩ hj ⟨gs, hgl, va⟩
    simp only at va
    have f2 := va.1
    have P2 := f2.blk P1 no_nil
    have Z2 := f2.blk Z1 no_nil
    have B2 := f2.blk B1 no_nil
    have g1 : kbin .leq (.int .i64 ((t + j : Nat) : Int)) (.int .i64 (bo : Int)) = some (.bool true) := by rw [kbin_leq, decide_eq_true (by omega)]
    have g2 : kbin .add (.int .i64 ((t + j : Nat) : Int)) (.int .i64 n) = some (.int .i64 (((t + j : Nat) : Int) + n)) := by rw [kbin_add, wrap_id (by omega) (by omega)]
    have g3 := k_l1In (((t + j : Nat) : Int) + n) t bo H2
    have kj : kbin .add (.int .i64 ((t + j : Nat) : Int)) (.int .i64 1) = some (.int .i64 ((t + (j + 1) : Nat) : Int)) := kadd1 (n := t + j) (by omega)
    have q0 := kload1_at (o := 0) (tot := 2) P2 rfl
    have q1 := kload1_at (o := 1) (tot := 2) P2 rfl
    simp only [List.getElem?_cons_succ, List.getElem?_cons_zero] at q0 q1
    have qZ := kloadA_at (n := 5) Z2 hZL
    rw [List.range_succ, List.map_append]
    cases hin : inB (((t + j : Nat) : Int) + n) t bo
    · rw [hin] at g3
      obtain ⟨w, Rx, H3, t3, r3, n3, b3, f3, l3⟩ := bl H2
      obtain ⟨v', H4, e4, va4⟩ := va.step (by omega) f3 r3 (fun i hi => Or.inr (b3 i hi).1) (fun i hi => by have := b3 i hi; have := f2.1; exact ⟨by omega, Or.inr (by omega)⟩)
      have wc := cell_of r3
      refine ⟨(v', H4), funext fun G => ?_, gs ++ [w], by simp [hgl], ?_⟩
      · simp only [S.spec_l5Move.l15]
        simp [g1, g2, g3, knil, q0, qZ, t3, gfill, zeros, wc.1, kbs_at, e4, kj, -kF_OO, -kN_eq, -kload1_ptr, -kloadA_ptr, -kbin_leq, -kbin_add, -Int.natCast_add]
      · have : moveAt cn rows t bo n s j = List.replicate cn (blankS s) := by unfold moveAt; rw [hin, if_neg (by decide)]; rfl
        simp only [List.map_cons, List.map_nil, this]
        exact va4
    · rw [hin] at g3
      obtain ⟨m, hm⟩ : ∃ m : Nat, ((t + j : Nat) : Int) + n = m := ⟨(((t + j : Nat) : Int) + n).toNat, by rw [inB_iff] at hin; omega⟩
      have hm2 : m < rows.length := by rw [inB_iff] at hin; omega
      obtain ⟨c1, R1, w1, w2, w3⟩ := ha1.got hm2
      rw [List.getElem?_map] at w1
      obtain ⟨w, w4, rfl⟩ := Option.map_eq_some_iff.1 w1
      rw [hm] at g2 g3
      have i1 : kia 1 vR (.int .i64 (m : Int)) = some (.ptr b m N) := by rw [hv]; exact kia_at (by omega) (by omega) (by omega)
      have i2 := kload1_at (o := m) (tot := N) B2 hcl
      rw [w4] at i2
      have hR1 : ∀ i ∈ R1, i < H1.length := fun i hi => goodCellS.mem w3 i hi
      have r3 : rCellS H2 [w] rows[m] R1 := goodCellS.keep w3 f2 (fun _ _ => no_nil)
      obtain ⟨v', H4, e4, va4⟩ := va.step (by omega) .refl r3 (fun i hi => Or.inl (hR1 i hi)) (fun i hi => have hm := List.mem_flatten.2 ⟨R1, List.mem_of_getElem? w2, hi⟩; ⟨fun e => nd.1 (e ▸ hm), Or.inl hm⟩)
      have wc := cell_of r3
      refine ⟨(v', H4), funext fun G => ?_, gs ++ [w], by simp [hgl], ?_⟩
      · simp only [S.spec_l5Move.l15]
        simp [g1, g2, g3, knil, q1, i1, i2, gfill, zeros, wc.1, kbs_at, e4, kj, -kF_OO, -kN_eq, -kload1_ptr, -kloadA_ptr, -kbin_leq, -kbin_add, -Int.natCast_add]
      · have : moveAt cn rows t bo n s j = rows[m] := by unfold moveAt; rw [hin, if_pos rfl, hm, Int.toNat_natCast, List.getElem?_eq_getElem hm2]; rfl
        simp only [List.map_cons, List.map_nil, this]
        exact va4
  · rintro r ⟨v, H2⟩ _
    funext G
    have g1 : kbin .leq (.int .i64 ((t + (bo + 1 - t) : Nat) : Int)) (.int .i64 (bo : Int)) = some (.bool false) := by rw [kbin_leq, decide_eq_false (by omega)]
    simp only [S.spec_l5Move.l15]
    simp [g1, -kbin_leq, -Int.natCast_add]
  rintro ⟨v, H2⟩ ⟨k1, gs, hgl, f2, Rn, han, hbn, hq⟩
  simp only at f2 han hq k1
  obtain ⟨q, rfl, hq2, hlo, hqn⟩ : ∃ q, v = .sl q 0 gs.length gs.length 1 ∧ H2[q]? = some gs ∧ H1.length ≤ q ∧ q ∉ Rn.flatten := by
    rcases hq with ⟨_, h⟩ | h
    · rw [h] at hgl; simp at hgl; omega
    · exact h
  have P2 := f2.blk P1 no_nil
  have B2 := f2.blk B1 no_nil
  have hql := (List.getElem?_eq_some_iff.1 hq2).1
  have gcc : ∀ {j : Nat} {g : GV}, gs[j]? = some g → g.cells = [g] ∧ g.isCell = true := fun {j g} h => by
    have hj := (List.getElem?_eq_some_iff.1 h).1
    obtain ⟨c1, R1, w1, w2, w3⟩ := han.got (m := j) (by simp; omega)
    rw [List.getElem?_map, h] at w1
    cases w1
    exact cell_of w3
  refine Exists.elim (loop_inv (n := bo + 1 - t) (T := Heap) (Inv := fun j H3 => Fr [b] H2 H3 ∧ H3[b]? = some (cs.take t ++ gs.take j ++ cs.drop (t + j)))
    (f := fun r j H3 => fun (G : GX → Heap → Option (GV × Heap)) => S.spec_l5Move.l5 32 G r (.ptr p 0 2) (.int .i64 (t : Int)) (.int .i64 (bo : Int)) (.sl q 0 gs.length gs.length 1) (.int .i64 ((t + j : Nat) : Int)) H3) (A := fun H3 => fun G => G (.ext 2) H3) (s := H2) ?_ ?_ ⟨.refl, by simpa using B2⟩ (m := 32) (by omega)) ?_
  · rintro j r H3 hj ⟨f3, B3⟩
    have P3 := f3.blk P2 (by simpa using hpb)
    have Q3 := f3.blk hq2 (by simp; omega)
    have g1 : kbin .leq (.int .i64 ((t + j : Nat) : Int)) (.int .i64 (bo : Int)) = some (.bool true) := by rw [kbin_leq, decide_eq_true (by omega)]
    have g2 : kbin .sub (.int .i64 ((t + j : Nat) : Int)) (.int .i64 (t : Int)) = some (.int .i64 (j : Int)) := by rw [kbin_sub, wrap_id (by omega) (by omega)]; congr 2; omega
    have kj : kbin .add (.int .i64 ((t + j : Nat) : Int)) (.int .i64 1) = some (.int .i64 ((t + (j + 1) : Nat) : Int)) := kadd1 (n := t + j) (by omega)
    have q1 := kload1_at (o := 1) (tot := 2) P3 rfl
    simp only [List.getElem?_cons_succ, List.getElem?_cons_zero] at q1
    obtain ⟨g, hg⟩ : ∃ g, gs[j]? = some g := ⟨_, List.getElem?_eq_getElem (by omega)⟩
    have i1 : kia 1 (.sl q 0 gs.length gs.length 1) (.int .i64 (j : Int)) = some (.ptr q j gs.length) := kia_at (by omega) (by omega) (by omega)
    have i2 := kload1_at (o := j) (tot := gs.length) Q3 rfl
    rw [hg] at i2
    have i3 : kia 1 vR (.int .i64 ((t + j : Nat) : Int)) = some (.ptr b (t + j) N) := by rw [hv]; exact kia_at (by omega) (by omega) (by omega)
    have i4 := kstore_at (o := t + j) (tot := N) (x := g) B3 (by simp only [List.length_append, List.length_take, List.length_drop]; omega) (by omega) (gcc hg).1 (gcc hg).2
    rw [set_next (by omega) hg] at i4
    have hbl3 := (List.getElem?_eq_some_iff.1 B3).1
    refine ⟨_, funext fun G => ?_, f3.trans (.set (by simp)), List.getElem?_set_self hbl3⟩
    simp only [S.spec_l5Move.l5]
    simp [g1, g2, knil, q1, i1, i2, i3, i4, kj, -kload1_ptr, -kbin_leq, -kbin_add, -kbin_sub, -kia_sl, -kstore_ptr, -Int.natCast_add]
  · rintro r H3 _
    funext G
    have g1 : kbin .leq (.int .i64 ((t + (bo + 1 - t) : Nat) : Int)) (.int .i64 (bo : Int)) = some (.bool false) := by rw [kbin_leq, decide_eq_false (by omega)]
    simp only [S.spec_l5Move.l5]
    simp [g1, -kbin_leq, -Int.natCast_add]
  rintro H3 ⟨k2, f3, B3⟩
  rw [show t + (bo + 1 - t) = bo + 1 by omega, List.take_of_length_le (l := gs) (by omega)] at B3
  have ha3 : All3 (rCellS H3) (wr cs) rows Rs := All3.frame (fun a b => goodCellS.frame a b) ha fun i hi => by
    have hi1 := hRsm i hi
    have hib : i ≠ b := fun e => nd.1 (e ▸ hi)
    have h2 := f2.1
    rw [f3.2 i (by omega) (by simpa using hib), f2.2 i (by omega) no_nil, f1.2 i hi1 no_nil]
  have han3 : All3 (rCellS H3) (wr gs) ((List.range (bo + 1 - t)).map (moveAt cn rows t bo n s)) Rn := by
    refine All3.frame (fun a b => goodCellS.frame a b) han fun i hi => ?_
    have hi1 : i < H2.length := All3.mem (fun a => goodCellS.mem a) han i hi
    exact f3.2 i hi1 (by simpa using (hbn i hi).1)
  have hbl2 := (List.getElem?_eq_some_iff.1 B2).1
  refine ⟨H3, b :: (Rs.take t ++ Rn ++ Rs.drop (bo + 1)).flatten, ?_, f3.blk P2 (by simpa using hpb), ?_, fun i hi => ?_, ((f1.trans f2).sub (fun _ h => by cases h)).trans (f3.sub (by simp))⟩
  · apply S.spec_l5Move.gives (k := 32)
    have a1 := fun G => congrFun k1 G
    have a2 := fun G => congrFun k2 G
    simp only [Nat.add_zero] at a1 a2
    unfold S.spec_l5Move.run S.spec_l5Move.n0
    rw [hbox]
    simp [a1, a2]
  · have hl3 : (moveR cn rows t bo n s).length = N := by unfold moveR; simp only [List.length_append, List.length_take, List.length_drop, List.length_map, List.length_range]; omega
    rw [hv]
    refine rows_close B3 ?_ hl3
    unfold moveR
    rw [wr_app, wr_app, ← wr_take, ← wr_drop]
    exact ((ha3.take t).app han3).app (ha3.drop (bo + 1))
  · rcases List.mem_cons.1 hi with rfl | hi
    · exact Or.inl (List.mem_cons_self ..)
    · simp only [List.flatten_append, List.mem_append] at hi
      rcases hi with (hi | hi) | hi
      · exact Or.inl (List.mem_cons_of_mem _ (fl_take i hi))
      · exact (hbn i hi).2.imp (List.mem_cons_of_mem _) fun h => by omega
      · exact Or.inl (List.mem_cons_of_mem _ (fl_drop i hi))
end Go.Proofs.Ytlbnioapepelnaa.G

namespace Go.Proofs.Ytlbnioapepelnaa.G
open Go.RowKit
set_option linter.unusedVariables false
set_option linter.unusedSimpArgs false
theorem RFl.frz {α : Type} {mk : α → List GV} (hp : ∀ x, (mk x).all Pl = true) {d : Nat} {h : Heap} {c : List GV} {x : α} {R : List Nat} (he : RFl mk h c x R) : Frz (d + 1) h c (mk x) := by
  obtain ⟨rfl, rfl⟩ := he
  have := hp x
  generalize mk x = l at this
  induction l with
  | nil => exact .nil
  | cons g l ih =>
    rw [List.all_cons, Bool.and_eq_true] at this
    refine .cons (r := []) ?_ (ih this.2)
    cases g <;> first | rfl | cases this.1
theorem RSl.frz {α : Type} {es d : Nat} {mk mk' : α → List GV} {E : Rel α} (hG : Good es d mk E) {n : Nat} {h : Heap} (hE : ∀ c x R, E h c x R → Frz n h c (mk' x)) {v : GV} {xs : List α} {R : List Nat} (he : RSl es E h [v] xs R) : Frz (n + 1) h [v] [fzl false es mk' xs] := by
  rcases he with ⟨rfl, rfl, hc⟩ | ⟨b, css, Rs, hv, hb, ha, rfl⟩
  · rcases hc with hc | hc <;> (injection hc with hc; subst hc; exact .cons (r := []) rfl .nil)
  · injection hv with hv
    subst hv
    obtain ⟨fl, fe⟩ := All3.flen (fun h => hG.len h) ha
    have hf : Frz n h css.flatten (xs.flatMap mk') := by
      clear hb fl fe
      induction ha with
      | nil => exact .nil
      | cons a _ ih => exact .append (hE _ _ _ a) ih
    obtain ⟨ys, h1, h2⟩ := hf
    refine .cons (r := []) ?_ .nil
    simp only [Go.Proofs.Ytlbnioapepelnaa.G.frz, Option.bind_eq_bind, cellsAt_if, hb, Option.bind_some, Nat.zero_add, fl, if_true, List.drop_zero]
    rw [List.take_of_length_le (by omega), h1]
    simp only [Option.bind_some, Nat.le_refl, if_true]
    cases xs with
    | nil => rfl
    | cons x xs => simp [fzl, h2]
theorem RSl.frz' {α : Type} {es d : Nat} {mk mk' : α → List GV} {E : Rel α} (hG : Good es d mk E) {n : Nat} {h : Heap} (hE : ∀ c x R, E h c x R → Frz n h c (mk' x)) : ∀ c xs R, RSl es E h c xs R → Frz (n + 1) h c [fzl false es mk' xs] := fun c xs R he => by
  obtain ⟨v, rfl⟩ := List.length_eq_one_iff.1 ((RSl.good hG).len he)
  exact RSl.frz hG hE he
theorem RSeq.frz {α β : Type} {E : Rel α} {F : Rel β} {n : Nat} {h : Heap} {mk1 : α → List GV} {mk2 : β → List GV} (hE : ∀ c x R, E h c x R → Frz n h c (mk1 x)) (hF : ∀ c x R, F h c x R → Frz n h c (mk2 x)) : ∀ c x R, RSeq E F h c x R → Frz n h c (mk1 x.1 ++ mk2 x.2) := by
  rintro c x R ⟨c1, c2, R1, R2, rfl, rfl, h1, h2⟩
  exact .append (hE _ _ _ h1) (hF _ _ _ h2)
theorem flat_frz {α : Type} {mk : α → List GV} (hp : ∀ x, (mk x).all Pl = true) {d : Nat} {h : Heap} : ∀ c x R, RFl mk h c x R → Frz (d + 1) h c (mk x) := fun c x R he => RFl.frz hp he
/-! Which blocks data lead to. -/
def Cl {α : Type} (d : Nat) (E : Rel α) : Prop := ∀ {h : Heap} {c : List GV} {x : α} {R : List Nat}, E h c x R → ∀ D, kcll (kcl (D + d) h) c = some R
theorem kcll_pl {d : Nat} {h : Heap} : ∀ {l : List GV}, l.all Pl = true → kcll (kcl d h) l = some []
  | [], _ => rfl
  | g :: l, hl => by
    rw [List.all_cons, Bool.and_eq_true] at hl
    have e : kcl d h g = some [] := by
      cases g <;> first | (cases d <;> rfl) | cases hl.1
    unfold kcll
    rw [e, kcll_pl hl.2]; rfl
theorem kcll_app {f : GV → Option (List Nat)} : ∀ {l m : List GV} {a b : List Nat}, kcll f l = some a → kcll f m = some b → kcll f (l ++ m) = some (a ++ b)
  | [], m, a, b, h1, h2 => by cases h1; exact h2
  | g :: l, m, a, b, h1, h2 => by
    unfold kcll at h1
    obtain ⟨p, e1, h1⟩ := Option.bind_eq_some_iff.1 h1
    obtain ⟨q, e2, h1⟩ := Option.bind_eq_some_iff.1 h1
    cases h1
    rw [List.cons_append]
    unfold kcll
    rw [e1, kcll_app e2 h2]
    simp
theorem RFl.cl {α : Type} {mk : α → List GV} (hp : ∀ x, (mk x).all Pl = true) {d : Nat} : Cl d (RFl mk) := by
  rintro h c x R ⟨rfl, rfl⟩ D
  exact kcll_pl (hp x)
theorem RSeq.cl {α β : Type} {d : Nat} {E : Rel α} {F : Rel β} (hE : Cl d E) (hF : Cl d F) : Cl d (RSeq E F) := by
  rintro h c x R ⟨c1, c2, R1, R2, rfl, rfl, h1, h2⟩ D
  exact kcll_app (hE h1 D) (hF h2 D)
theorem RSl.cl {α : Type} {es d : Nat} {E : Rel α} (hE : Cl d E) : Cl (d + 1) (RSl es E) := by
  rintro h c xs R (⟨rfl, rfl, hc⟩ | ⟨b, css, Rs, rfl, hb, ha, rfl⟩) D
  · rcases hc with rfl | rfl <;> rfl
  · have key : ∀ {css : List (List GV)} {xs : List α} {Rs : List (List Nat)}, All3 (E h) css xs Rs → kcll (kcl (D + d) h) css.flatten = some Rs.flatten := by
      intro css xs Rs ha
      induction ha with
      | nil => rfl
      | cons a _ ih => rw [List.flatten_cons, List.flatten_cons]; exact kcll_app (hE a D) ih
    have e : kcl (D + (d + 1)) h (.sl b 0 xs.length xs.length es) = some (b :: Rs.flatten) := by
      rw [← Nat.add_assoc]
      simp only [kcl, hb, key ha, Option.bind_some]
    simp only [kcll, e, Option.bind_some]
    simp
theorem Cl.mono {α : Type} {d d' : Nat} {E : Rel α} (hE : Cl d E) (hd : d ≤ d') : Cl d' E := fun {h c x R} he D => by
  have := hE he (D + (d' - d))
  rwa [show D + (d' - d) + d = D + d' by omega] at this
/-- Arguments of a call in the caller's heap. -/
theorem Cl.agg {α : Type} {d : Nat} {E : Rel α} (hE : Cl d E) (hd : d ≤ 8) {h : Heap} {c : List GV} {x : α} {R : List Nat} (he : E h c x R) : kcl 9 h (.agg c) = some R := by
  have := hE he (8 - d)
  rw [show 8 - d + d = 8 by omega] at this
  exact this
end Go.Proofs.Ytlbnioapepelnaa.G

namespace Go.Proofs.Ytlbnioapepelnaa.G
open Go.RowKit
set_option linter.unusedVariables false
set_option linter.unusedSimpArgs false
theorem rGrid_frz {d : Nat} {h : Heap} : ∀ c x R, rGrid h c x R → Frz (d + 3) h c (mGrid false x) :=
  RSeq.frz (flat_frz (fun _ => rfl)) (RSl.frz' goodCellS (RSl.frz' gCell (fun c x R he => RFl.frz (mk := mCell false) (fun _ => rfl) he)))
/-- Nothing. -/
theorem rGrid0 {H : Heap} : rGrid H [.int .i64 0, .nils] (0, []) [] := ⟨[.int .i64 0], [.nils], [], [], rfl, rfl, ⟨rfl, rfl⟩, Or.inl ⟨rfl, rfl, Or.inr rfl⟩⟩
theorem rGrid_of {H : Heap} {c : List GV} {g : GridT} {R : List Nat} (h : rGrid H c g R) : ∃ v, c = gridC g.1 v ∧ rCellSS H [v] g.2 R := by
  obtain ⟨c1, c2, R1, R2, rfl, rfl, ⟨rfl, rfl⟩, h2⟩ := h
  obtain ⟨v, rfl⟩ := List.length_eq_one_iff.1 (goodCellSS.len h2)
  exact ⟨v, rfl, h2⟩
theorem rGrid_mk {H : Heap} {c : Int} {v : GV} {rows : List (List CellT)} {R : List Nat} (h : rCellSS H [v] rows R) : rGrid H (gridC c v) (c, rows) R := ⟨[.int .i64 c], [v], [], R, rfl, rfl, ⟨rfl, rfl⟩, h⟩
theorem gridB_rows {g : GridT} (h : gridB g = true) : ∀ row ∈ g.2, row.length ≠ 0 ∧ row.length ≤ 1048576 := fun row hr => by
  obtain ⟨hc, _, hrow⟩ := gridB_iff.1 h
  have := (hrow row hr).1
  omega
theorem kstore_all {H : Heap} {p n : Nat} {z c : List GV} (h : H[p]? = some z) (hz : z.length = n) (hl : c.length = n) (hc : c.all GV.isCell = true) : kstore n H (.ptr p 0 n) (.agg c) = some (H.set p c) := by
  rw [kstore_ptr, cells_agg, if_pos ⟨hl, hc⟩, cellsAt_if]
  simp only [h, Option.bind_some, hz, if_true]
  rw [if_pos (by omega)]
  congr 2
  unfold splice
  rw [List.take_zero, List.nil_append, Nat.zero_add, hl, ← hz, List.drop_length, List.append_nil]
theorem var_new' {H : Heap} {z c : List GV} {n : Nat} (hz : z.length = n) (hl : c.length = n) (hc : c.all GV.isCell = true) : kstore n (H ++ [z]) (.ptr H.length 0 n) (.agg c) = some (H ++ [c]) := by
  rw [kstore_all (z := z) (by simp) hz hl hc]
  simp
theorem impl_Up_spec (g : GridT) (hok : okGrid g) (top bot n : Int) (s : StyT) (b : Nat) : ∃ c bl, OO fn.impl_Up [.agg (mGrid true g), .int .i64 top, .int .i64 bot, .int .i64 n, styG s] b = some (.agg c, bl) ∧ ∀ H T, H.length = b → rGrid (H ++ bl ++ T) c (upM g top bot n s) (List.range' b bl.length) := by
  have ks := fun H => kN_at (H := H) (args := [.agg (mGrid true g), .int .i64 top, .int .i64 bot, .int .i64 n, styG s]) (by simp) (impl_isScroll_spec g hok top bot n s)
  have hr : g.2.length ≤ 1048576 := hok.1
  have cpy := fun (hb : gridB g = true) H => fresh_agg goodGrid (f := fn.impl_Grid_copied) (args := [.agg (mGrid true g)]) (xs := [.agg (mGrid true g)]) (H := H) (by simp) (impl_Grid_copied_spec g hr (gridB_rows hb) H.length)
  obtain ⟨Z, hZ⟩ : ∃ Z, styC s = Z := ⟨_, rfl⟩
  have hZL : Z.length = 5 := by rw [← hZ]; rfl
  have hsg : styG s = .agg Z := by rw [← hZ]
  have upo := fun {p : Nat} {H : Heap} {vR : GV} {R : List Nat} (hp : H[p]? = some (gridC g.1 vR)) (hr : rCellSS H [vR] g.2 R) (nd : R.Nodup) (hpR : p ∉ R) (hs : scrollB g top bot n s = true) => up_op (c := g.1) (rows := g.2) hp hr nd hpR hs
  rw [hsg] at ks upo ⊢
  obtain ⟨M, hM⟩ : ∃ M, mGrid true g = M := ⟨_, rfl⟩
  have hML : M.length = 2 := by rw [← hM]; rfl
  rw [hM] at ks cpy ⊢
  have hb1 : ∀ {Q : Type} (K : GV → Heap → Option Q), kbox (.agg M) [] K = K (.ptr 0 0 2) [M] := fun K => by rw [kbox_agg, hML]; rfl
  have hb2 : ∀ {Q : Type} (K : GV → Heap → Option Q), kbox (.agg Z) [M] K = K (.ptr 1 0 5) [M, Z] := fun K => by rw [kbox_agg, hZL]; rfl
  have hal : ∀ {Q : Type} (K : GV → Heap → Option Q), kalloc [.int .i64 0, .nils] [M, Z] K = K (.ptr 2 0 2) [M, Z, [.int .i64 0, .nils]] := fun K => rfl
  obtain ⟨H, hH⟩ : ∃ H : Heap, [M, Z, [.int .i64 0, .nils]] = H := ⟨_, rfl⟩
  have I0 : H[0]? = some M := by rw [← hH]; rfl
  have I1 : H[1]? = some Z := by rw [← hH]; rfl
  have I2 : H[2]? = some [.int .i64 0, .nils] := by rw [← hH]; rfl
  have hl : H.length = 3 := by rw [← hH]; rfl
  rw [hH] at hal
  have q0 := kloadA_at (n := 2) I0 hML
  have q1 := kloadA_at (n := 5) I1 hZL
  have ks := ks H
  unfold upM
  cases hs : scrollB g top bot n s
  · rw [hs] at ks
    rw [if_neg (by decide)]
    obtain ⟨c', bl, f1, f2⟩ := goodGrid.finS (by omega) (rGrid0 (H := H)) List.nodup_nil b
    have st : kstore 2 H (.ptr 2 0 2) (.agg [.int .i64 0, .nils]) = some H := by
      rw [kstore_all (n := 2) I2 rfl rfl rfl]
      rw [← hH]; rfl
    have qR := kloadA_at (n := 2) I2 rfl
    refine ⟨c', bl, S.impl_Up.gives (k := 0) ?_, f2⟩
    unfold S.impl_Up.run S.impl_Up.n0
    rw [hb1, hb2, hal]
    simp [q0, q1, ks, gfill, st, qR, f1, -kN_eq, -kloadA_ptr, -kstore_ptr, -kalloc_eq]
  · rw [hs] at ks
    rw [if_pos rfl]
    obtain ⟨hg, -, -, -, -, -⟩ := scrollB_iff.1 hs
    obtain ⟨c', R, H1, t1, r1, n1, b1, f1, l1⟩ := cpy hg H
    obtain ⟨vR, rfl, rr⟩ := rGrid_of r1
    obtain ⟨H2, hH2⟩ : ∃ H2, H1 ++ [gridC g.1 vR] = H2 := ⟨_, rfl⟩
    have f2 : Fr [] H1 H2 := by rw [← hH2]; exact .app
    have G2 : H2[H1.length]? = some (gridC g.1 vR) := by rw [← hH2]; simp
    have al : ∀ {Q : Type} (K : GV → Heap → Option Q), kalloc [.int .i64 0, .nils] H1 K = K (.ptr H1.length 0 2) (H1 ++ [[.int .i64 0, .nils]]) := fun K => rfl
    have st : kstore 2 (H1 ++ [[.int .i64 0, .nils]]) (.ptr H1.length 0 2) (.agg (gridC g.1 vR)) = some H2 := by
      rw [← hH2]
      have vc := cell_of rr
      exact var_new' rfl rfl (by simp [vc.2])
    have Z2 := (f1.trans f2).blk I1 no_nil
    have q2 := kloadA_at (n := 5) Z2 hZL
    have rr2 := goodCellSS.keep rr f2 (fun _ _ => no_nil)
    obtain ⟨H3, R3, t3, G3, r3, n3, b3, f3⟩ := upo G2 rr2 n1 (b1.no (Or.inr (Nat.le_refl _))) hs
    have q3 := kloadA_at (n := 2) G3 rfl
    have I2' := f3.blk ((f1.trans f2).blk I2 no_nil) (b1.no (Or.inl (by omega)))
    obtain ⟨H4, hH4⟩ : ∃ H4, H3.set 2 (gridC g.1 vR) = H4 := ⟨_, rfl⟩
    have st2 : kstore 2 H3 (.ptr 2 0 2) (.agg (gridC g.1 vR)) = some H4 := by
      rw [← hH4]
      have vc := cell_of r3
      exact kstore_all I2' rfl (by simp) (by simp [vc.2])
    have hl2 := (List.getElem?_eq_some_iff.1 I2').1
    have I4 : H4[2]? = some (gridC g.1 vR) := by rw [← hH4, List.getElem?_set_self hl2]
    have n2 : 2 ∉ R3 := fun h => by
      have := f2.1
      rcases b3 2 h with h | h
      · have := b1 2 h; omega
      · omega
    have r4 := goodCellSS.keep r3 (show Fr [2] H3 H4 by rw [← hH4]; exact .set (by simp)) (fun i hi => by simp; exact fun e => n2 (e ▸ hi))
    have q4 := kloadA_at (n := 2) I4 rfl
    obtain ⟨c', bl, e1, e2⟩ := goodGrid.finS (by omega) (rGrid_mk r4 (c := g.1)) n3 b
    refine ⟨c', bl, S.impl_Up.gives (k := 0) ?_, e2⟩
    unfold S.impl_Up.run S.impl_Up.n0
    rw [hb1, hb2, hal]
    simp [q0, q1, ks, t1, al, st, q2, t3, q3, st2, q4, e1, -kN_eq, -kF_OO, -kloadA_ptr, -kstore_ptr, -kalloc_eq]
theorem impl_Down_spec (g : GridT) (hok : okGrid g) (top bot n : Int) (s : StyT) (b : Nat) : ∃ c bl, OO fn.impl_Down [.agg (mGrid true g), .int .i64 top, .int .i64 bot, .int .i64 n, styG s] b = some (.agg c, bl) ∧ ∀ H T, H.length = b → rGrid (H ++ bl ++ T) c (downM g top bot n s) (List.range' b bl.length) := by
  have ks := fun H => kN_at (H := H) (args := [.agg (mGrid true g), .int .i64 top, .int .i64 bot, .int .i64 n, styG s]) (by simp) (impl_isScroll_spec g hok top bot n s)
  have hr : g.2.length ≤ 1048576 := hok.1
  have cpy := fun (hb : gridB g = true) H => fresh_agg goodGrid (f := fn.impl_Grid_copied) (args := [.agg (mGrid true g)]) (xs := [.agg (mGrid true g)]) (H := H) (by simp) (impl_Grid_copied_spec g hr (gridB_rows hb) H.length)
  obtain ⟨Z, hZ⟩ : ∃ Z, styC s = Z := ⟨_, rfl⟩
  have hZL : Z.length = 5 := by rw [← hZ]; rfl
  have hsg : styG s = .agg Z := by rw [← hZ]
  have upo := fun {p : Nat} {H : Heap} {vR : GV} {R : List Nat} (hp : H[p]? = some (gridC g.1 vR)) (hr : rCellSS H [vR] g.2 R) (nd : R.Nodup) (hpR : p ∉ R) (hs : scrollB g top bot n s = true) => down_op (c := g.1) (rows := g.2) hp hr nd hpR hs
  rw [hsg] at ks upo ⊢
  obtain ⟨M, hM⟩ : ∃ M, mGrid true g = M := ⟨_, rfl⟩
  have hML : M.length = 2 := by rw [← hM]; rfl
  rw [hM] at ks cpy ⊢
  have hb1 : ∀ {Q : Type} (K : GV → Heap → Option Q), kbox (.agg M) [] K = K (.ptr 0 0 2) [M] := fun K => by rw [kbox_agg, hML]; rfl
  have hb2 : ∀ {Q : Type} (K : GV → Heap → Option Q), kbox (.agg Z) [M] K = K (.ptr 1 0 5) [M, Z] := fun K => by rw [kbox_agg, hZL]; rfl
  have hal : ∀ {Q : Type} (K : GV → Heap → Option Q), kalloc [.int .i64 0, .nils] [M, Z] K = K (.ptr 2 0 2) [M, Z, [.int .i64 0, .nils]] := fun K => rfl
  obtain ⟨H, hH⟩ : ∃ H : Heap, [M, Z, [.int .i64 0, .nils]] = H := ⟨_, rfl⟩
  have I0 : H[0]? = some M := by rw [← hH]; rfl
  have I1 : H[1]? = some Z := by rw [← hH]; rfl
  have I2 : H[2]? = some [.int .i64 0, .nils] := by rw [← hH]; rfl
  have hl : H.length = 3 := by rw [← hH]; rfl
  rw [hH] at hal
  have q0 := kloadA_at (n := 2) I0 hML
  have q1 := kloadA_at (n := 5) I1 hZL
  have ks := ks H
  unfold downM
  cases hs : scrollB g top bot n s
  · rw [hs] at ks
    rw [if_neg (by decide)]
    obtain ⟨c', bl, f1, f2⟩ := goodGrid.finS (by omega) (rGrid0 (H := H)) List.nodup_nil b
    have st : kstore 2 H (.ptr 2 0 2) (.agg [.int .i64 0, .nils]) = some H := by
      rw [kstore_all (n := 2) I2 rfl rfl rfl]
      rw [← hH]; rfl
    have qR := kloadA_at (n := 2) I2 rfl
    refine ⟨c', bl, S.impl_Down.gives (k := 0) ?_, f2⟩
    unfold S.impl_Down.run S.impl_Down.n0
    rw [hb1, hb2, hal]
    simp [q0, q1, ks, gfill, st, qR, f1, -kN_eq, -kloadA_ptr, -kstore_ptr, -kalloc_eq]
  · rw [hs] at ks
    rw [if_pos rfl]
    obtain ⟨hg, -, -, -, -, -⟩ := scrollB_iff.1 hs
    obtain ⟨c', R, H1, t1, r1, n1, b1, f1, l1⟩ := cpy hg H
    obtain ⟨vR, rfl, rr⟩ := rGrid_of r1
    obtain ⟨H2, hH2⟩ : ∃ H2, H1 ++ [gridC g.1 vR] = H2 := ⟨_, rfl⟩
    have f2 : Fr [] H1 H2 := by rw [← hH2]; exact .app
    have G2 : H2[H1.length]? = some (gridC g.1 vR) := by rw [← hH2]; simp
    have al : ∀ {Q : Type} (K : GV → Heap → Option Q), kalloc [.int .i64 0, .nils] H1 K = K (.ptr H1.length 0 2) (H1 ++ [[.int .i64 0, .nils]]) := fun K => rfl
    have st : kstore 2 (H1 ++ [[.int .i64 0, .nils]]) (.ptr H1.length 0 2) (.agg (gridC g.1 vR)) = some H2 := by
      rw [← hH2]
      have vc := cell_of rr
      exact var_new' rfl rfl (by simp [vc.2])
    have Z2 := (f1.trans f2).blk I1 no_nil
    have q2 := kloadA_at (n := 5) Z2 hZL
    have rr2 := goodCellSS.keep rr f2 (fun _ _ => no_nil)
    obtain ⟨H3, R3, t3, G3, r3, n3, b3, f3⟩ := upo G2 rr2 n1 (b1.no (Or.inr (Nat.le_refl _))) hs
    have q3 := kloadA_at (n := 2) G3 rfl
    have I2' := f3.blk ((f1.trans f2).blk I2 no_nil) (b1.no (Or.inl (by omega)))
    obtain ⟨H4, hH4⟩ : ∃ H4, H3.set 2 (gridC g.1 vR) = H4 := ⟨_, rfl⟩
    have st2 : kstore 2 H3 (.ptr 2 0 2) (.agg (gridC g.1 vR)) = some H4 := by
      rw [← hH4]
      have vc := cell_of r3
      exact kstore_all I2' rfl (by simp) (by simp [vc.2])
    have hl2 := (List.getElem?_eq_some_iff.1 I2').1
    have I4 : H4[2]? = some (gridC g.1 vR) := by rw [← hH4, List.getElem?_set_self hl2]
    have n2 : 2 ∉ R3 := fun h => by
      have := f2.1
      rcases b3 2 h with h | h
      · have := b1 2 h; omega
      · omega
    have r4 := goodCellSS.keep r3 (show Fr [2] H3 H4 by rw [← hH4]; exact .set (by simp)) (fun i hi => by simp; exact fun e => n2 (e ▸ hi))
    have q4 := kloadA_at (n := 2) I4 rfl
    obtain ⟨c', bl, e1, e2⟩ := goodGrid.finS (by omega) (rGrid_mk r4 (c := g.1)) n3 b
    refine ⟨c', bl, S.impl_Down.gives (k := 0) ?_, e2⟩
    unfold S.impl_Down.run S.impl_Down.n0
    rw [hb1, hb2, hal]
    simp [q0, q1, ks, t1, al, st, q2, t3, q3, st2, q4, e1, -kN_eq, -kF_OO, -kloadA_ptr, -kstore_ptr, -kalloc_eq]
theorem spec_Up_spec (g : GridT) (hok : okGrid g) (top bot n : Int) (s : StyT) : NN fn.spec_Up [.agg (mGrid true g), .int .i64 top, .int .i64 bot, .int .i64 n, styG s] = some (.agg (mGrid false (upM g top bot n s))) := by
  have ks := fun H => kN_at (H := H) (args := [.agg (mGrid true g), .int .i64 top, .int .i64 bot, .int .i64 n, styG s]) (by simp) (spec_l5Told_spec g hok top bot n s)
  have hr : g.2.length ≤ 1048576 := hok.1
  have cpy := fun H => fresh_agg goodGrid (f := fn.spec_l5Copy) (args := [.agg (mGrid true g)]) (xs := [.agg (mGrid true g)]) (H := H) (by simp) (spec_l5Copy_spec g hr hok.2 H.length)
  obtain ⟨Z, hZ⟩ : ∃ Z, styC s = Z := ⟨_, rfl⟩
  have hZL : Z.length = 5 := by rw [← hZ]; rfl
  have hsg : styG s = .agg Z := by rw [← hZ]
  have upo := fun {p : Nat} {H : Heap} {vR : GV} {R : List Nat} (hp : H[p]? = some (gridC g.1 vR)) (hr : rCellSS H [vR] g.2 R) (nd : R.Nodup) (hpR : p ∉ R) {t bo : Nat} {n : Int} => move_op (c := g.1) (rows := g.2) hp hr nd hpR (t := t) (bo := bo) (n := n) (s := s)
  rw [hsg] at ks ⊢
  simp only [hsg] at upo
  obtain ⟨M, hM⟩ : ∃ M, mGrid true g = M := ⟨_, rfl⟩
  have hML : M.length = 2 := by rw [← hM]; rfl
  rw [hM] at ks cpy ⊢
  have hb1 : ∀ {Q : Type} (K : GV → Heap → Option Q), kbox (.agg M) [] K = K (.ptr 0 0 2) [M] := fun K => by rw [kbox_agg, hML]; rfl
  have hb2 : ∀ {Q : Type} (K : GV → Heap → Option Q), kbox (.agg Z) [M] K = K (.ptr 1 0 5) [M, Z] := fun K => by rw [kbox_agg, hZL]; rfl
  have hal : ∀ {Q : Type} (K : GV → Heap → Option Q), kalloc [.int .i64 0, .nils] [M, Z] K = K (.ptr 2 0 2) [M, Z, [.int .i64 0, .nils]] := fun K => rfl
  obtain ⟨H, hH⟩ : ∃ H : Heap, [M, Z, [.int .i64 0, .nils]] = H := ⟨_, rfl⟩
  have I0 : H[0]? = some M := by rw [← hH]; rfl
  have I1 : H[1]? = some Z := by rw [← hH]; rfl
  have I2 : H[2]? = some [.int .i64 0, .nils] := by rw [← hH]; rfl
  have hl : H.length = 3 := by rw [← hH]; rfl
  rw [hH] at hal
  have q0 := kloadA_at (n := 2) I0 hML
  have q1 := kloadA_at (n := 5) I1 hZL
  have ks := ks H
  unfold upM
  cases hs : scrollB g top bot n s
  · rw [hs] at ks
    rw [if_neg (by decide)]
    have st : kstore 2 H (.ptr 2 0 2) (.agg [.int .i64 0, .nils]) = some H := by
      rw [kstore_all (n := 2) I2 rfl rfl rfl]
      rw [← hH]; rfl
    have qR := kloadA_at (n := 2) I2 rfl
    have e1 : finN (.agg [.int .i64 0, .nils]) H = some (.agg (mGrid false (0, []))) := rfl
    refine S.spec_Up.gives (k := 0) ?_
    unfold S.spec_Up.run S.spec_Up.n0
    rw [hb1, hb2, hal]
    simp [q0, q1, ks, gfill, st, qR, e1, -kN_eq, -kloadA_ptr, -kstore_ptr, -kalloc_eq]
  · rw [hs] at ks
    rw [if_pos rfl]
    obtain ⟨hg, -, hn, ht, htb, hbo⟩ := scrollB_iff.1 hs
    obtain ⟨hc, hrl, -⟩ := gridB_iff.1 hg
    obtain ⟨t, rfl⟩ : ∃ t : Nat, top = (t : Int) := ⟨top.toNat, by omega⟩
    obtain ⟨bo, rfl⟩ : ∃ t : Nat, bot = (t : Int) := ⟨bot.toNat, by omega⟩
    obtain ⟨c', R, H1, t1, r1, n1, b1, f1, l1⟩ := cpy H
    obtain ⟨vR, rfl, rr⟩ := rGrid_of r1
    obtain ⟨H2, hH2⟩ : ∃ H2, H1 ++ [gridC g.1 vR] = H2 := ⟨_, rfl⟩
    have f2 : Fr [] H1 H2 := by rw [← hH2]; exact .app
    have G2 : H2[H1.length]? = some (gridC g.1 vR) := by rw [← hH2]; simp
    have al : ∀ {Q : Type} (K : GV → Heap → Option Q), kalloc [.int .i64 0, .nils] H1 K = K (.ptr H1.length 0 2) (H1 ++ [[.int .i64 0, .nils]]) := fun K => rfl
    have st : kstore 2 (H1 ++ [[.int .i64 0, .nils]]) (.ptr H1.length 0 2) (.agg (gridC g.1 vR)) = some H2 := by
      rw [← hH2]
      have vc := cell_of rr
      exact var_new' rfl rfl (by simp [vc.2])
    have Z2 := (f1.trans f2).blk I1 no_nil
    have q2 := kloadA_at (n := 5) Z2 hZL
    have rr2 := goodCellSS.keep rr f2 (fun _ _ => no_nil)
    obtain ⟨H3, R3, t3, G3, r3, b3, f3⟩ := upo G2 rr2 n1 (b1.no (Or.inr (Nat.le_refl _))) (t := t) (bo := bo) (n := n) hc (by omega) (by omega) (by omega) (by omega)
    have q3 := kloadA_at (n := 2) G3 rfl
    rw [move_up (by omega) (by omega) (by omega)] at r3
    have I2' := f3.blk ((f1.trans f2).blk I2 no_nil) (b1.no (Or.inl (by omega)))
    obtain ⟨H4, hH4⟩ : ∃ H4, H3.set 2 (gridC g.1 vR) = H4 := ⟨_, rfl⟩
    have st2 : kstore 2 H3 (.ptr 2 0 2) (.agg (gridC g.1 vR)) = some H4 := by
      rw [← hH4]
      have vc := cell_of r3
      exact kstore_all I2' rfl (by simp) (by simp [vc.2])
    have hl2 := (List.getElem?_eq_some_iff.1 I2').1
    have I4 : H4[2]? = some (gridC g.1 vR) := by rw [← hH4, List.getElem?_set_self hl2]
    have n2 : 2 ∉ R3 := fun h => by
      have := f2.1
      rcases b3 2 h with h | h
      · have := b1 2 h; omega
      · omega
    have r4 := goodCellSS.keep r3 (show Fr [2] H3 H4 by rw [← hH4]; exact .set (by simp)) (fun i hi => by simp; exact fun e => n2 (e ▸ hi))
    have q4 := kloadA_at (n := 2) I4 rfl
    have e1 := finN_of (frz_agg (rGrid_frz (d := 5) _ _ _ (rGrid_mk r4 (c := g.1))))
    refine S.spec_Up.gives (k := 0) ?_
    have et : ((t : Int)).toNat = t := by omega
    have eb : ((bo : Int)).toNat = bo := by omega
    rw [et, eb]
    unfold S.spec_Up.run S.spec_Up.n0
    rw [hb1, hb2, hal]
    simp [q0, q1, ks, t1, al, st, q2, t3, q3, st2, q4, e1, -kN_eq, -kF_OO, -kloadA_ptr, -kstore_ptr, -kalloc_eq, -kun_neg]
theorem spec_Down_spec (g : GridT) (hok : okGrid g) (top bot n : Int) (s : StyT) : NN fn.spec_Down [.agg (mGrid true g), .int .i64 top, .int .i64 bot, .int .i64 n, styG s] = some (.agg (mGrid false (downM g top bot n s))) := by
  have ks := fun H => kN_at (H := H) (args := [.agg (mGrid true g), .int .i64 top, .int .i64 bot, .int .i64 n, styG s]) (by simp) (spec_l5Told_spec g hok top bot n s)
  have hr : g.2.length ≤ 1048576 := hok.1
  have cpy := fun H => fresh_agg goodGrid (f := fn.spec_l5Copy) (args := [.agg (mGrid true g)]) (xs := [.agg (mGrid true g)]) (H := H) (by simp) (spec_l5Copy_spec g hr hok.2 H.length)
  obtain ⟨Z, hZ⟩ : ∃ Z, styC s = Z := ⟨_, rfl⟩
  have hZL : Z.length = 5 := by rw [← hZ]; rfl
  have hsg : styG s = .agg Z := by rw [← hZ]
  have upo := fun {p : Nat} {H : Heap} {vR : GV} {R : List Nat} (hp : H[p]? = some (gridC g.1 vR)) (hr : rCellSS H [vR] g.2 R) (nd : R.Nodup) (hpR : p ∉ R) {t bo : Nat} {n : Int} => move_op (c := g.1) (rows := g.2) hp hr nd hpR (t := t) (bo := bo) (n := n) (s := s)
  rw [hsg] at ks ⊢
  simp only [hsg] at upo
  obtain ⟨M, hM⟩ : ∃ M, mGrid true g = M := ⟨_, rfl⟩
  have hML : M.length = 2 := by rw [← hM]; rfl
  rw [hM] at ks cpy ⊢
  have hb1 : ∀ {Q : Type} (K : GV → Heap → Option Q), kbox (.agg M) [] K = K (.ptr 0 0 2) [M] := fun K => by rw [kbox_agg, hML]; rfl
  have hb2 : ∀ {Q : Type} (K : GV → Heap → Option Q), kbox (.agg Z) [M] K = K (.ptr 1 0 5) [M, Z] := fun K => by rw [kbox_agg, hZL]; rfl
  have hal : ∀ {Q : Type} (K : GV → Heap → Option Q), kalloc [.int .i64 0, .nils] [M, Z] K = K (.ptr 2 0 2) [M, Z, [.int .i64 0, .nils]] := fun K => rfl
  obtain ⟨H, hH⟩ : ∃ H : Heap, [M, Z, [.int .i64 0, .nils]] = H := ⟨_, rfl⟩
  have I0 : H[0]? = some M := by rw [← hH]; rfl
  have I1 : H[1]? = some Z := by rw [← hH]; rfl
  have I2 : H[2]? = some [.int .i64 0, .nils] := by rw [← hH]; rfl
  have hl : H.length = 3 := by rw [← hH]; rfl
  rw [hH] at hal
  have q0 := kloadA_at (n := 2) I0 hML
  have q1 := kloadA_at (n := 5) I1 hZL
  have ks := ks H
  unfold downM
  cases hs : scrollB g top bot n s
  · rw [hs] at ks
    rw [if_neg (by decide)]
    have st : kstore 2 H (.ptr 2 0 2) (.agg [.int .i64 0, .nils]) = some H := by
      rw [kstore_all (n := 2) I2 rfl rfl rfl]
      rw [← hH]; rfl
    have qR := kloadA_at (n := 2) I2 rfl
    have e1 : finN (.agg [.int .i64 0, .nils]) H = some (.agg (mGrid false (0, []))) := rfl
    refine S.spec_Down.gives (k := 0) ?_
    unfold S.spec_Down.run S.spec_Down.n0
    rw [hb1, hb2, hal]
    simp [q0, q1, ks, gfill, st, qR, e1, -kN_eq, -kloadA_ptr, -kstore_ptr, -kalloc_eq]
  · rw [hs] at ks
    rw [if_pos rfl]
    obtain ⟨hg, -, hn, ht, htb, hbo⟩ := scrollB_iff.1 hs
    obtain ⟨hc, hrl, -⟩ := gridB_iff.1 hg
    obtain ⟨t, rfl⟩ : ∃ t : Nat, top = (t : Int) := ⟨top.toNat, by omega⟩
    obtain ⟨bo, rfl⟩ : ∃ t : Nat, bot = (t : Int) := ⟨bot.toNat, by omega⟩
    obtain ⟨c', R, H1, t1, r1, n1, b1, f1, l1⟩ := cpy H
    obtain ⟨vR, rfl, rr⟩ := rGrid_of r1
    obtain ⟨H2, hH2⟩ : ∃ H2, H1 ++ [gridC g.1 vR] = H2 := ⟨_, rfl⟩
    have f2 : Fr [] H1 H2 := by rw [← hH2]; exact .app
    have G2 : H2[H1.length]? = some (gridC g.1 vR) := by rw [← hH2]; simp
    have al : ∀ {Q : Type} (K : GV → Heap → Option Q), kalloc [.int .i64 0, .nils] H1 K = K (.ptr H1.length 0 2) (H1 ++ [[.int .i64 0, .nils]]) := fun K => rfl
    have st : kstore 2 (H1 ++ [[.int .i64 0, .nils]]) (.ptr H1.length 0 2) (.agg (gridC g.1 vR)) = some H2 := by
      rw [← hH2]
      have vc := cell_of rr
      exact var_new' rfl rfl (by simp [vc.2])
    have Z2 := (f1.trans f2).blk I1 no_nil
    have q2 := kloadA_at (n := 5) Z2 hZL
    have rr2 := goodCellSS.keep rr f2 (fun _ _ => no_nil)
    obtain ⟨H3, R3, t3, G3, r3, b3, f3⟩ := upo G2 rr2 n1 (b1.no (Or.inr (Nat.le_refl _))) (t := t) (bo := bo) (n := -n) hc (by omega) (by omega) (by omega) (by omega)
    have q3 := kloadA_at (n := 2) G3 rfl
    rw [move_down (by omega) (by omega) (by omega)] at r3
    have I2' := f3.blk ((f1.trans f2).blk I2 no_nil) (b1.no (Or.inl (by omega)))
    obtain ⟨H4, hH4⟩ : ∃ H4, H3.set 2 (gridC g.1 vR) = H4 := ⟨_, rfl⟩
    have st2 : kstore 2 H3 (.ptr 2 0 2) (.agg (gridC g.1 vR)) = some H4 := by
      rw [← hH4]
      have vc := cell_of r3
      exact kstore_all I2' rfl (by simp) (by simp [vc.2])
    have hl2 := (List.getElem?_eq_some_iff.1 I2').1
    have I4 : H4[2]? = some (gridC g.1 vR) := by rw [← hH4, List.getElem?_set_self hl2]
    have n2 : 2 ∉ R3 := fun h => by
      have := f2.1
      rcases b3 2 h with h | h
      · have := b1 2 h; omega
      · omega
    have r4 := goodCellSS.keep r3 (show Fr [2] H3 H4 by rw [← hH4]; exact .set (by simp)) (fun i hi => by simp; exact fun e => n2 (e ▸ hi))
    have q4 := kloadA_at (n := 2) I4 rfl
    have e1 := finN_of (frz_agg (rGrid_frz (d := 5) _ _ _ (rGrid_mk r4 (c := g.1))))
    refine S.spec_Down.gives (k := 0) ?_
    have et : ((t : Int)).toNat = t := by omega
    have eb : ((bo : Int)).toNat = bo := by omega
    rw [et, eb]
    have hneg : kun .neg (.int .i64 n) = some (.int .i64 (-n)) := by rw [kun_neg, wrap_id (by omega) (by omega), Int.zero_sub]
    unfold S.spec_Down.run S.spec_Down.n0
    rw [hb1, hb2, hal]
    simp [q0, q1, ks, t1, al, st, q2, hneg, t3, q3, st2, q4, e1, -kN_eq, -kF_OO, -kloadA_ptr, -kstore_ptr, -kalloc_eq, -kun_neg]
end Go.Proofs.Ytlbnioapepelnaa.G

namespace Go.Proofs.Ytlbnioapepelnaa.G
open Go.RowKit
set_option linter.unusedVariables false
set_option linter.unusedSimpArgs false
theorem rows_ok {rows : List (List CellT)} {c : Int} (h1 : rows.length ≤ 1048576) (h2 : ∀ row ∈ rows, row.length ≤ 1048576) : okGrid (c, rows) := ⟨h1, h2⟩
theorem blanksM_row {c : Int} {s : StyT} {n : Nat} (hc : c ≤ 60) : ∀ row ∈ blanksM c s n, row.length ≤ 1048576 := fun row hr => by
  unfold blanksM at hr
  rw [List.mem_replicate] at hr
  rw [hr.2, List.length_replicate]; omega
theorem upM_ok (g : GridT) (hok : okGrid g) (top bot n : Int) (s : StyT) : okGrid (upM g top bot n s) := by
  unfold upM
  by_cases h : scrollB g top bot n s = true
  · rw [if_pos h]
    obtain ⟨hg, -, hn, ht, htb, hb⟩ := scrollB_iff.1 h
    obtain ⟨hc, hrl, hrow⟩ := gridB_iff.1 hg
    have hk : (movN top bot n : Int) = min n (bot - top + 1) := by unfold movN; rw [Int.toNat_of_nonneg]; omega
    refine rows_ok ?_ fun row hr => ?_
    · have := upR_len g.2 top.toNat bot.toNat (movN top bot n) (blanksM g.1 s (movN top bot n)) (by omega) (by omega) (by omega) List.length_replicate
      rw [this]; exact hok.1
    · unfold upR at hr
      simp only [List.mem_append] at hr
      rcases hr with (hr | hr | hr) | hr
      · exact hok.2 _ (List.mem_of_mem_take hr)
      · exact hok.2 _ (List.mem_of_mem_drop (List.mem_of_mem_take hr))
      · exact blanksM_row (by omega) _ hr
      · exact hok.2 _ (List.mem_of_mem_drop hr)
  · rw [if_neg h]; exact rows_ok (by simp) (fun row hr => by cases hr)
theorem downM_ok (g : GridT) (hok : okGrid g) (top bot n : Int) (s : StyT) : okGrid (downM g top bot n s) := by
  unfold downM
  by_cases h : scrollB g top bot n s = true
  · rw [if_pos h]
    obtain ⟨hg, -, hn, ht, htb, hb⟩ := scrollB_iff.1 h
    obtain ⟨hc, hrl, hrow⟩ := gridB_iff.1 hg
    have hk : (movN top bot n : Int) = min n (bot - top + 1) := by unfold movN; rw [Int.toNat_of_nonneg]; omega
    refine rows_ok ?_ fun row hr => ?_
    · have := downR_len g.2 top.toNat bot.toNat (movN top bot n) (blanksM g.1 s (movN top bot n)) (by omega) (by omega) (by omega) List.length_replicate
      rw [this]; exact hok.1
    · unfold downR at hr
      simp only [List.mem_append] at hr
      rcases hr with (hr | hr | hr) | hr
      · exact hok.2 _ (List.mem_of_mem_take hr)
      · exact blanksM_row (by omega) _ hr
      · exact hok.2 _ (List.mem_of_mem_drop (List.mem_of_mem_take hr))
      · exact hok.2 _ (List.mem_of_mem_drop hr)
  · rw [if_neg h]; exact rows_ok (by simp) (fun row hr => by cases hr)
theorem impl_Up_specL (g : GridT) (hok : okGrid g) (top bot n : Int) (s : StyT) (b : Nat) : ∃ c bl, OO fn.impl_Up [.agg (mGrid true g), .int .i64 top, .int .i64 bot, .int .i64 n, .agg (mStyle true s)] b = some (.agg c, bl) ∧ ∀ H T, H.length = b → rGrid (H ++ bl ++ T) c (upM g top bot n s) (List.range' b bl.length) := impl_Up_spec g hok top bot n s b
theorem spec_Up_specL (g : GridT) (hok : okGrid g) (top bot n : Int) (s : StyT) : NN fn.spec_Up [.agg (mGrid true g), .int .i64 top, .int .i64 bot, .int .i64 n, .agg (mStyle true s)] = some (.agg (mGrid false (upM g top bot n s))) := spec_Up_spec g hok top bot n s
theorem impl_Down_specL (g : GridT) (hok : okGrid g) (top bot n : Int) (s : StyT) (b : Nat) : ∃ c bl, OO fn.impl_Down [.agg (mGrid true g), .int .i64 top, .int .i64 bot, .int .i64 n, .agg (mStyle true s)] b = some (.agg c, bl) ∧ ∀ H T, H.length = b → rGrid (H ++ bl ++ T) c (downM g top bot n s) (List.range' b bl.length) := impl_Down_spec g hok top bot n s b
theorem spec_Down_specL (g : GridT) (hok : okGrid g) (top bot n : Int) (s : StyT) : NN fn.spec_Down [.agg (mGrid true g), .int .i64 top, .int .i64 bot, .int .i64 n, .agg (mStyle true s)] = some (.agg (mGrid false (downM g top bot n s))) := spec_Down_spec g hok top bot n s
end Go.Proofs.Ytlbnioapepelnaa.G

namespace Go.Proofs.Ytlbnioapepelnaa.G
open Go.RowKit
set_option linter.unusedVariables false
set_option maxRecDepth 100000
noncomputable section
variable {R : Type} (k : Nat)
/-! laws_FnExactUp -/
namespace S.laws_FnExactUp
noncomputable def c0 : Code := bodyOf Try.f12
noncomputable def c1 : Code := cR c0
noncomputable def c2 : Code := cR c1
noncomputable def c3 : Code := cR c2
noncomputable def c4 : Code := cR c3
noncomputable def c5 : Code := cR c4
noncomputable def c6 : Code := cR c5
noncomputable def c7 : Code := cR c6
noncomputable def c8 : Code := cR c7
noncomputable def c9 : Code := cR c8
noncomputable def c10 : Code := cR c9
noncomputable def c11 : Code := cR c10
noncomputable def c12 : Code := cR c11
noncomputable def c13 : Code := cR c12
noncomputable def c14 : Code := cR c13
noncomputable def c15 : Code := cR c14
noncomputable def c16 : Code := cR c15
noncomputable def c17 : Code := cR c16
noncomputable def c18 : Code := cR c17
noncomputable def c19 : Code := cR c18
@[simp] def n19 {R : Type} (k : Nat) (G : KT1 R) (v10 v12 v14 v16 v18 : GV) (h : Heap) : Option R := (kloadA 2 h v18).bind fun v80 => (kloadA 2 h v12).bind fun v81 => (kN NN fn.laws_eqGrid [v80, v81] h).bind fun v82 => (kun .not v82).bind fun v83 => kcond v83 (G .ret (.bool false) h) ((kloadA 2 h v14).bind fun v84 => (kN NN fn.laws_heldGrid [v84, (.int .i64 1)] h).bind fun v86 => (kbin .lss v86 (.int .i64 0)).bind fun v88 => kcond v88 (G .ret (.bool false) h) ((kbin .neq v86 v16).bind fun v91 => kcond v91 (G .ret (.bool false) h) (G .ret (.bool true) h)))
theorem n19_eq (G : KT1 R) (σ : GS) (h : Heap) : KC k 92 c19 σ h (fun x σ h => G x (σ 10) h) = n19 k G (σ 10) (σ 12) (σ 14) (σ 16) (σ 18) h := by kernel_rfl
noncomputable def c20 : Code := cL c18
noncomputable def o20 : Array Oper := cO c20
@[simp] def g20_0 {R : Type} (k : Nat) (G : KT5 R) (v1 v2 v3 v5 v9 v10 v12 v14 v16 : GV) (rs : List Rec) (h : Heap) : Option R := (kloadA 2 h v5).bind fun v72 => kold h fun h0 => (kF false HH fn.laws_toGrid [v72] h).bind fun r => kr r fun v73 h => krs (rs ++ [⟨1, h0.length, h.length, ⟨[v72].flatMap (kborr h0), []⟩⟩]) fun rs => kold h fun h0 => (kloadA 5 h v9).bind fun v77 => krs (rs ++ [⟨5, h0.length, h.length, ⟨kblk v9, []⟩⟩]) fun rs => (kN NN fn.laws_toStyle [v77] h).bind fun v78 => (kF false HH fn.impl_Up [v73, v1, v2, v3, v78] h).bind fun r => kr r fun v79 h => kalloc [(.int .i64 0), .nils] h fun v18 h => (kstore 2 h v18 v79).bind fun h => bif chk [(1, 5)] rs then G .nrm v10 v12 v14 v16 v18 h else none
theorem g20_0_eq (G : KT5 R) (rs : List Rec) (σ : GS) (h : Heap) : kgroupsD PP cfg NN HH 92 o20 [(1, 5)] [(none, [0, 1, 2, 3, 4, 5, 6, 7, 8, 9])] rs σ h (fun rs σ h => bif chk [(1, 5)] rs then G .nrm (σ 10) (σ 12) (σ 14) (σ 16) (σ 18) h else none) = g20_0 k G (σ 1) (σ 2) (σ 3) (σ 5) (σ 9) (σ 10) (σ 12) (σ 14) (σ 16) rs h := by kernel_rfl
@[simp] def n20 (G : KT5 R) (v1 v2 v3 v5 v9 v10 v12 v14 v16 : GV) (h : Heap) : Option R := g20_0 k G v1 v2 v3 v5 v9 v10 v12 v14 v16 [] h
theorem n20_eq (G : KT5 R) (σ : GS) (h : Heap) : KC k 92 c20 σ h (fun x σ h => G x (σ 10) (σ 12) (σ 14) (σ 16) (σ 18) h) = n20 k G (σ 1) (σ 2) (σ 3) (σ 5) (σ 9) (σ 10) (σ 12) (σ 14) (σ 16) h := (kregionD_eq (id := 24) (draw := true) (ops := o20) (gs := [(none, [0, 1, 2, 3, 4, 5, 6, 7, 8, 9])]) (bad := [(1, 5)]) (by kernel_rfl) (by kernel_rfl) (by kernel_rfl) (by kernel_rfl) (by kernel_rfl)).trans (g20_0_eq k G [] σ h)
@[simp] def n18 (G : KT1 R) (v1 v2 v3 v5 v9 v10 v12 v14 v16 : GV) (h : Heap) : Option R := n20 k (fun x v10 v12 v14 v16 v18 h => kx x (n19 k G v10 v12 v14 v16 v18 h) (G x v10 h)) v1 v2 v3 v5 v9 v10 v12 v14 v16 h
theorem n18_eq (G : KT1 R) (σ : GS) (h : Heap) : KC k 92 c18 σ h (fun x σ h => G x (σ 10) h) = n18 k G (σ 1) (σ 2) (σ 3) (σ 5) (σ 9) (σ 10) (σ 12) (σ 14) (σ 16) h := (kseq (b := c19) rfl (fun σ h => n19_eq k G σ h)).trans (n20_eq k (fun x v10 v12 v14 v16 v18 h => kx x (n19 k G v10 v12 v14 v16 v18 h) (G x v10 h)) σ h)
noncomputable def c21 : Code := cL c17
@[simp] def n17 (G : KT1 R) (v1 v2 v3 v5 v9 v10 v12 v14 v16 v17 : GV) (h : Heap) : Option R := (kbin .neq v17 v16).bind fun v71 => kcond v71 (G .ret (.bool false) h) (n18 k G v1 v2 v3 v5 v9 v10 v12 v14 v16 h)
theorem n17_eq (G : KT1 R) (σ : GS) (h : Heap) : KC k 92 c17 σ h (fun x σ h => G x (σ 10) h) = n17 k G (σ 1) (σ 2) (σ 3) (σ 5) (σ 9) (σ 10) (σ 12) (σ 14) (σ 16) (σ 17) h := (kseq (a := c21) (b := c18) rfl (fun σ h => n18_eq k G σ h)).trans (by kernel_rfl)
noncomputable def c22 : Code := cL c16
@[simp] def n16 (G : KT1 R) (v1 v2 v3 v5 v9 v10 v12 v14 v16 v17 : GV) (h : Heap) : Option R := (kbin .lss v17 (.int .i64 0)).bind fun v68 => kcond v68 (G .ret (.bool false) h) (n17 k G v1 v2 v3 v5 v9 v10 v12 v14 v16 v17 h)
theorem n16_eq (G : KT1 R) (σ : GS) (h : Heap) : KC k 92 c16 σ h (fun x σ h => G x (σ 10) h) = n16 k G (σ 1) (σ 2) (σ 3) (σ 5) (σ 9) (σ 10) (σ 12) (σ 14) (σ 16) (σ 17) h := (kseq (a := c22) (b := c17) rfl (fun σ h => n17_eq k G σ h)).trans (by kernel_rfl)
noncomputable def c23 : Code := cL c15
@[simp] def n15 (G : KT1 R) (v1 v2 v3 v5 v9 v10 v12 v14 v16 v17 : GV) (h : Heap) : Option R := (kloadA 2 h v14).bind fun v64 => (kN NN fn.laws_heldGrid [v64, v17] h).bind fun v66 => n16 k G v1 v2 v3 v5 v9 v10 v12 v14 v16 v66 h
theorem n15_eq (G : KT1 R) (σ : GS) (h : Heap) : KC k 92 c15 σ h (fun x σ h => G x (σ 10) h) = n15 k G (σ 1) (σ 2) (σ 3) (σ 5) (σ 9) (σ 10) (σ 12) (σ 14) (σ 16) (σ 17) h := (kseq (a := c23) (b := c16) rfl (fun σ h => n16_eq k G σ h)).trans (by kernel_rfl)
noncomputable def c24 : Code := cL c14
@[simp] def n14 (G : KT1 R) (v1 v2 v3 v5 v9 v10 v12 v14 v16 : GV) (h : Heap) : Option R := n15 k G v1 v2 v3 v5 v9 v10 v12 v14 v16 (.int .i64 1) h
theorem n14_eq (G : KT1 R) (σ : GS) (h : Heap) : KC k 92 c14 σ h (fun x σ h => G x (σ 10) h) = n14 k G (σ 1) (σ 2) (σ 3) (σ 5) (σ 9) (σ 10) (σ 12) (σ 14) (σ 16) h := (kseq (a := c24) (b := c15) rfl (fun σ h => n15_eq k G σ h)).trans (by kernel_rfl)
noncomputable def c25 : Code := cL c13
@[simp] def n13 (G : KT1 R) (v1 v2 v3 v5 v9 v10 v12 v14 v16 : GV) (h : Heap) : Option R := (kloadA 2 h v14).bind fun v61 => (HH fn.laws_markGrid [v61, v16] h).bind fun r => kr r fun v63 h => n14 k G v1 v2 v3 v5 v9 v10 v12 v14 v63 h
theorem n13_eq (G : KT1 R) (σ : GS) (h : Heap) : KC k 92 c13 σ h (fun x σ h => G x (σ 10) h) = n13 k G (σ 1) (σ 2) (σ 3) (σ 5) (σ 9) (σ 10) (σ 12) (σ 14) (σ 16) h := (kseq (a := c25) (b := c14) rfl (fun σ h => n14_eq k G σ h)).trans (by kernel_rfl)
noncomputable def c26 : Code := cL c12
@[simp] def n12 (G : KT1 R) (v1 v2 v3 v5 v9 v10 v12 v14 : GV) (h : Heap) : Option R := n13 k G v1 v2 v3 v5 v9 v10 v12 v14 (.int .i64 1) h
theorem n12_eq (G : KT1 R) (σ : GS) (h : Heap) : KC k 92 c12 σ h (fun x σ h => G x (σ 10) h) = n12 k G (σ 1) (σ 2) (σ 3) (σ 5) (σ 9) (σ 10) (σ 12) (σ 14) h := (kseq (a := c26) (b := c13) rfl (fun σ h => n13_eq k G σ h)).trans (by kernel_rfl)
noncomputable def c27 : Code := cL c11
noncomputable def c28 : Code := cR c27
@[simp] def n28 {R : Type} (k : Nat) (G : KT8 R) (v1 v2 v3 v5 v9 v10 v12 v14 v60 : GV) (h : Heap) : Option R := kcond v60 (G .ret v1 v2 v3 v5 v9 (.bool false) v12 v14 h) (G .nrm v1 v2 v3 v5 v9 v10 v12 v14 h)
theorem n28_eq (G : KT8 R) (σ : GS) (h : Heap) : KC k 92 c28 σ h (fun x σ h => G x (σ 1) (σ 2) (σ 3) (σ 5) (σ 9) (σ 10) (σ 12) (σ 14) h) = n28 k G (σ 1) (σ 2) (σ 3) (σ 5) (σ 9) (σ 10) (σ 12) (σ 14) (σ 60) h := by kernel_rfl
noncomputable def c29 : Code := cL c27
noncomputable def o29 : Array Oper := cO c29
@[simp] def g29_2 {R : Type} (k : Nat) (G : KT9 R) (v1 v2 v3 v5 v9 v10 v12 v14 v55 v59 : GV) (h : Heap) : Option R := (kpick v55 (.bool true) v59).bind fun v60 => G .nrm v1 v2 v3 v5 v9 v10 v12 v14 v60 h
theorem g29_2_eq (G : KT9 R) (σ : GS) (h : Heap) : kgroups PP cfg NN HH 92 o29 [(none, [7])] σ h (fun σ h => G .nrm (σ 1) (σ 2) (σ 3) (σ 5) (σ 9) (σ 10) (σ 12) (σ 14) (σ 60) h) = g29_2 k G (σ 1) (σ 2) (σ 3) (σ 5) (σ 9) (σ 10) (σ 12) (σ 14) (σ 55) (σ 59) h := by kernel_rfl
@[simp] def g29_1 (G : KT9 R) (v1 v2 v3 v5 v9 v10 v12 v14 v55 : GV) (h : Heap) : Option R := bif tr false v55 then (kloadA 2 h v14).bind fun v56 => (kloadA 2 h v12).bind fun v57 => (kN NN fn.laws_eqGrid [v56, v57] h).bind fun v58 => (kun .not v58).bind fun v59 => g29_2 k G v1 v2 v3 v5 v9 v10 v12 v14 v55 v59 h else g29_2 k G v1 v2 v3 v5 v9 v10 v12 v14 v55 .un h
theorem g29_1_eq (G : KT9 R) (σ : GS) (h : Heap) : kgroups PP cfg NN HH 92 o29 [(some (2, false), [3, 4, 5, 6]), (none, [7])] σ h (fun σ h => G .nrm (σ 1) (σ 2) (σ 3) (σ 5) (σ 9) (σ 10) (σ 12) (σ 14) (σ 60) h) = g29_1 k G (σ 1) (σ 2) (σ 3) (σ 5) (σ 9) (σ 10) (σ 12) (σ 14) (σ 55) h := (kgroups_cons (fun σ h => g29_2_eq k G σ h)).trans (by kernel_rfl)
@[simp] def g29_0 (G : KT9 R) (v1 v2 v3 v5 v9 v10 v12 v14 v15 : GV) (h : Heap) : Option R := (kbin .lss v15 (.int .i64 0)).bind fun v54 => g29_1 k G v1 v2 v3 v5 v9 v10 v12 v14 v54 h
theorem g29_0_eq (G : KT9 R) (σ : GS) (h : Heap) : kgroups PP cfg NN HH 92 o29 [(none, [0, 1, 2]), (some (2, false), [3, 4, 5, 6]), (none, [7])] σ h (fun σ h => G .nrm (σ 1) (σ 2) (σ 3) (σ 5) (σ 9) (σ 10) (σ 12) (σ 14) (σ 60) h) = g29_0 k G (σ 1) (σ 2) (σ 3) (σ 5) (σ 9) (σ 10) (σ 12) (σ 14) (σ 15) h := (kgroups_cons (fun σ h => g29_1_eq k G σ h)).trans (by kernel_rfl)
@[simp] def n29 (G : KT9 R) (v1 v2 v3 v5 v9 v10 v12 v14 v15 : GV) (h : Heap) : Option R := g29_0 k G v1 v2 v3 v5 v9 v10 v12 v14 v15 h
theorem n29_eq (G : KT9 R) (σ : GS) (h : Heap) : KC k 92 c29 σ h (fun x σ h => G x (σ 1) (σ 2) (σ 3) (σ 5) (σ 9) (σ 10) (σ 12) (σ 14) (σ 60) h) = n29 k G (σ 1) (σ 2) (σ 3) (σ 5) (σ 9) (σ 10) (σ 12) (σ 14) (σ 15) h := (kregion_eq (id := 14) (draw := false) (ops := o29) (gs := [(none, [0, 1, 2]), (some (2, false), [3, 4, 5, 6]), (none, [7])]) (by kernel_rfl) (by kernel_rfl) (by kernel_rfl)).trans (g29_0_eq k G σ h)
@[simp] def n27 (G : KT8 R) (v1 v2 v3 v5 v9 v10 v12 v14 v15 : GV) (h : Heap) : Option R := n29 k (fun x v1 v2 v3 v5 v9 v10 v12 v14 v60 h => kx x (n28 k G v1 v2 v3 v5 v9 v10 v12 v14 v60 h) (G x v1 v2 v3 v5 v9 v10 v12 v14 h)) v1 v2 v3 v5 v9 v10 v12 v14 v15 h
theorem n27_eq (G : KT8 R) (σ : GS) (h : Heap) : KC k 92 c27 σ h (fun x σ h => G x (σ 1) (σ 2) (σ 3) (σ 5) (σ 9) (σ 10) (σ 12) (σ 14) h) = n27 k G (σ 1) (σ 2) (σ 3) (σ 5) (σ 9) (σ 10) (σ 12) (σ 14) (σ 15) h := (kseq (b := c28) rfl (fun σ h => n28_eq k G σ h)).trans (n29_eq k (fun x v1 v2 v3 v5 v9 v10 v12 v14 v60 h => kx x (n28 k G v1 v2 v3 v5 v9 v10 v12 v14 v60 h) (G x v1 v2 v3 v5 v9 v10 v12 v14 h)) σ h)
@[simp] def n11 (G : KT1 R) (v1 v2 v3 v5 v9 v10 v12 v14 v15 : GV) (h : Heap) : Option R := n27 k (fun x v1 v2 v3 v5 v9 v10 v12 v14 h => kx x (n12 k G v1 v2 v3 v5 v9 v10 v12 v14 h) (G x v10 h)) v1 v2 v3 v5 v9 v10 v12 v14 v15 h
theorem n11_eq (G : KT1 R) (σ : GS) (h : Heap) : KC k 92 c11 σ h (fun x σ h => G x (σ 10) h) = n11 k G (σ 1) (σ 2) (σ 3) (σ 5) (σ 9) (σ 10) (σ 12) (σ 14) (σ 15) h := (kseq (b := c12) rfl (fun σ h => n12_eq k G σ h)).trans (n27_eq k (fun x v1 v2 v3 v5 v9 v10 v12 v14 h => kx x (n12 k G v1 v2 v3 v5 v9 v10 v12 v14 h) (G x v10 h)) σ h)
noncomputable def c30 : Code := cL c10
@[simp] def n10 (G : KT1 R) (v1 v2 v3 v5 v9 v10 v12 v13 v14 v15 : GV) (h : Heap) : Option R := (kloadA 2 h v13).bind fun v50 => (HH fn.laws_markGrid [v50, v15] h).bind fun r => kr r fun v52 h => n11 k G v1 v2 v3 v5 v9 v10 v12 v14 v52 h
theorem n10_eq (G : KT1 R) (σ : GS) (h : Heap) : KC k 92 c10 σ h (fun x σ h => G x (σ 10) h) = n10 k G (σ 1) (σ 2) (σ 3) (σ 5) (σ 9) (σ 10) (σ 12) (σ 13) (σ 14) (σ 15) h := (kseq (a := c30) (b := c11) rfl (fun σ h => n11_eq k G σ h)).trans (by kernel_rfl)
noncomputable def c31 : Code := cL c9
@[simp] def n9 (G : KT1 R) (v1 v2 v3 v5 v9 v10 v12 v13 v14 : GV) (h : Heap) : Option R := n10 k G v1 v2 v3 v5 v9 v10 v12 v13 v14 (.int .i64 1) h
theorem n9_eq (G : KT1 R) (σ : GS) (h : Heap) : KC k 92 c9 σ h (fun x σ h => G x (σ 10) h) = n9 k G (σ 1) (σ 2) (σ 3) (σ 5) (σ 9) (σ 10) (σ 12) (σ 13) (σ 14) h := (kseq (a := c31) (b := c10) rfl (fun σ h => n10_eq k G σ h)).trans (by kernel_rfl)
noncomputable def c32 : Code := cL c8
@[simp] def n8 (G : KT1 R) (v1 v2 v3 v5 v9 v10 v12 v13 v14 : GV) (h : Heap) : Option R := (kloadA 2 h v13).bind fun v45 => (kloadA 2 h v5).bind fun v46 => (kF false HH fn.laws_toGrid [v46] h).bind fun r => kr r fun v47 h => (kN NN fn.laws_eqGrid [v45, v47] h).bind fun v48 => (kun .not v48).bind fun v49 => kcond v49 (G .ret (.bool false) h) (n9 k G v1 v2 v3 v5 v9 v10 v12 v13 v14 h)
theorem n8_eq (G : KT1 R) (σ : GS) (h : Heap) : KC k 92 c8 σ h (fun x σ h => G x (σ 10) h) = n8 k G (σ 1) (σ 2) (σ 3) (σ 5) (σ 9) (σ 10) (σ 12) (σ 13) (σ 14) h := (kseq (a := c32) (b := c9) rfl (fun σ h => n9_eq k G σ h)).trans (by kernel_rfl)
noncomputable def c33 : Code := cL c7
@[simp] def n7 (G : KT1 R) (v1 v2 v3 v5 v9 v10 v12 v13 v14 : GV) (h : Heap) : Option R := (kloadA 2 h v14).bind fun v41 => (kloadA 2 h v12).bind fun v42 => (kN NN fn.laws_eqGrid [v41, v42] h).bind fun v43 => (kun .not v43).bind fun v44 => kcond v44 (G .ret (.bool false) h) (n8 k G v1 v2 v3 v5 v9 v10 v12 v13 v14 h)
theorem n7_eq (G : KT1 R) (σ : GS) (h : Heap) : KC k 92 c7 σ h (fun x σ h => G x (σ 10) h) = n7 k G (σ 1) (σ 2) (σ 3) (σ 5) (σ 9) (σ 10) (σ 12) (σ 13) (σ 14) h := (kseq (a := c33) (b := c8) rfl (fun σ h => n8_eq k G σ h)).trans (by kernel_rfl)
noncomputable def c34 : Code := cL c6
@[simp] def n6 (G : KT1 R) (v1 v2 v3 v5 v9 v10 v12 v13 : GV) (h : Heap) : Option R := (kloadA 2 h v13).bind fun v34 => (kloadA 5 h v9).bind fun v38 => (kN NN fn.laws_toStyle [v38] h).bind fun v39 => (kF false HH fn.impl_Up [v34, v1, v2, v3, v39] h).bind fun r => kr r fun v40 h => kalloc [(.int .i64 0), .nils] h fun v14 h => (kstore 2 h v14 v40).bind fun h => n7 k G v1 v2 v3 v5 v9 v10 v12 v13 v14 h
theorem n6_eq (G : KT1 R) (σ : GS) (h : Heap) : KC k 92 c6 σ h (fun x σ h => G x (σ 10) h) = n6 k G (σ 1) (σ 2) (σ 3) (σ 5) (σ 9) (σ 10) (σ 12) (σ 13) h := (kseq (a := c34) (b := c7) rfl (fun σ h => n7_eq k G σ h)).trans (by kernel_rfl)
noncomputable def c35 : Code := cL c5
@[simp] def n5 (G : KT1 R) (v1 v2 v3 v5 v9 v10 v12 : GV) (h : Heap) : Option R := (kloadA 2 h v5).bind fun v32 => (kF false HH fn.laws_toGrid [v32] h).bind fun r => kr r fun v33 h => kalloc [(.int .i64 0), .nils] h fun v13 h => (kstore 2 h v13 v33).bind fun h => n6 k G v1 v2 v3 v5 v9 v10 v12 v13 h
theorem n5_eq (G : KT1 R) (σ : GS) (h : Heap) : KC k 92 c5 σ h (fun x σ h => G x (σ 10) h) = n5 k G (σ 1) (σ 2) (σ 3) (σ 5) (σ 9) (σ 10) (σ 12) h := (kseq (a := c35) (b := c6) rfl (fun σ h => n6_eq k G σ h)).trans (by kernel_rfl)
noncomputable def c36 : Code := cL c4
noncomputable def o36 : Array Oper := cO c36
@[simp] def g36_0 {R : Type} (k : Nat) (G : KT7 R) (v1 v2 v3 v5 v9 v10 : GV) (rs : List Rec) (h : Heap) : Option R := (kloadA 2 h v5).bind fun v24 => kold h fun h0 => (kF false HH fn.laws_toGrid [v24] h).bind fun r => kr r fun v25 h => krs (rs ++ [⟨1, h0.length, h.length, ⟨[v24].flatMap (kborr h0), []⟩⟩]) fun rs => kold h fun h0 => (kloadA 5 h v9).bind fun v29 => krs (rs ++ [⟨5, h0.length, h.length, ⟨kblk v9, []⟩⟩]) fun rs => (kN NN fn.laws_toStyle [v29] h).bind fun v30 => (kN NN fn.spec_Up [v25, v1, v2, v3, v30] h).bind fun v31 => kalloc [(.int .i64 0), .nils] h fun v12 h => (kstore 2 h v12 v31).bind fun h => bif chk [(1, 5)] rs then G .nrm v1 v2 v3 v5 v9 v10 v12 h else none
theorem g36_0_eq (G : KT7 R) (rs : List Rec) (σ : GS) (h : Heap) : kgroupsD PP cfg NN HH 92 o36 [(1, 5)] [(none, [0, 1, 2, 3, 4, 5, 6, 7, 8, 9])] rs σ h (fun rs σ h => bif chk [(1, 5)] rs then G .nrm (σ 1) (σ 2) (σ 3) (σ 5) (σ 9) (σ 10) (σ 12) h else none) = g36_0 k G (σ 1) (σ 2) (σ 3) (σ 5) (σ 9) (σ 10) rs h := by kernel_rfl
@[simp] def n36 (G : KT7 R) (v1 v2 v3 v5 v9 v10 : GV) (h : Heap) : Option R := g36_0 k G v1 v2 v3 v5 v9 v10 [] h
theorem n36_eq (G : KT7 R) (σ : GS) (h : Heap) : KC k 92 c36 σ h (fun x σ h => G x (σ 1) (σ 2) (σ 3) (σ 5) (σ 9) (σ 10) (σ 12) h) = n36 k G (σ 1) (σ 2) (σ 3) (σ 5) (σ 9) (σ 10) h := (kregionD_eq (id := 5) (draw := true) (ops := o36) (gs := [(none, [0, 1, 2, 3, 4, 5, 6, 7, 8, 9])]) (bad := [(1, 5)]) (by kernel_rfl) (by kernel_rfl) (by kernel_rfl) (by kernel_rfl) (by kernel_rfl)).trans (g36_0_eq k G [] σ h)
@[simp] def n4 (G : KT1 R) (v1 v2 v3 v5 v9 v10 : GV) (h : Heap) : Option R := n36 k (fun x v1 v2 v3 v5 v9 v10 v12 h => kx x (n5 k G v1 v2 v3 v5 v9 v10 v12 h) (G x v10 h)) v1 v2 v3 v5 v9 v10 h
theorem n4_eq (G : KT1 R) (σ : GS) (h : Heap) : KC k 92 c4 σ h (fun x σ h => G x (σ 10) h) = n4 k G (σ 1) (σ 2) (σ 3) (σ 5) (σ 9) (σ 10) h := (kseq (b := c5) rfl (fun σ h => n5_eq k G σ h)).trans (n36_eq k (fun x v1 v2 v3 v5 v9 v10 v12 h => kx x (n5 k G v1 v2 v3 v5 v9 v10 v12 h) (G x v10 h)) σ h)
noncomputable def c37 : Code := cL c3
@[simp] def n3 (G : KT1 R) (v1 v2 v3 v5 v9 v10 v11 : GV) (h : Heap) : Option R := (kbin .lss v11 (.int .i64 0)).bind fun v23 => kcond v23 (G .ret (.bool true) h) (n4 k G v1 v2 v3 v5 v9 v10 h)
theorem n3_eq (G : KT1 R) (σ : GS) (h : Heap) : KC k 92 c3 σ h (fun x σ h => G x (σ 10) h) = n3 k G (σ 1) (σ 2) (σ 3) (σ 5) (σ 9) (σ 10) (σ 11) h := (kseq (a := c37) (b := c4) rfl (fun σ h => n4_eq k G σ h)).trans (by kernel_rfl)
noncomputable def c38 : Code := cL c2
@[simp] def n2 (G : KT1 R) (v1 v2 v3 v5 v9 v10 v11 : GV) (h : Heap) : Option R := (kloadA 2 h v5).bind fun v19 => (kN NN fn.laws_szGrid [v19, v11] h).bind fun v21 => n3 k G v1 v2 v3 v5 v9 v10 v21 h
theorem n2_eq (G : KT1 R) (σ : GS) (h : Heap) : KC k 92 c2 σ h (fun x σ h => G x (σ 10) h) = n2 k G (σ 1) (σ 2) (σ 3) (σ 5) (σ 9) (σ 10) (σ 11) h := (kseq (a := c38) (b := c3) rfl (fun σ h => n3_eq k G σ h)).trans (by kernel_rfl)
noncomputable def c39 : Code := cL c1
@[simp] def n1 (G : KT1 R) (v1 v2 v3 v5 v9 v10 : GV) (h : Heap) : Option R := n2 k G v1 v2 v3 v5 v9 v10 (.int .i64 1048576) h
theorem n1_eq (G : KT1 R) (σ : GS) (h : Heap) : KC k 92 c1 σ h (fun x σ h => G x (σ 10) h) = n1 k G (σ 1) (σ 2) (σ 3) (σ 5) (σ 9) (σ 10) h := (kseq (a := c39) (b := c2) rfl (fun σ h => n2_eq k G σ h)).trans (by kernel_rfl)
noncomputable def c40 : Code := cL c0
@[simp] def n0 (G : KT1 R) (v0 v1 v2 v3 v4 : GV) (h : Heap) : Option R := kbox v0 h fun v5 h => kbox v4 h fun v9 h => n1 k G v1 v2 v3 v5 v9 (.bool false) h
theorem n0_eq (G : KT1 R) (σ : GS) (h : Heap) : KC k 92 c0 σ h (fun x σ h => G x (σ 10) h) = n0 k G (σ 0) (σ 1) (σ 2) (σ 3) (σ 4) h := (kseq (a := c40) (b := c1) rfl (fun σ h => n1_eq k G σ h)).trans (by kernel_rfl)
def run {R : Type} (k : Nat) (a0 : GV) (a1 : GV) (a2 : GV) (a3 : GV) (a4 : GV) (h : Heap) (fin : GV → Heap → Option R) : Option R := n0 k (fun x v10 h => kend x (fin v10 h)) a0 a1 a2 a3 a4 h
theorem run_eq {R : Type} (k : Nat) (a0 : GV) (a1 : GV) (a2 : GV) (a3 : GV) (a4 : GV) (h : Heap) (fin : GV → Heap → Option R) : kfun PP cfg NN HH k fn.laws_FnExactUp [a0, a1, a2, a3, a4] h fin = run k a0 a1 a2 a3 a4 h fin := (kfun_eq (nt := 92) (c := c0) (show PP.funcs[fn.laws_FnExactUp]? = some Try.f12 by kernel_rfl) (by kernel_rfl) (by kernel_rfl) (fun x σ h => by cases x <;> kernel_rfl)).trans (n0_eq k (fun x v10 h => kend x (fin v10 h)) _ h)
theorem gives {k : Nat} {a0 : GV} {a1 : GV} {a2 : GV} {a3 : GV} {a4 : GV} {v : GV} (e : run k a0 a1 a2 a3 a4 [] finN = some v) : NN fn.laws_FnExactUp [a0, a1, a2, a3, a4] = some v := nω_of (by kernel_rfl) ((run_eq k a0 a1 a2 a3 a4 [] finN).trans e)
end S.laws_FnExactUp
end
end Go.Proofs.Ytlbnioapepelnaa.G

namespace Go.Proofs.Ytlbnioapepelnaa.G
open Go.RowKit
set_option linter.unusedVariables false
set_option linter.unusedSimpArgs false
set_option maxRecDepth 100000
theorem dec_of_Up {p : Prop} (i : Decidable p) (h : p) : @decide p i = true := by cases i <;> simp_all
theorem bors_pl_Up {H : Heap} {g : GV} {gs xs : List GV} (hg : bor 9 H g = some (g, [])) (h : bors H gs = some xs) : bors H (g :: gs) = some (g :: xs) := by rw [bors_cons, hg, h]; rfl
theorem FnExactUp_row (a0 : (Int × List (List ((Int × (Int × Int × Bool × Bool × Bool) × Int))))) (i0 : (Lit.int .i64 a0.1).wf = true ∧ (inSl (fun x1 : List ((Int × (Int × Int × Bool × Bool × Bool) × Int)) => inSl (fun x2 : (Int × (Int × Int × Bool × Bool × Bool) × Int) => (Lit.int .i64 x2.1).wf = true ∧ (((Lit.int .i64 x2.2.1.1).wf = true ∧ ((Lit.int .i64 x2.2.1.2.1).wf = true ∧ (True ∧ (True ∧ True)))) ∧ (Lit.int .i64 x2.2.2).wf = true)) x1) a0.2)) (a1 : Int) (i1 : (Lit.int .i64 a1).wf = true) (a2 : Int) (i2 : (Lit.int .i64 a2).wf = true) (a3 : Int) (i3 : (Lit.int .i64 a3).wf = true) (a4 : (Int × Int × Bool × Bool × Bool)) (i4 : (Lit.int .i64 a4.1).wf = true ∧ ((Lit.int .i64 a4.2.1).wf = true ∧ (True ∧ (True ∧ True)))) : NN fn.laws_FnExactUp [(.agg [GV.int .i64 a0.1, fzl true 1 (fun x1 : List ((Int × (Int × Int × Bool × Bool × Bool) × Int)) => [fzl true 7 (fun x2 : (Int × (Int × Int × Bool × Bool × Bool) × Int) => [GV.int .i64 x2.1, GV.int .i64 x2.2.1.1, GV.int .i64 x2.2.1.2.1, GV.bool x2.2.1.2.2.1, GV.bool x2.2.1.2.2.2.1, GV.bool x2.2.1.2.2.2.2, GV.int .i64 x2.2.2]) x1]) a0.2]), (GV.int .i64 a1), (GV.int .i64 a2), (GV.int .i64 a3), (.agg [GV.int .i64 a4.1, GV.int .i64 a4.2.1, GV.bool a4.2.2.1, GV.bool a4.2.2.2.1, GV.bool a4.2.2.2.2])] = some (.bool true) := by
  obtain ⟨e0_1, e0_2⟩ := a0
  try simp only at i0
  have sz0 := laws_szGrid_spec e0_1 e0_2 1048576 i0 (by omega) (by omega)
  obtain ⟨a0, ha0⟩ : ∃ a : (Int × List (List ((Int × (Int × Int × Bool × Bool × Bool) × Int)))), (e0_1, e0_2) = a := ⟨_, rfl⟩
  have sz0 : NN fn.laws_szGrid [.agg (mGrid true (e0_1, e0_2)), .int .i64 1048576] = _ := sz0
  have bM0 : ∀ (H : Heap) (gs zs : List GV), bors H gs = some zs → bors H (.agg (mGrid true (e0_1, e0_2)) :: gs) = some (.agg (mGrid true (e0_1, e0_2)) :: zs) := fun H gs zs h => by
    rw [bors_cons, h]; simp
  obtain ⟨e4_1, e4_2, e4_3, e4_4, e4_5⟩ := a4
  obtain ⟨a4, ha4⟩ : ∃ a : (Int × Int × Bool × Bool × Bool), (e4_1, e4_2, e4_3, e4_4, e4_5) = a := ⟨_, rfl⟩
  have ts4 : NN fn.laws_toStyle [.agg (mStyle true (e4_1, e4_2, e4_3, e4_4, e4_5))] = some (.agg (mStyle true (e4_1, e4_2, e4_3, e4_4, e4_5))) := laws_toStyle_spec e4_1 e4_2 e4_3 e4_4 e4_5 trivial
  have bM4 : ∀ (H : Heap) (gs zs : List GV), bors H gs = some zs → bors H (.agg (mStyle true (e4_1, e4_2, e4_3, e4_4, e4_5)) :: gs) = some (.agg (mStyle true (e4_1, e4_2, e4_3, e4_4, e4_5)) :: zs) := fun H gs zs h => by
    rw [bors_cons, h]; simp
  show NN fn.laws_FnExactUp [.agg (mGrid true (e0_1, e0_2)), .int .i64 a1, .int .i64 a2, .int .i64 a3, .agg (mStyle true (e4_1, e4_2, e4_3, e4_4, e4_5))] = some (.bool true)
  rw [ha0] at sz0 bM0 ⊢
  have hML0 : (mGrid true a0).length = 2 := rfl
  obtain ⟨M0, hM0⟩ : ∃ M, mGrid true a0 = M := ⟨_, rfl⟩
  rw [hM0] at sz0 bM0 hML0 ⊢
  rw [ha4] at ts4 bM4 ⊢
  have hML4 : (mStyle true a4).length = 5 := rfl
  have hMC4 : (mStyle true a4).all GV.isCell = true := by simp
  obtain ⟨M4, hM4⟩ : ∃ M, mStyle true a4 = M := ⟨_, rfl⟩
  rw [hM4] at ts4 bM4 hML4 ⊢
  apply S.laws_FnExactUp.gives (k := 0)
  obtain ⟨H0, hH0⟩ : ∃ H0 : Heap, [M0, M4] = H0 := ⟨_, rfl⟩
  have hbox0 : ∀ {Q : Type} (K : GV → Heap → Option Q), kbox (.agg M0) [] K = K (.ptr 0 0 2) [M0] := fun K => by rw [kbox_agg, hML0]; rfl
  have A0 : H0[0]? = some M0 := by rw [← hH0]; rfl
  have hbox4 : ∀ {Q : Type} (K : GV → Heap → Option Q), kbox (.agg M4) [M0] K = K (.ptr 1 0 5) H0 := fun K => by rw [kbox_agg, hML4, ← hH0]; rfl
  have A4 : H0[1]? = some M4 := by rw [← hH0]; rfl
  have l0 : H0.length = 2 := by rw [← hH0]; rfl
  have sz' : kN NN fn.laws_szGrid [.agg M0, .int .i64 1048576] H0 = _ := kN_at (bM0 _ _ _ (by simp)) sz0
  by_cases h : (1048576 : Int) < (zGrid a0 : Int)
  · rw [if_pos h] at sz'
    unfold S.laws_FnExactUp.run S.laws_FnExactUp.n0
    rw [hbox0, hbox4]
    simp [kloadA_at A0 hML0, sz', -kN_eq, -kloadA_ptr]
  rw [if_neg h] at sz'
  have hz : zGrid a0 ≤ 1048576 := by omega
  have hm0 : okGrid a0 := okGrid_of hz
  have h1 : ¬ ((1048576 : Int) - (zGrid a0 : Int) < 0) := by omega
  have ksz : kbin .lss (.int .i64 (1048576 - (zGrid a0 : Int))) (.int .i64 0) = some (.bool false) := by rw [kbin_lss, decide_eq_false h1]
  have to0 := fun H => fresh_agg goodGrid (f := fn.laws_toGrid) (args := [.agg M0]) (xs := [.agg M0]) (H := H) (x := a0) (bM0 _ _ _ (by simp)) (by rw [← hM0]; exact laws_toGrid_spec a0 hm0 H.length)
  have cl0 := cGrid_le hm0
  have okr := upM_ok a0 hm0 a1 a2 a3 a4
  have sp := spec_Up_specL a0 hm0 a1 a2 a3 a4
  have im := impl_Up_specL a0 hm0 a1 a2 a3 a4
  obtain ⟨w0, hres⟩ : ∃ w, upM a0 a1 a2 a3 a4 = w := ⟨_, rfl⟩
  rw [hres] at okr sp
  simp only [hres] at im okr sp
  simp only [hM4] at im sp
  have ok0 : okGrid w0 := okr
  have cw0 := cGrid_le ok0
  have bW0 : ∀ (H : Heap) (gs zs : List GV), bors H gs = some zs → bors H (.agg (mGrid false w0) :: gs) = some (.agg (mGrid true w0) :: zs) := fun H gs zs h => by
    rw [bors_cons, h]; simp
  have hWL0 : (mGrid false w0).length = 2 := rfl
  have hWc0 : (mGrid false w0).all GV.isCell = true := by simp
  obtain ⟨W0, hW0⟩ : ∃ W, mGrid false w0 = W := ⟨_, rfl⟩
  rw [hW0] at bW0 hWL0 hWc0 sp
  have esGrid : ∀ x : (Int × List (List ((Int × (Int × Int × Bool × Bool × Bool) × Int)))), okGrid x → NN fn.laws_eqGrid [.agg (mGrid true x), .agg (mGrid true x)] = some (.bool true) := fun x hm => by
    obtain ⟨q_1, q_2⟩ := x
    have := laws_eqGrid_spec q_1 q_1 q_2 q_2 hm
    exact this.trans (congrArg (fun b => some (GV.bool b)) (dec_of_Up _ rfl))
  have ec0 := esGrid w0 ok0
  have ea0 := esGrid a0 hm0
  obtain ⟨c1, R1, H1, t1, r1_, n1, b1, f1, l1⟩ := to0 H0
  have A0_1 := f1.blk A0 no_nil
  have A4_1 := f1.blk A4 no_nil
  have ts4_2 : kN NN fn.laws_toStyle [.agg M4] H1 = some (.agg M4) := kN_at (bM4 _ _ _ (by simp)) ts4
  have hck3 : chk [(1, 5)] ([] ++ [⟨1, List.length H0, List.length H1, ⟨[GV.agg M0].flatMap (kborr H0), []⟩⟩] ++ [⟨5, List.length H1, List.length H1, ⟨kblk (.ptr 1 0 5), []⟩⟩]) = true := by
    have y0 : ¬ (H0.length ≤ 1) := by omega
    simp [chk, meets, touches, kblk, y0]
  have s4 : kN NN fn.spec_Up [.agg c1, .int .i64 a1, .int .i64 a2, .int .i64 a3, .agg M4] H1 = some (.agg W0) := kN_at (bors_agg goodGrid (by omega) r1_ (bors_pl_Up (by simp) (bors_pl_Up (by simp) (bors_pl_Up (by simp) (bM4 _ _ _ (by simp)))))) sp
  have v5 := var_at (H := H1) (z := [(.int .i64 0), .nils]) (c := W0) (n := 2) rfl hWL0 hWc0
  obtain ⟨H5, hH5⟩ : ∃ H', H1 ++ [W0] = H' := ⟨_, rfl⟩
  have f5 : Fr [] H1 H5 := by rw [← hH5]; exact .app
  have l5 : H5.length = H1.length + 1 := by rw [← hH5]; simp
  have BW0_5 : H5[H1.length]? = some W0 := by rw [← hH5]; simp
  rw [hH5] at v5
  have A0_5 := f5.blk A0_1 no_nil
  have A4_5 := f5.blk A4_1 no_nil
  obtain ⟨c6, R6, H6, t6, r6_, n6, b6, f6, l6⟩ := to0 H5
  have A0_6 := f6.blk A0_5 no_nil
  have A4_6 := f6.blk A4_5 no_nil
  have BW0_6 := f6.blk BW0_5 no_nil
  have xl0 := goodGrid.len r6_
  have xc0 := goodGrid.cell r6_
  have v7 := var_at (H := H6) (z := [(.int .i64 0), .nils]) (c := c6) (n := 2) rfl xl0 xc0
  obtain ⟨H7, hH7⟩ : ∃ H', H6 ++ [c6] = H' := ⟨_, rfl⟩
  have f7 : Fr [] H6 H7 := by rw [← hH7]; exact .app
  have l7 : H7.length = H6.length + 1 := by rw [← hH7]; simp
  have BX0_7 : H7[H6.length]? = some c6 := by rw [← hH7]; simp
  rw [hH7] at v7
  have A0_7 := f7.blk A0_6 no_nil
  have A4_7 := f7.blk A4_6 no_nil
  have BW0_7 := f7.blk BW0_6 no_nil
  have r6_7 := goodGrid.keep r6_ f7 (fun _ _ => no_nil)
  have ts4_8 : kN NN fn.laws_toStyle [.agg M4] H7 = some (.agg M4) := kN_at (bM4 _ _ _ (by simp)) ts4
  obtain ⟨g9, R9, H9, t9, r9_, n9, b9, f9, l9⟩ := fresh_agg goodGrid (f := fn.impl_Up) (args := [.agg c6, .int .i64 a1, .int .i64 a2, .int .i64 a3, .agg M4]) (xs := [.agg (mGrid true a0), .int .i64 a1, .int .i64 a2, .int .i64 a3, .agg M4]) (H := H7) (x := w0) (bors_agg goodGrid (by omega) r6_7 (bors_pl_Up (by simp) (bors_pl_Up (by simp) (bors_pl_Up (by simp) (bM4 _ _ _ (by simp)))))) (im H7.length)
  have A0_9 := f9.blk A0_7 no_nil
  have A4_9 := f9.blk A4_7 no_nil
  have BW0_9 := f9.blk BW0_7 no_nil
  have BX0_9 := f9.blk BX0_7 no_nil
  have r6_9 := goodGrid.keep r6_7 f9 (fun _ _ => no_nil)
  have glG0 := goodGrid.len r9_
  have gcG0 := goodGrid.cell r9_
  have v10 := var_at (H := H9) (z := [(.int .i64 0), .nils]) (c := g9) (n := 2) rfl glG0 gcG0
  obtain ⟨H10, hH10⟩ : ∃ H', H9 ++ [g9] = H' := ⟨_, rfl⟩
  have f10 : Fr [] H9 H10 := by rw [← hH10]; exact .app
  have l10 : H10.length = H9.length + 1 := by rw [← hH10]; simp
  have BG0_10 : H10[H9.length]? = some g9 := by rw [← hH10]; simp
  rw [hH10] at v10
  have A0_10 := f10.blk A0_9 no_nil
  have A4_10 := f10.blk A4_9 no_nil
  have BW0_10 := f10.blk BW0_9 no_nil
  have BX0_10 := f10.blk BX0_9 no_nil
  have r6_10 := goodGrid.keep r6_9 f10 (fun _ _ => no_nil)
  have r9_10 := goodGrid.keep r9_ f10 (fun _ _ => no_nil)
  have e11 : kN NN fn.laws_eqGrid [.agg g9, .agg W0] H10 = some (.bool true) := kN_at (bors_agg goodGrid (by omega) r9_10 (bW0 _ _ _ (by simp))) ec0
  obtain ⟨c12, R12, H12, t12, r12_, n12, b12, f12, l12⟩ := to0 H10
  have A0_12 := f12.blk A0_10 no_nil
  have A4_12 := f12.blk A4_10 no_nil
  have BW0_12 := f12.blk BW0_10 no_nil
  have BX0_12 := f12.blk BX0_10 no_nil
  have BG0_12 := f12.blk BG0_10 no_nil
  have r6_12 := goodGrid.keep r6_10 f12 (fun _ _ => no_nil)
  have r9_12 := goodGrid.keep r9_10 f12 (fun _ _ => no_nil)
  have e13 : kN NN fn.laws_eqGrid [.agg c6, .agg c12] H12 = some (.bool true) := kN_at (bors_agg goodGrid (by omega) r6_12 (bors_agg goodGrid (by omega) r12_ (by simp))) ea0
  obtain ⟨H14, m14, rr14, f14⟩ := laws_markGrid_spec H12 c6 a0 R6 (1) hm0 r6_12 n6 (by omega)
  have l14 := f14.1
  simp only [show ((1 : Nat) : Int) = 1 from rfl] at m14
  have A0_14 := f14.blk A0_12 (b6.no (by omega))
  have A4_14 := f14.blk A4_12 (b6.no (by omega))
  have BW0_14 := f14.blk BW0_12 (b6.no (by omega))
  have BX0_14 := f14.blk BX0_12 (b6.no (by omega))
  have BG0_14 := f14.blk BG0_12 (b6.no (by omega))
  have r9_14 := goodGrid.keep r9_12 f14 (b9.apart b6 (by omega))
  have kn15 : kbin .lss (.int .i64 ((1 + cGrid a0 : Nat) : Int)) (.int .i64 0) = some (.bool false) := by rw [kbin_lss, decide_eq_false (by omega)]
  have e16 : kN NN fn.laws_eqGrid [.agg g9, .agg W0] H14 = some (.bool true) := kN_at (bors_agg goodGrid (by omega) r9_14 (bW0 _ _ _ (by simp))) ec0
  obtain ⟨H17, m17, rr17, f17⟩ := laws_markGrid_spec H14 g9 w0 R9 (1) ok0 r9_14 n9 (by omega)
  have l17 := f17.1
  simp only [show ((1 : Nat) : Int) = 1 from rfl] at m17
  have A0_17 := f17.blk A0_14 (b9.no (by omega))
  have A4_17 := f17.blk A4_14 (b9.no (by omega))
  have BW0_17 := f17.blk BW0_14 (b9.no (by omega))
  have BX0_17 := f17.blk BX0_14 (b9.no (by omega))
  have BG0_17 := f17.blk BG0_14 (b9.no (by omega))
  have hd18 := laws_heldGrid_spec w0 (1) ok0 (by omega)
  have q18 : kN NN fn.laws_heldGrid [.agg g9, .int .i64 ((1 : Nat) : Int)] H17 = some (.int .i64 ((1 + cGrid w0 : Nat) : Int)) := kN_at (bors_agg goodGrid (by omega) rr17 (bors_pl_Up (by simp) (by simp))) hd18
  simp only [show ((1 : Nat) : Int) = 1 from rfl] at q18
  have kn18 : kbin .lss (.int .i64 ((1 + cGrid w0 : Nat) : Int)) (.int .i64 0) = some (.bool false) := by rw [kbin_lss, decide_eq_false (by omega)]
  have kq : kbin .neq (.int .i64 ((1 + cGrid w0 : Nat) : Int)) (.int .i64 ((1 + cGrid w0 : Nat) : Int)) = some (.bool false) := by simp
  obtain ⟨c19, R19, H19, t19, r19_, n19, b19, f19, l19⟩ := to0 H17
  have A0_19 := f19.blk A0_17 no_nil
  have A4_19 := f19.blk A4_17 no_nil
  have BW0_19 := f19.blk BW0_17 no_nil
  have BX0_19 := f19.blk BX0_17 no_nil
  have BG0_19 := f19.blk BG0_17 no_nil
  have r9_19 := goodGrid.keep rr17 f19 (fun _ _ => no_nil)
  have ts4_20 : kN NN fn.laws_toStyle [.agg M4] H19 = some (.agg M4) := kN_at (bM4 _ _ _ (by simp)) ts4
  have hck21 : chk [(1, 5)] ([] ++ [⟨1, List.length H17, List.length H19, ⟨[GV.agg M0].flatMap (kborr H17), []⟩⟩] ++ [⟨5, List.length H19, List.length H19, ⟨kblk (.ptr 1 0 5), []⟩⟩]) = true := by
    have y0 : ¬ (H17.length ≤ 1) := by omega
    simp [chk, meets, touches, kblk, y0]
  obtain ⟨g22, R22, H22, t22, r22_, n22, b22, f22, l22⟩ := fresh_agg goodGrid (f := fn.impl_Up) (args := [.agg c19, .int .i64 a1, .int .i64 a2, .int .i64 a3, .agg M4]) (xs := [.agg (mGrid true a0), .int .i64 a1, .int .i64 a2, .int .i64 a3, .agg M4]) (H := H19) (x := w0) (bors_agg goodGrid (by omega) r19_ (bors_pl_Up (by simp) (bors_pl_Up (by simp) (bors_pl_Up (by simp) (bM4 _ _ _ (by simp)))))) (im H19.length)
  have A0_22 := f22.blk A0_19 no_nil
  have A4_22 := f22.blk A4_19 no_nil
  have BW0_22 := f22.blk BW0_19 no_nil
  have BX0_22 := f22.blk BX0_19 no_nil
  have BG0_22 := f22.blk BG0_19 no_nil
  have r9_22 := goodGrid.keep r9_19 f22 (fun _ _ => no_nil)
  have r19_22 := goodGrid.keep r19_ f22 (fun _ _ => no_nil)
  have glY0 := goodGrid.len r22_
  have gcY0 := goodGrid.cell r22_
  have v23 := var_at (H := H22) (z := [(.int .i64 0), .nils]) (c := g22) (n := 2) rfl glY0 gcY0
  obtain ⟨H23, hH23⟩ : ∃ H', H22 ++ [g22] = H' := ⟨_, rfl⟩
  have f23 : Fr [] H22 H23 := by rw [← hH23]; exact .app
  have l23 : H23.length = H22.length + 1 := by rw [← hH23]; simp
  have BY0_23 : H23[H22.length]? = some g22 := by rw [← hH23]; simp
  rw [hH23] at v23
  have A0_23 := f23.blk A0_22 no_nil
  have A4_23 := f23.blk A4_22 no_nil
  have BW0_23 := f23.blk BW0_22 no_nil
  have BX0_23 := f23.blk BX0_22 no_nil
  have BG0_23 := f23.blk BG0_22 no_nil
  have r9_23 := goodGrid.keep r9_22 f23 (fun _ _ => no_nil)
  have r19_23 := goodGrid.keep r19_22 f23 (fun _ _ => no_nil)
  have r22_23 := goodGrid.keep r22_ f23 (fun _ _ => no_nil)
  have e24 : kN NN fn.laws_eqGrid [.agg g22, .agg W0] H23 = some (.bool true) := kN_at (bors_agg goodGrid (by omega) r22_23 (bW0 _ _ _ (by simp))) ec0
  have hd25 := laws_heldGrid_spec w0 (1) ok0 (by omega)
  have q25 : kN NN fn.laws_heldGrid [.agg g9, .int .i64 ((1 : Nat) : Int)] H23 = some (.int .i64 ((1 + cGrid w0 : Nat) : Int)) := kN_at (bors_agg goodGrid (by omega) r9_23 (bors_pl_Up (by simp) (by simp))) hd25
  simp only [show ((1 : Nat) : Int) = 1 from rfl] at q25
  have kn25 : kbin .lss (.int .i64 ((1 + cGrid w0 : Nat) : Int)) (.int .i64 0) = some (.bool false) := by rw [kbin_lss, decide_eq_false (by omega)]
  simp only [S.laws_FnExactUp.run, S.laws_FnExactUp.n0, S.laws_FnExactUp.n1, S.laws_FnExactUp.n2, Option.bind_some, kr_mk, kxt_tup, List.getElem?_cons_zero, List.getElem?_cons_succ, kcond_bool, cond_true, cond_false, kun_not, Bool.not_true, Bool.not_false, kpick_bool, tr_bool, tr_un, kx_nrm, kx_ret, kb_nrm, kb_ret, kend_ret, kend_nrm, kold_eq, krs_eq, finN_bool, klenS_str, beq_self_eq_true, beq_false, Bool.false_eq_true, BEq.rfl, Bool.beq_eq_decide_eq, decide_true, decide_false, reduceCtorEq, kalloc_at, hbox0, hbox4, kloadA_at A0 hML0, sz', ksz, t1, kloadA_at A4_1 hML4, ts4_2, hck3, s4, v5, hH5, kloadA_at A0_5 hML0, t6, v7, hH7, kloadA_at BX0_7 xl0, kloadA_at A4_7 hML4, ts4_8, t9, v10, hH10, kloadA_at BG0_10 glG0, kloadA_at BW0_10 hWL0, e11, kloadA_at BX0_10 xl0, kloadA_at A0_10 hML0, t12, e13, kloadA_at BX0_12 xl0, m14, kn15, kloadA_at BG0_14 glG0, kloadA_at BW0_14 hWL0, e16, m17, kloadA_at BG0_17 glG0, q18, kn18, kq, kloadA_at A0_17 hML0, t19, kloadA_at A4_19 hML4, ts4_20, hck21, t22, v23, hH23, kloadA_at BY0_23 glY0, kloadA_at BW0_23 hWL0, e24, kloadA_at BG0_23 glG0, q25, kn25, List.length_cons, List.length_nil, Nat.zero_add, Nat.reduceAdd]
  try simp only [S.laws_FnExactUp.n3, S.laws_FnExactUp.n4, S.laws_FnExactUp.n36, S.laws_FnExactUp.g36_0, Option.bind_some, kr_mk, kxt_tup, List.getElem?_cons_zero, List.getElem?_cons_succ, kcond_bool, cond_true, cond_false, kun_not, Bool.not_true, Bool.not_false, kpick_bool, tr_bool, tr_un, kx_nrm, kx_ret, kb_nrm, kb_ret, kend_ret, kend_nrm, kold_eq, krs_eq, finN_bool, klenS_str, beq_self_eq_true, beq_false, Bool.false_eq_true, BEq.rfl, Bool.beq_eq_decide_eq, decide_true, decide_false, reduceCtorEq, kalloc_at, hbox0, hbox4, kloadA_at A0 hML0, sz', ksz, t1, kloadA_at A4_1 hML4, ts4_2, hck3, s4, v5, hH5, kloadA_at A0_5 hML0, t6, v7, hH7, kloadA_at BX0_7 xl0, kloadA_at A4_7 hML4, ts4_8, t9, v10, hH10, kloadA_at BG0_10 glG0, kloadA_at BW0_10 hWL0, e11, kloadA_at BX0_10 xl0, kloadA_at A0_10 hML0, t12, e13, kloadA_at BX0_12 xl0, m14, kn15, kloadA_at BG0_14 glG0, kloadA_at BW0_14 hWL0, e16, m17, kloadA_at BG0_17 glG0, q18, kn18, kq, kloadA_at A0_17 hML0, t19, kloadA_at A4_19 hML4, ts4_20, hck21, t22, v23, hH23, kloadA_at BY0_23 glY0, kloadA_at BW0_23 hWL0, e24, kloadA_at BG0_23 glG0, q25, kn25, List.length_cons, List.length_nil, Nat.zero_add, Nat.reduceAdd]
  try simp only [S.laws_FnExactUp.n5, S.laws_FnExactUp.n6, S.laws_FnExactUp.n7, S.laws_FnExactUp.n8, Option.bind_some, kr_mk, kxt_tup, List.getElem?_cons_zero, List.getElem?_cons_succ, kcond_bool, cond_true, cond_false, kun_not, Bool.not_true, Bool.not_false, kpick_bool, tr_bool, tr_un, kx_nrm, kx_ret, kb_nrm, kb_ret, kend_ret, kend_nrm, kold_eq, krs_eq, finN_bool, klenS_str, beq_self_eq_true, beq_false, Bool.false_eq_true, BEq.rfl, Bool.beq_eq_decide_eq, decide_true, decide_false, reduceCtorEq, kalloc_at, hbox0, hbox4, kloadA_at A0 hML0, sz', ksz, t1, kloadA_at A4_1 hML4, ts4_2, hck3, s4, v5, hH5, kloadA_at A0_5 hML0, t6, v7, hH7, kloadA_at BX0_7 xl0, kloadA_at A4_7 hML4, ts4_8, t9, v10, hH10, kloadA_at BG0_10 glG0, kloadA_at BW0_10 hWL0, e11, kloadA_at BX0_10 xl0, kloadA_at A0_10 hML0, t12, e13, kloadA_at BX0_12 xl0, m14, kn15, kloadA_at BG0_14 glG0, kloadA_at BW0_14 hWL0, e16, m17, kloadA_at BG0_17 glG0, q18, kn18, kq, kloadA_at A0_17 hML0, t19, kloadA_at A4_19 hML4, ts4_20, hck21, t22, v23, hH23, kloadA_at BY0_23 glY0, kloadA_at BW0_23 hWL0, e24, kloadA_at BG0_23 glG0, q25, kn25, List.length_cons, List.length_nil, Nat.zero_add, Nat.reduceAdd]
  try simp only [S.laws_FnExactUp.n9, S.laws_FnExactUp.n10, S.laws_FnExactUp.n11, S.laws_FnExactUp.n27, Option.bind_some, kr_mk, kxt_tup, List.getElem?_cons_zero, List.getElem?_cons_succ, kcond_bool, cond_true, cond_false, kun_not, Bool.not_true, Bool.not_false, kpick_bool, tr_bool, tr_un, kx_nrm, kx_ret, kb_nrm, kb_ret, kend_ret, kend_nrm, kold_eq, krs_eq, finN_bool, klenS_str, beq_self_eq_true, beq_false, Bool.false_eq_true, BEq.rfl, Bool.beq_eq_decide_eq, decide_true, decide_false, reduceCtorEq, kalloc_at, hbox0, hbox4, kloadA_at A0 hML0, sz', ksz, t1, kloadA_at A4_1 hML4, ts4_2, hck3, s4, v5, hH5, kloadA_at A0_5 hML0, t6, v7, hH7, kloadA_at BX0_7 xl0, kloadA_at A4_7 hML4, ts4_8, t9, v10, hH10, kloadA_at BG0_10 glG0, kloadA_at BW0_10 hWL0, e11, kloadA_at BX0_10 xl0, kloadA_at A0_10 hML0, t12, e13, kloadA_at BX0_12 xl0, m14, kn15, kloadA_at BG0_14 glG0, kloadA_at BW0_14 hWL0, e16, m17, kloadA_at BG0_17 glG0, q18, kn18, kq, kloadA_at A0_17 hML0, t19, kloadA_at A4_19 hML4, ts4_20, hck21, t22, v23, hH23, kloadA_at BY0_23 glY0, kloadA_at BW0_23 hWL0, e24, kloadA_at BG0_23 glG0, q25, kn25, List.length_cons, List.length_nil, Nat.zero_add, Nat.reduceAdd]
  try simp only [S.laws_FnExactUp.n29, S.laws_FnExactUp.g29_0, S.laws_FnExactUp.g29_1, S.laws_FnExactUp.g29_2, Option.bind_some, kr_mk, kxt_tup, List.getElem?_cons_zero, List.getElem?_cons_succ, kcond_bool, cond_true, cond_false, kun_not, Bool.not_true, Bool.not_false, kpick_bool, tr_bool, tr_un, kx_nrm, kx_ret, kb_nrm, kb_ret, kend_ret, kend_nrm, kold_eq, krs_eq, finN_bool, klenS_str, beq_self_eq_true, beq_false, Bool.false_eq_true, BEq.rfl, Bool.beq_eq_decide_eq, decide_true, decide_false, reduceCtorEq, kalloc_at, hbox0, hbox4, kloadA_at A0 hML0, sz', ksz, t1, kloadA_at A4_1 hML4, ts4_2, hck3, s4, v5, hH5, kloadA_at A0_5 hML0, t6, v7, hH7, kloadA_at BX0_7 xl0, kloadA_at A4_7 hML4, ts4_8, t9, v10, hH10, kloadA_at BG0_10 glG0, kloadA_at BW0_10 hWL0, e11, kloadA_at BX0_10 xl0, kloadA_at A0_10 hML0, t12, e13, kloadA_at BX0_12 xl0, m14, kn15, kloadA_at BG0_14 glG0, kloadA_at BW0_14 hWL0, e16, m17, kloadA_at BG0_17 glG0, q18, kn18, kq, kloadA_at A0_17 hML0, t19, kloadA_at A4_19 hML4, ts4_20, hck21, t22, v23, hH23, kloadA_at BY0_23 glY0, kloadA_at BW0_23 hWL0, e24, kloadA_at BG0_23 glG0, q25, kn25, List.length_cons, List.length_nil, Nat.zero_add, Nat.reduceAdd]
  try simp only [S.laws_FnExactUp.n28, S.laws_FnExactUp.n12, S.laws_FnExactUp.n13, S.laws_FnExactUp.n14, Option.bind_some, kr_mk, kxt_tup, List.getElem?_cons_zero, List.getElem?_cons_succ, kcond_bool, cond_true, cond_false, kun_not, Bool.not_true, Bool.not_false, kpick_bool, tr_bool, tr_un, kx_nrm, kx_ret, kb_nrm, kb_ret, kend_ret, kend_nrm, kold_eq, krs_eq, finN_bool, klenS_str, beq_self_eq_true, beq_false, Bool.false_eq_true, BEq.rfl, Bool.beq_eq_decide_eq, decide_true, decide_false, reduceCtorEq, kalloc_at, hbox0, hbox4, kloadA_at A0 hML0, sz', ksz, t1, kloadA_at A4_1 hML4, ts4_2, hck3, s4, v5, hH5, kloadA_at A0_5 hML0, t6, v7, hH7, kloadA_at BX0_7 xl0, kloadA_at A4_7 hML4, ts4_8, t9, v10, hH10, kloadA_at BG0_10 glG0, kloadA_at BW0_10 hWL0, e11, kloadA_at BX0_10 xl0, kloadA_at A0_10 hML0, t12, e13, kloadA_at BX0_12 xl0, m14, kn15, kloadA_at BG0_14 glG0, kloadA_at BW0_14 hWL0, e16, m17, kloadA_at BG0_17 glG0, q18, kn18, kq, kloadA_at A0_17 hML0, t19, kloadA_at A4_19 hML4, ts4_20, hck21, t22, v23, hH23, kloadA_at BY0_23 glY0, kloadA_at BW0_23 hWL0, e24, kloadA_at BG0_23 glG0, q25, kn25, List.length_cons, List.length_nil, Nat.zero_add, Nat.reduceAdd]
  try simp only [S.laws_FnExactUp.n15, S.laws_FnExactUp.n16, S.laws_FnExactUp.n17, S.laws_FnExactUp.n18, Option.bind_some, kr_mk, kxt_tup, List.getElem?_cons_zero, List.getElem?_cons_succ, kcond_bool, cond_true, cond_false, kun_not, Bool.not_true, Bool.not_false, kpick_bool, tr_bool, tr_un, kx_nrm, kx_ret, kb_nrm, kb_ret, kend_ret, kend_nrm, kold_eq, krs_eq, finN_bool, klenS_str, beq_self_eq_true, beq_false, Bool.false_eq_true, BEq.rfl, Bool.beq_eq_decide_eq, decide_true, decide_false, reduceCtorEq, kalloc_at, hbox0, hbox4, kloadA_at A0 hML0, sz', ksz, t1, kloadA_at A4_1 hML4, ts4_2, hck3, s4, v5, hH5, kloadA_at A0_5 hML0, t6, v7, hH7, kloadA_at BX0_7 xl0, kloadA_at A4_7 hML4, ts4_8, t9, v10, hH10, kloadA_at BG0_10 glG0, kloadA_at BW0_10 hWL0, e11, kloadA_at BX0_10 xl0, kloadA_at A0_10 hML0, t12, e13, kloadA_at BX0_12 xl0, m14, kn15, kloadA_at BG0_14 glG0, kloadA_at BW0_14 hWL0, e16, m17, kloadA_at BG0_17 glG0, q18, kn18, kq, kloadA_at A0_17 hML0, t19, kloadA_at A4_19 hML4, ts4_20, hck21, t22, v23, hH23, kloadA_at BY0_23 glY0, kloadA_at BW0_23 hWL0, e24, kloadA_at BG0_23 glG0, q25, kn25, List.length_cons, List.length_nil, Nat.zero_add, Nat.reduceAdd]
  try simp only [S.laws_FnExactUp.n20, S.laws_FnExactUp.g20_0, S.laws_FnExactUp.n19, Option.bind_some, kr_mk, kxt_tup, List.getElem?_cons_zero, List.getElem?_cons_succ, kcond_bool, cond_true, cond_false, kun_not, Bool.not_true, Bool.not_false, kpick_bool, tr_bool, tr_un, kx_nrm, kx_ret, kb_nrm, kb_ret, kend_ret, kend_nrm, kold_eq, krs_eq, finN_bool, klenS_str, beq_self_eq_true, beq_false, Bool.false_eq_true, BEq.rfl, Bool.beq_eq_decide_eq, decide_true, decide_false, reduceCtorEq, kalloc_at, hbox0, hbox4, kloadA_at A0 hML0, sz', ksz, t1, kloadA_at A4_1 hML4, ts4_2, hck3, s4, v5, hH5, kloadA_at A0_5 hML0, t6, v7, hH7, kloadA_at BX0_7 xl0, kloadA_at A4_7 hML4, ts4_8, t9, v10, hH10, kloadA_at BG0_10 glG0, kloadA_at BW0_10 hWL0, e11, kloadA_at BX0_10 xl0, kloadA_at A0_10 hML0, t12, e13, kloadA_at BX0_12 xl0, m14, kn15, kloadA_at BG0_14 glG0, kloadA_at BW0_14 hWL0, e16, m17, kloadA_at BG0_17 glG0, q18, kn18, kq, kloadA_at A0_17 hML0, t19, kloadA_at A4_19 hML4, ts4_20, hck21, t22, v23, hH23, kloadA_at BY0_23 glY0, kloadA_at BW0_23 hWL0, e24, kloadA_at BG0_23 glG0, q25, kn25, List.length_cons, List.length_nil, Nat.zero_add, Nat.reduceAdd]
end Go.Proofs.Ytlbnioapepelnaa.G
