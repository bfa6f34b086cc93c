/- Lists of which the first element is cut away: they begin within their block. -/
import Derived.Test.YtopmnigfklgnkaaTChg
namespace Go.Proofs.Ytopmnigfklgnkaa.G
open Go.RowKit
set_option linter.unusedVariables false
set_option linter.unusedSimpArgs false

/-- A list that may begin within its block. -/
def ROff {α : Type} (mk : α → List GV) : Rel (List α) := fun h c xs R => RSl 1 (RFl mk) h c xs R ∨ ∃ b pre, c = [.sl b pre.length xs.length xs.length 1] ∧ h[b]? = some (pre ++ xs.flatMap mk) ∧ R = [b]
/-- Data of one kind are handed over as data of another. -/
def OwnTo {α : Type} (d : Nat) (E E' : Rel α) : Prop := ∀ (h : Heap) (c : List GV) (x : α) (R : List Nat), E h c x R → ∀ D b, ∃ c' vis bl, ownL (own (D + d) h) b c = some (c', vis, bl) ∧ vis.map (·.1) = R ∧ ∀ H T, H.length = b → E' (H ++ bl ++ T) c' x (List.range' b bl.length)
theorem Good.ownTo {α : Type} {es d : Nat} {mk : α → List GV} {E : Rel α} (hE : Good es d mk E) : OwnTo d E E := fun _ _ _ _ h D b => hE.own h D b
theorem ROff.ownTo {α : Type} {mk : α → List GV} (hl : ∀ x, (mk x).length = 1) (hp : ∀ x, (mk x).all Pl = true) : OwnTo 2 (ROff mk) (RSl 1 (RFl mk)) := by
  intro h c xs R he D b
  rcases he with he | ⟨b0, pre, rfl, hb, rfl⟩
  · exact (RSl.good (RFl.good hl hp)).own he D b
  · have fl : (xs.flatMap mk).length = xs.length := by have := len_flat (es := 1) hl xs; omega
    have e : own (D + 2) h b (.sl b0 pre.length xs.length xs.length 1) = some (.sl b 0 xs.length xs.length 1, [(b0, pre.length, pre.length + xs.length * 1)], [xs.flatMap mk]) := by
      have e0 : own (D + 2) h b (.sl b0 pre.length xs.length xs.length 1) = (cellsAt h b0 (pre.length + xs.length * 1)).bind fun cs => if xs.length ≤ xs.length then (ownL (own (D + 1) h) (b + 1) ((cs.drop pre.length).take (xs.length * 1))).bind fun q => some (.sl b 0 xs.length xs.length 1, (b0, pre.length, pre.length + xs.length * 1) :: q.2.1, q.1 :: q.2.2) else none := rfl
      rw [e0, cellsAt_if, hb]
      simp only [Option.bind_some, List.length_append, fl, Nat.mul_one, if_true, Nat.le_refl, List.drop_left]
      rw [List.take_of_length_le (by omega), ownL_pl (all_flat hp xs)]
      rfl
    refine ⟨[.sl b 0 xs.length xs.length 1], [(b0, pre.length, pre.length + xs.length * 1)], [xs.flatMap mk], ?_, rfl, fun H T hH => ?_⟩
    · unfold ownL
      rw [e]
      rfl
    · exact rNew (b := b) (by rw [List.append_assoc, List.getElem?_append_right (by omega), hH, Nat.sub_self]; rfl)
theorem ROff.good {α : Type} {mk : α → List GV} (hl : ∀ x, (mk x).length = 1) (hp : ∀ x, (mk x).all Pl = true) : Good 1 2 (fun xs : List α => [fzl true 1 mk xs]) (ROff mk) where
  len := by
    rintro h c xs R (he | ⟨b0, pre, rfl, hb, rfl⟩)
    · exact (RSl.good (RFl.good hl hp)).len he
    · rfl
  mkl := fun _ => rfl
  brw := by
    rintro h c xs R (he | ⟨b0, pre, rfl, hb, rfl⟩) D
    · exact (RSl.good (RFl.good hl hp)).brw he D
    · have fl : (xs.flatMap mk).length = xs.length := by have := len_flat (es := 1) hl xs; omega
      obtain ⟨ys, a1, a2, a3⟩ := All3.brw (RFl.good hl hp) (h := h) D (css := xs.map mk) (xs := xs) (Rs := xs.map fun _ => []) (by
        clear fl hb
        induction xs with
        | nil => exact .nil
        | cons x xs ih => exact .cons ⟨rfl, rfl⟩ ih)
      have ef : (xs.map mk).flatten = xs.flatMap mk := by rw [List.flatMap_def]
      have er : (xs.map fun _ => ([] : List Nat)).flatten = [] := by
        clear a1 a2 a3 fl hb ef
        induction xs with
        | nil => rfl
        | cons x xs ih => rw [List.map_cons, List.flatten_cons, ih]; rfl
      rw [ef] at a1
      rw [er] at a3
      have e : bor (D + 2) h (.sl b0 pre.length xs.length xs.length 1) = some (fzl true 1 mk xs, [b0]) := by
        have e0 : bor (D + 2) h (.sl b0 pre.length xs.length xs.length 1) = (cellsAt h b0 (pre.length + xs.length * 1)).bind fun cs => (((cs.drop pre.length).take (xs.length * 1)).mapM (bor (D + 1) h)).bind fun ys => if xs.length ≤ xs.length then (match xs.length with | 0 => some (mt, [b0]) | n + 1 => some (.fz true (n + 1) 1 (ys.map (·.1)), b0 :: (ys.map (·.2)).flatten)) else none := rfl
        rw [e0, cellsAt_if, hb]
        simp only [Option.bind_some, List.length_append, fl, Nat.mul_one, if_true, List.drop_left]
        rw [List.take_of_length_le (by omega), a1]
        simp only [Option.bind_some, Nat.le_refl, if_true]
        cases xs with
        | nil => rfl
        | cons x xs => simp only [List.length_cons, fzl, a2, a3]
      exact ⟨[(fzl true 1 mk xs, [b0])], by rw [List.mapM_cons, e]; rfl, rfl, rfl⟩
  frame := by
    rintro h c xs R h' (he | ⟨b0, pre, rfl, hb, rfl⟩) hf
    · exact Or.inl ((RSl.good (RFl.good hl hp)).frame he hf)
    · exact Or.inr ⟨b0, pre, rfl, (hf b0 (by simp)).trans hb, rfl⟩
  mem := by
    rintro h c xs R (he | ⟨b0, pre, rfl, hb, rfl⟩)
    · exact (RSl.good (RFl.good hl hp)).mem he
    · intro i hi
      rw [List.mem_singleton] at hi
      rw [hi]
      exact (List.getElem?_eq_some_iff.1 hb).1
  own := fun he D b => by
    obtain ⟨c', vis, bl, a1, a2, a3⟩ := ROff.ownTo hl hp _ _ _ _ he D b
    exact ⟨c', vis, bl, a1, a2, fun H T hH => Or.inl (a3 H T hH)⟩
  cell := by
    rintro h c xs R (he | ⟨b0, pre, rfl, hb, rfl⟩)
    · exact (RSl.good (RFl.good hl hp)).cell he
    · rfl
theorem OwnTo.mono {α : Type} {d d' : Nat} {E E' : Rel α} (h : OwnTo d E E') (hd : d ≤ d') : OwnTo d' E E' := fun _ _ _ _ he D b => by
  have := h _ _ _ _ he (D + (d' - d)) b
  rwa [show D + (d' - d) + d = D + d' by omega] at this
theorem All3.ownTo {α : Type} {d : Nat} {E E' : Rel α} (hO : OwnTo d E E') {h : Heap} (D : Nat) {css : List (List GV)} {xs : List α} {Rs : List (List Nat)} (ha : All3 (E h) css xs Rs) : ∀ b, ∃ css' vis bl Rs', ownL (Go.Proofs.Ytopmnigfklgnkaa.G.own (D + d) h) b css.flatten = some (css'.flatten, vis, bl) ∧ vis.map (·.1) = Rs.flatten ∧ Rs'.flatten = List.range' b bl.length ∧ ∀ H T, H.length = b → All3 (E' (H ++ bl ++ T)) css' xs Rs' := by
  induction ha with
  | nil => exact fun b => ⟨[], [], [], [], rfl, rfl, rfl, fun H T _ => .nil⟩
  | cons a _ ih =>
    intro b
    obtain ⟨c', v1, l1, a1, a2, a3⟩ := hO _ _ _ _ a D b
    obtain ⟨css', v2, l2, Rs', b1, b2, b3, b4⟩ := ih (b + l1.length)
    refine ⟨c' :: css', v1 ++ v2, l1 ++ l2, List.range' b l1.length :: Rs', ?_, by rw [List.map_append, a2, b2]; rfl, by rw [List.flatten_cons, b3, List.length_append, List.range'_append_1], fun H T hH => .cons ?_ ?_⟩
    · rw [List.flatten_cons, List.flatten_cons]; exact ownL_app a1 b1
    · have := a3 H (l2 ++ T) hH
      simpa only [List.append_assoc] using this
    · have := b4 (H ++ l1) T (by rw [List.length_append, hH])
      simpa only [List.append_assoc] using this
theorem RSl.ownTo {α : Type} {es d : Nat} {mk : α → List GV} {E E' : Rel α} (hE : Good es d mk E) (hO : OwnTo d E E') : OwnTo (d + 1) (RSl es E) (RSl es E') := by
  intro h c xs R he D b
  rcases he with ⟨rfl, rfl, hc⟩ | ⟨b0, css, Rs, rfl, hb, ha, rfl⟩
  · refine ⟨c, [], [], ?_, rfl, fun H T _ => Or.inl ⟨rfl, rfl, hc⟩⟩
    rcases hc with rfl | rfl <;> rfl
  · obtain ⟨css', vis, bl, Rs', a1, a2, a3, a4⟩ := All3.ownTo hO D ha (b + 1)
    obtain ⟨fl, _⟩ := All3.flen (fun h => hE.len h) ha
    have e : own (D + (d + 1)) h b (.sl b0 0 xs.length xs.length es) = some (.sl b 0 xs.length xs.length es, (b0, 0, 0 + xs.length * es) :: vis, css'.flatten :: bl) := by
      rw [← Nat.add_assoc]
      simp only [own, cellsAt_if, hb, Nat.zero_add, fl, if_true, Option.bind_some, List.drop_zero, Nat.le_refl]
      rw [List.take_of_length_le (by omega), a1]
      rfl
    refine ⟨[.sl b 0 xs.length xs.length es], (b0, 0, 0 + xs.length * es) :: vis, css'.flatten :: bl, ?_, ?_, fun H T hH => Or.inr ⟨b, css', Rs', rfl, ?_, ?_, ?_⟩⟩
    · unfold ownL
      rw [e]
      simp [ownL]
    · rw [List.map_cons, a2]
    · rw [List.append_assoc, List.getElem?_append_right (by omega), hH, Nat.sub_self]; rfl
    · have := a4 (H ++ [css'.flatten]) T (by rw [List.length_append, hH]; rfl)
      simpa only [List.append_assoc, List.cons_append, List.nil_append] using this
    · rw [a3, List.length_cons, List.range'_succ]
theorem RSeq.ownTo {α β : Type} {d : Nat} {E E' : Rel α} {F F' : Rel β} (hE : OwnTo d E E') (hF : OwnTo d F F') : OwnTo d (RSeq E F) (RSeq E' F') := by
  rintro h c x R ⟨c1, c2, R1, R2, rfl, rfl, h1, h2⟩ D b
  obtain ⟨c1', v1, l1, a1, a2, a3⟩ := hE _ _ _ _ h1 D b
  obtain ⟨c2', v2, l2, b1, b2, b3⟩ := hF _ _ _ _ h2 D (b + l1.length)
  refine ⟨c1' ++ c2', v1 ++ v2, l1 ++ l2, ownL_app a1 b1, by rw [List.map_append, a2, b2], fun H T hH => ?_⟩
  refine ⟨c1', c2', List.range' b l1.length, List.range' (b + l1.length) l2.length, rfl, by rw [List.length_append, List.range'_append_1], ?_, ?_⟩
  · have := a3 H (l2 ++ T) hH
    simpa only [List.append_assoc] using this
  · have := b3 (H ++ l1) T (by rw [List.length_append, hH])
    simpa only [List.append_assoc] using this

abbrev rSo : Rel (List ByteArray) := ROff cs
abbrev rIo : Rel (List Int) := ROff ci
theorem goodSo : Good 1 2 (mStringS true) rSo := ROff.good (fun _ => rfl) (fun _ => rfl)
theorem goodIo : Good 1 2 (mInt64S true) rIo := ROff.good (fun _ => rfl) (fun _ => rfl)
abbrev rChainO : Rel ChainT := RSeq rServerS (RSeq (RSl 1 rSo) (RSl 1 rIo))
theorem goodChainO : Good 3 3 (mChain true) rChainO := RSeq.good (goodServerS.mono (by omega)) (RSeq.good ((RSl.good goodSo).mono (by omega)) ((RSl.good goodIo).mono (by omega)))
theorem ownChain : OwnTo 3 rChainO rChain := RSeq.ownTo (OwnTo.mono (Good.ownTo goodServerS) (by omega)) (RSeq.ownTo (OwnTo.mono (RSl.ownTo goodSo (ROff.ownTo (fun _ => rfl) (fun _ => rfl))) (by omega)) (OwnTo.mono (RSl.ownTo goodIo (ROff.ownTo (fun _ => rfl) (fun _ => rfl))) (by omega)))
theorem finO_chain {h : Heap} {c : List GV} {a : ChainT} {R : List Nat} {t : Bool} (he : rChainO h c a R) (nd : R.Nodup) (b : Nat) : ∃ c' bl, finO b (.tup [.agg c, .bool t]) h = some (.tup [.agg c', .bool t], bl) ∧ ∀ H T, H.length = b → rChain (H ++ bl ++ T) c' a (List.range' b bl.length) := by
  obtain ⟨c', vis, bl, a1, a2, a3⟩ := ownChain _ _ _ _ he 4 b
  refine ⟨c', bl, ?_, a3⟩
  unfold finO ownOk
  have e : own 9 h b (.tup [.agg c, .bool t]) = some (.tup [.agg c', .bool t], vis, bl) := by
    show (ownL (own 8 h) b [.agg c, .bool t]).bind _ = _
    have e1 : own 8 h b (.agg c) = some (.agg c', vis, bl) := by
      show (ownL (own 7 h) b c).bind _ = _
      rw [a1]; rfl
    unfold ownL
    rw [e1]
    simp [ownL, own]
  simp only [e, Option.bind_some, a2, nodupB_of nd, cond_true]
theorem All3.map {α : Type} {E E' : List GV → α → List Nat → Prop} (hE : ∀ {c x r}, E c x r → E' c x r) {css : List (List GV)} {xs : List α} {Rs : List (List Nat)} (h : All3 E css xs Rs) : All3 E' css xs Rs := by
  induction h with
  | nil => exact .nil
  | cons a _ ih => exact .cons (hE a) ih
theorem RSl.map {α : Type} {es : Nat} {E E' : Rel α} {h : Heap} (hE : ∀ {c x r}, E h c x r → E' h c x r) {c : List GV} {xs : List α} {R : List Nat} (he : RSl es E h c xs R) : RSl es E' h c xs R := by
  rcases he with h1 | ⟨b, css, Rs, h1, h2, h3, h4⟩
  · exact Or.inl h1
  · exact Or.inr ⟨b, css, Rs, h1, h2, All3.map hE h3, h4⟩
/-- What a function does that changes a chain in a variable; lists may be cut. -/
def OpN (f : FuncId) (args : List GV) (a : ChainT) (res : ChainT × Bool) : Prop := ∀ (p lo : Nat) (H : Heap) (vS vD vU : GV) (RS RD RU : List Nat), ChainIn p lo a H vS vD vU RS RD RU → lo ≤ H.length →
  ∃ H' c' R', HH f (.ptr p 0 3 :: args) H = some (.bool res.2, H') ∧ H'[p]? = some c' ∧ rChainO H' c' res.1 R' ∧ R'.Nodup ∧ (∀ i ∈ R', lo ≤ i) ∧ (∀ i, i < H.length → i ≠ p → i ∉ RS → i ∉ RD → i ∉ RU → H'[i]? = H[i]?)
theorem rChainO_of {h : Heap} {c : List GV} {a : ChainT} {R : List Nat} (he : rChain h c a R) : rChainO h c a R := by
  obtain ⟨c1, c2, R1, R2, rfl, rfl, hS, c3, c4, R3, R4, rfl, rfl, hD, hU⟩ := he
  exact ⟨c1, _, R1, _, rfl, rfl, hS, c3, c4, R3, R4, rfl, rfl, RSl.map (fun h => Or.inl h) hD, RSl.map (fun h => Or.inl h) hU⟩
theorem OpR.opN {f : FuncId} {args : List GV} {a : ChainT} {res : ChainT × Bool} (h : OpR f args a res) : OpN f args a res := fun p lo H vS vD vU RS RD RU C hlo => by
  obtain ⟨H', vS', vD', vU', RS', RD', RU', t, C', k⟩ := h p lo H vS vD vU RS RD RU C hlo
  obtain ⟨hr, nd⟩ := C'.fin
  refine ⟨H', _, _, t, C'.cell, rChainO_of hr, nd, fun i hi => ?_, k⟩
  simp only [List.mem_append] at hi
  rcases hi with h | h | h
  · exact C'.ls i h
  · exact C'.ld i h
  · exact C'.lu i h
open Classical in
theorem impl_changed_specN (a : ChainT) (hm : okChain a) (f : FuncId) (caps : List GV) (res : ChainT × Bool) (hk : ∀ (args : List GV) (h : Heap) (K : GV → Heap → Option (GV × List (List GV))), kval (.fn f caps) args h K = (HH f (args ++ caps) h).bind fun r => K r.1 r.2) (hop : ChainP a.1 a.2.1 a.2.2 → OpN f caps a res) (hf : res.2 = false → res.1 = a) (b : Nat) :
    ∃ c bl, OO fn.impl_changed [.agg (mChain true a), .fn f caps] b = some (.tup [.agg c, .bool (onM a res).2], bl) ∧ ∀ H T, H.length = b → rChain (H ++ bl ++ T) c (onM a res).1 (List.range' b bl.length) := by
  have hc := impl_ChainOk_spec a.1 a.2.1 a.2.2 hm
  have bM : ∀ H : Heap, bors H [.agg (mChain true a)] = some [.agg (mChain true a)] := fun H => by simp
  have hc' : NN fn.impl_ChainOk [.agg (mChain true a)] = some (.bool (decide (ChainP a.1 a.2.1 a.2.2))) := hc
  have hML : (mChain true a).length = 3 := rfl
  by_cases h : ChainP a.1 a.2.1 a.2.2
  case neg =>
    have hon : onM a res = (([], [], []), false) := by unfold onM; rw [if_neg h]
    rw [decide_eq_false h] at hc'
    obtain ⟨c, bl, f1, f2⟩ := goodChain.finT (t := false) (by omega) (h := [mChain true a, [.nils, .nils, .nils]]) rChain_none List.nodup_nil b
    refine ⟨c, bl, ?_, by rw [hon]; exact f2⟩
    rw [hon]
    apply S.impl_changed.gives (k := 0)
    have q := kN_at (H := [mChain true a, [.nils, .nils, .nils]]) (bM _) hc'
    simp only [mChain] at q f1
    simp [S.impl_changed.run, gfill, q, f1, -kN_eq]
  have hon : onM a res = res := by unfold onM; rw [if_pos h]
  rw [decide_eq_true h] at hc'
  rw [hon]
  obtain ⟨M, hM⟩ : ∃ M, mChain true a = M := ⟨_, rfl⟩
  have cp := fun H => fresh_agg goodChain (f := fn.impl_Chain_copied) (args := [.agg M]) (xs := [.agg M]) (H := H) (x := a) (by rw [← hM]; exact bM _) (by rw [← hM]; exact impl_Chain_copied_spec a hm (chain_len h) H.length)
  rw [hM] at hc' bM hML ⊢
  obtain ⟨H0, hH0⟩ : ∃ H0 : Heap, [M, [.nils, .nils, .nils]] = H0 := ⟨_, rfl⟩
  have l0 : H0.length = 2 := by rw [← hH0]; rfl
  have A0 : H0[0]? = some M := by rw [← hH0]; rfl
  have Z0 : H0[1]? = some [.nils, .nils, .nils] := by rw [← hH0]; rfl
  have hbox : ∀ {Q : Type} (K : GV → Heap → Option Q), kbox (.agg M) [] K = K (.ptr 0 0 3) [M] := fun K => by rw [kbox_agg, hML]; rfl
  have hal : ∀ {Q : Type} (K : GV → Heap → Option Q), kalloc [.nils, .nils, .nils] [M] K = K (.ptr 1 0 3) H0 := fun K => by rw [kalloc_eq, ← hH0]; rfl
  have q := kN_at (H := H0) (bM _) hc'
  obtain ⟨c1, R1, H1, t1, r1, n1, b1, f1, l1⟩ := cp H0
  have cl1 := goodChain.len r1
  have v1 := var_at (H := H1) (z := [.nils, .nils, .nils]) (c := c1) (n := 3) rfl cl1 (goodChain.cell r1)
  obtain ⟨H2, hH2⟩ : ∃ H2, H1 ++ [c1] = H2 := ⟨_, rfl⟩
  have f2 : Fr [] H1 H2 := by rw [← hH2]; exact .app
  have l2 : H2.length = H1.length + 1 := by rw [← hH2]; simp
  have X2 : H2[H1.length]? = some c1 := by rw [← hH2]; simp
  rw [hH2] at v1
  obtain ⟨vS, vD, vU, RS, RD, RU, hcc, C, hin⟩ := rChain_in (lo := 2) X2 (goodChain.keep r1 f2 (fun _ _ => no_nil)) n1 (fun i hi => by have := b1 i hi; omega) (fun hi => by have := b1 _ hi; omega)
  obtain ⟨H3, c3, R3, t3, C3c, hr3, nd3, hlo3, k3⟩ := hop h H1.length 2 H2 vS vD vU RS RD RU C (by omega)
  have ks : ∀ (i : Nat) (c : List GV), i < 2 → H2[i]? = some c → H3[i]? = some c := fun i c hi hc => by
    have hno : ∀ S : List Nat, (∀ j ∈ S, j ∈ RS ∨ j ∈ RD ∨ j ∈ RU) → i ∉ S := fun S hS hi' => by
      have := b1 i (hin i (hS i hi')); omega
    rw [k3 i (List.getElem?_eq_some_iff.1 hc).1 (by omega) (hno _ fun j hj => Or.inl hj) (hno _ fun j hj => Or.inr (Or.inl hj)) (hno _ fun j hj => Or.inr (Or.inr hj)), hc]
  have A3 := ks 0 _ (by omega) (f2.blk (f1.blk A0 no_nil) no_nil)
  have Z3 := ks 1 _ (by omega) (f2.blk (f1.blk Z0 no_nil) no_nil)
  have kv : ∀ (K : GV → Heap → Option (GV × List (List GV))), kval (.fn f caps) [.ptr H1.length 0 3] H2 K = K (.bool res.2) H3 := fun K => by rw [hk]; show (HH f (.ptr H1.length 0 3 :: caps) H2).bind _ = _; rw [t3]; rfl
  have cl3 := goodChainO.len hr3
  cases hb : res.2 with
  | true =>
    have l3 := kloadA_at (n := 3) C3c cl3
    have s3 := kstoreA_at (n := 3) Z3 rfl (c' := c3) cl3 (goodChainO.cell hr3)
    have hl3 := (List.getElem?_eq_some_iff.1 Z3).1
    obtain ⟨H4, hH4⟩ : ∃ H4, H3.set 1 c3 = H4 := ⟨_, rfl⟩
    have f4 : Fr [1] H3 H4 := by rw [← hH4]; exact .set (by simp)
    rw [hH4] at s3
    have A4 : H4[1]? = some c3 := by rw [← hH4, List.getElem?_set_self hl3]
    have l4 := kloadA_at (n := 3) A4 cl3
    obtain ⟨c, bl, e1, e2⟩ := finO_chain (t := true) (goodChainO.keep hr3 f4 (fun i hi h => by have := hlo3 i hi; rw [List.mem_singleton] at h; omega)) nd3 b
    refine ⟨c, bl, S.impl_changed.gives (k := 0) ?_, e2⟩
    rw [hb] at kv
    simp [S.impl_changed.run, hbox, hal, kloadA_at A0 hML, q, t1, v1, hH2, kv, l3, s3, l4, e1, -kN_eq, -kF_OO, -kloadA_ptr, -kstore_ptr, -kbox_agg, -kalloc_eq]
    simp [kalloc_at, v1, kv, l3, s3, l4, e1, -kloadA_ptr, -kstore_ptr, -kalloc_eq]
  | false =>
    obtain ⟨c5, R5, H5, t5, r5, n5, b5, f5, l5⟩ := cp H3
    have cl5 := goodChain.len r5
    have Z5 := f5.blk Z3 no_nil
    have hl5 := (List.getElem?_eq_some_iff.1 Z5).1
    have hl3 := (List.getElem?_eq_some_iff.1 Z3).1
    have s5 := kstoreA_at (n := 3) Z5 rfl (c' := c5) cl5 (goodChain.cell r5)
    obtain ⟨H6, hH6⟩ : ∃ H6, H5.set 1 c5 = H6 := ⟨_, rfl⟩
    have f6 : Fr [1] H5 H6 := by rw [← hH6]; exact .set (by simp)
    rw [hH6] at s5
    have A6 : H6[1]? = some c5 := by rw [← hH6, List.getElem?_set_self hl5]
    have l6 := kloadA_at (n := 3) A6 cl5
    obtain ⟨c, bl, e1, e2⟩ := goodChain.finT (t := false) (by omega) (goodChain.keep r5 f6 (fun i hi h => by have := b5 i hi; rw [List.mem_singleton] at h; omega)) n5 b
    refine ⟨c, bl, S.impl_changed.gives (k := 0) ?_, by rw [hf hb]; exact e2⟩
    rw [hb] at kv
    simp [S.impl_changed.run, hbox, hal, kloadA_at A0 hML, q, t1, v1, hH2, kv, kloadA_at A3 hML, t5, s5, l6, e1, -kN_eq, -kF_OO, -kloadA_ptr, -kstore_ptr, -kbox_agg, -kalloc_eq]
    simp [kalloc_at, v1, kv, kloadA_at A3 hML, t5, s5, l6, e1, -kF_OO, -kloadA_ptr, -kstore_ptr, -kalloc_eq]
end Go.Proofs.Ytopmnigfklgnkaa.G
