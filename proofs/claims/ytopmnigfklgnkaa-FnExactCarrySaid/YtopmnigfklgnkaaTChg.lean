/- Functions that change a copy of a chain. -/
import Derived.Test.YtopmnigfklgnkaaTCopy
namespace Go.Proofs.Ytopmnigfklgnkaa.G
open Go.RowKit
set_option linter.unusedVariables false
set_option linter.unusedSimpArgs false

/-! Laid-in data handed back, told by what they hold. -/
theorem RFl.frz {α : Type} {mk : α → List GV} (hp : ∀ x, (mk x).all Pl = true) {d : Nat} {h : Heap} {c : List GV} {x : α} {R : List Nat} (he : RFl mk h c x R) : Frz (d + 1) h c (mk x) := by
  obtain ⟨rfl, rfl⟩ := he
  have := hp x
  generalize mk x = l at this
  induction l with
  | nil => exact .nil
  | cons g l ih =>
    rw [List.all_cons, Bool.and_eq_true] at this
    refine .cons (r := []) ?_ (ih this.2)
    cases g <;> first | rfl | cases this.1
theorem RSl.frz {α : Type} {es d : Nat} {mk mk' : α → List GV} {E : Rel α} (hG : Good es d mk E) {n : Nat} {h : Heap} (hE : ∀ c x R, E h c x R → Frz n h c (mk' x)) {v : GV} {xs : List α} {R : List Nat} (he : RSl es E h [v] xs R) : Frz (n + 1) h [v] [fzl false es mk' xs] := by
  rcases he with ⟨rfl, rfl, hc⟩ | ⟨b, css, Rs, hv, hb, ha, rfl⟩
  · rcases hc with hc | hc <;> (injection hc with hc; subst hc; exact .cons (r := []) rfl .nil)
  · injection hv with hv
    subst hv
    obtain ⟨fl, fe⟩ := All3.flen (fun h => hG.len h) ha
    have hf : Frz n h css.flatten (xs.flatMap mk') := by
      clear hb fl fe
      induction ha with
      | nil => exact .nil
      | cons a _ ih => exact .append (hE _ _ _ a) ih
    obtain ⟨ys, h1, h2⟩ := hf
    refine .cons (r := []) ?_ .nil
    simp only [Go.Proofs.Ytopmnigfklgnkaa.G.frz, Option.bind_eq_bind, cellsAt_if, hb, Option.bind_some, Nat.zero_add, fl, if_true, List.drop_zero]
    rw [List.take_of_length_le (by omega), h1]
    simp only [Option.bind_some, Nat.le_refl, if_true]
    cases xs with
    | nil => rfl
    | cons x xs => simp [fzl, h2]
theorem rChain_frz {n : Nat} {h : Heap} {c : List GV} {a : ChainT} {R : List Nat} (he : rChain h c a R) : Frz (n + 3) h c (mChain false a) := by
  obtain ⟨c1, c2, R1, R2, rfl, rfl, hS, c3, c4, R3, R4, rfl, rfl, hD, hU⟩ := he
  obtain ⟨vS, rfl⟩ := List.length_eq_one_iff.1 (goodServerS.len hS)
  obtain ⟨vD, rfl⟩ := List.length_eq_one_iff.1 (goodStringSS.len hD)
  obtain ⟨vU, rfl⟩ := List.length_eq_one_iff.1 (goodInt64SS.len hU)
  have gS : ∀ (m : Nat) c x R, rStringS h c x R → Frz (m + 2) h c (mStringS false x) := fun m c x R hr => by
    obtain ⟨v, rfl⟩ := List.length_eq_one_iff.1 (goodStringS.len hr)
    exact RSl.frz (RFl.good (es := 1) (mk := cs) (fun _ => rfl) (fun _ => rfl)) (fun c x R hr => RFl.frz (fun _ => rfl) hr) hr
  have gI : ∀ (m : Nat) c x R, rInt64S h c x R → Frz (m + 2) h c (mInt64S false x) := fun m c x R hr => by
    obtain ⟨v, rfl⟩ := List.length_eq_one_iff.1 (goodInt64S.len hr)
    exact RSl.frz (RFl.good (es := 1) (mk := ci) (fun _ => rfl) (fun _ => rfl)) (fun c x R hr => RFl.frz (fun _ => rfl) hr) hr
  have h1 : Frz (n + 3) h [vS] [fzl false 2 (mServer false) a.1] := RSl.frz goodServer (fun c x R hr => by
    obtain ⟨c1, c2, R1, R2, rfl, rfl, hL, ⟨rfl, rfl⟩⟩ := hr
    exact .append (gS n _ _ _ hL) (.cons (r := []) rfl .nil)) hS
  have h2 : Frz (n + 3) h [vD] [fzl false 1 (mStringS false) a.2.1] := RSl.frz goodStringS (fun c x R hr => gS n c x R hr) hD
  have h3 : Frz (n + 3) h [vU] [fzl false 1 (mInt64S false) a.2.2] := RSl.frz goodInt64S (fun c x R hr => gI n c x R hr) hU
  exact .append h1 (.append h2 h3)
theorem finN_chain {h : Heap} {c : List GV} {a : ChainT} {R : List Nat} {t : Bool} (he : rChain h c a R) : finN (.tup [.agg c, .bool t]) h = some (.tup [.agg (mChain false a), .bool t]) := by
  have h1 := rChain_frz (n := 4) he
  exact finN_of (frz_tup (.cons (frz_agg h1) (.cons frz_bool .nil)))
theorem rChain_none {H : Heap} : rChain H [.nils, .nils, .nils] ([], [], []) [] := ⟨[.nils], [.nils, .nils], [], [], rfl, rfl, Or.inl ⟨rfl, rfl, Or.inr rfl⟩, ⟨[.nils], [.nils], [], [], rfl, rfl, Or.inl ⟨rfl, rfl, Or.inr rfl⟩, Or.inl ⟨rfl, rfl, Or.inr rfl⟩⟩⟩
open Classical in
/-- What is answered: nothing of a chain that is not right. -/
noncomputable def onM (a : ChainT) (res : ChainT × Bool) : ChainT × Bool := if ChainP a.1 a.2.1 a.2.2 then res else (([], [], []), false)
theorem chain_len {a : ChainT} (h : ChainP a.1 a.2.1 a.2.2) : a.2.1.length = a.2.2.length := by have := h.2.1; have := h.2.2.1; omega
open Classical in
theorem impl_changed_spec (a : ChainT) (hm : okChain a) (f : FuncId) (caps : List GV) (res : ChainT × Bool) (hk : ∀ (args : List GV) (h : Heap) (K : GV → Heap → Option (GV × List (List GV))), kval (.fn f caps) args h K = (HH f (args ++ caps) h).bind fun r => K r.1 r.2) (hop : ChainP a.1 a.2.1 a.2.2 → OpR f caps a res) (hf : res.2 = false → res.1 = a) (b : Nat) :
    ∃ c bl, OO fn.impl_changed [.agg (mChain true a), .fn f caps] b = some (.tup [.agg c, .bool (onM a res).2], bl) ∧ ∀ H T, H.length = b → rChain (H ++ bl ++ T) c (onM a res).1 (List.range' b bl.length) := by
  have hc := impl_ChainOk_spec a.1 a.2.1 a.2.2 hm
  have bM : ∀ H : Heap, bors H [.agg (mChain true a)] = some [.agg (mChain true a)] := fun H => by simp
  have hc' : NN fn.impl_ChainOk [.agg (mChain true a)] = some (.bool (decide (ChainP a.1 a.2.1 a.2.2))) := hc
  have hML : (mChain true a).length = 3 := rfl
  by_cases h : ChainP a.1 a.2.1 a.2.2
  case neg =>
    have hon : onM a res = (([], [], []), false) := by unfold onM; rw [if_neg h]
    rw [decide_eq_false h] at hc'
    obtain ⟨c, bl, f1, f2⟩ := goodChain.finT (t := false) (by omega) (h := [mChain true a, [.nils, .nils, .nils]]) rChain_none List.nodup_nil b
    refine ⟨c, bl, ?_, by rw [hon]; exact f2⟩
    rw [hon]
    apply S.impl_changed.gives (k := 0)
    have q := kN_at (H := [mChain true a, [.nils, .nils, .nils]]) (bM _) hc'
    simp only [mChain] at q f1
    simp [S.impl_changed.run, gfill, q, f1, -kN_eq]
  have hon : onM a res = res := by unfold onM; rw [if_pos h]
  rw [decide_eq_true h] at hc'
  rw [hon]
  obtain ⟨M, hM⟩ : ∃ M, mChain true a = M := ⟨_, rfl⟩
  have cp := fun H => fresh_agg goodChain (f := fn.impl_Chain_copied) (args := [.agg M]) (xs := [.agg M]) (H := H) (x := a) (by rw [← hM]; exact bM _) (by rw [← hM]; exact impl_Chain_copied_spec a hm (chain_len h) H.length)
  rw [hM] at hc' bM hML ⊢
  obtain ⟨H0, hH0⟩ : ∃ H0 : Heap, [M, [.nils, .nils, .nils]] = H0 := ⟨_, rfl⟩
  have l0 : H0.length = 2 := by rw [← hH0]; rfl
  have A0 : H0[0]? = some M := by rw [← hH0]; rfl
  have Z0 : H0[1]? = some [.nils, .nils, .nils] := by rw [← hH0]; rfl
  have hbox : ∀ {Q : Type} (K : GV → Heap → Option Q), kbox (.agg M) [] K = K (.ptr 0 0 3) [M] := fun K => by rw [kbox_agg, hML]; rfl
  have hal : ∀ {Q : Type} (K : GV → Heap → Option Q), kalloc [.nils, .nils, .nils] [M] K = K (.ptr 1 0 3) H0 := fun K => by rw [kalloc_eq, ← hH0]; rfl
  have q := kN_at (H := H0) (bM _) hc'
  obtain ⟨c1, R1, H1, t1, r1, n1, b1, f1, l1⟩ := cp H0
  have cl1 := goodChain.len r1
  have v1 := var_at (H := H1) (z := [.nils, .nils, .nils]) (c := c1) (n := 3) rfl cl1 (goodChain.cell r1)
  obtain ⟨H2, hH2⟩ : ∃ H2, H1 ++ [c1] = H2 := ⟨_, rfl⟩
  have f2 : Fr [] H1 H2 := by rw [← hH2]; exact .app
  have l2 : H2.length = H1.length + 1 := by rw [← hH2]; simp
  have X2 : H2[H1.length]? = some c1 := by rw [← hH2]; simp
  rw [hH2] at v1
  obtain ⟨vS, vD, vU, RS, RD, RU, hcc, C, hin⟩ := rChain_in (lo := 2) X2 (goodChain.keep r1 f2 (fun _ _ => no_nil)) n1 (fun i hi => by have := b1 i hi; omega) (fun hi => by have := b1 _ hi; omega)
  obtain ⟨H3, vS', vD', vU', RS', RD', RU', t3, C3, k3⟩ := hop h H1.length 2 H2 vS vD vU RS RD RU C (by omega)
  have ks : ∀ (i : Nat) (c : List GV), i < 2 → H2[i]? = some c → H3[i]? = some c := fun i c hi hc => by
    have hno : ∀ S : List Nat, (∀ j ∈ S, j ∈ RS ∨ j ∈ RD ∨ j ∈ RU) → i ∉ S := fun S hS hi' => by
      have := b1 i (hin i (hS i hi')); omega
    rw [k3 i (List.getElem?_eq_some_iff.1 hc).1 (by omega) (hno _ fun j hj => Or.inl hj) (hno _ fun j hj => Or.inr (Or.inl hj)) (hno _ fun j hj => Or.inr (Or.inr hj)), hc]
  have A3 := ks 0 _ (by omega) (f2.blk (f1.blk A0 no_nil) no_nil)
  have Z3 := ks 1 _ (by omega) (f2.blk (f1.blk Z0 no_nil) no_nil)
  have kv : ∀ (K : GV → Heap → Option (GV × List (List GV))), kval (.fn f caps) [.ptr H1.length 0 3] H2 K = K (.bool res.2) H3 := fun K => by rw [hk]; show (HH f (.ptr H1.length 0 3 :: caps) H2).bind _ = _; rw [t3]; rfl
  obtain ⟨hr3, nd3⟩ := C3.fin
  have hlo3 : ∀ i ∈ RS' ++ (RD' ++ RU'), 2 ≤ i := fun i hi => by
    simp only [List.mem_append] at hi
    rcases hi with h | h | h
    · exact C3.ls i h
    · exact C3.ld i h
    · exact C3.lu i h
  cases hb : res.2 with
  | true =>
    have l3 := kloadA_at (n := 3) C3.cell rfl
    have hc3 : [vS', vD', vU'].all GV.isCell = true := by simp [(cell_of C3.s).2, (cell_of C3.d).2, (cell_of C3.u).2]
    have s3 := kstoreA_at (n := 3) Z3 rfl (c' := [vS', vD', vU']) rfl hc3
    have hl3 := (List.getElem?_eq_some_iff.1 Z3).1
    obtain ⟨H4, hH4⟩ : ∃ H4, H3.set 1 [vS', vD', vU'] = H4 := ⟨_, rfl⟩
    have f4 : Fr [1] H3 H4 := by rw [← hH4]; exact .set (by simp)
    rw [hH4] at s3
    have A4 : H4[1]? = some [vS', vD', vU'] := by rw [← hH4, List.getElem?_set_self hl3]
    have l4 := kloadA_at (n := 3) A4 rfl
    obtain ⟨c, bl, e1, e2⟩ := goodChain.finT (t := true) (by omega) (goodChain.keep hr3 f4 (fun i hi h => by have := hlo3 i hi; rw [List.mem_singleton] at h; omega)) nd3 b
    refine ⟨c, bl, S.impl_changed.gives (k := 0) ?_, e2⟩
    rw [hb] at kv
    simp [S.impl_changed.run, hbox, hal, kloadA_at A0 hML, q, t1, v1, hH2, kv, l3, s3, l4, e1, -kN_eq, -kF_OO, -kloadA_ptr, -kstore_ptr, -kbox_agg, -kalloc_eq]
    simp [kalloc_at, v1, kv, l3, s3, l4, e1, -kloadA_ptr, -kstore_ptr, -kalloc_eq]
  | false =>
    obtain ⟨c5, R5, H5, t5, r5, n5, b5, f5, l5⟩ := cp H3
    have cl5 := goodChain.len r5
    have Z5 := f5.blk Z3 no_nil
    have hl5 := (List.getElem?_eq_some_iff.1 Z5).1
    have hl3 := (List.getElem?_eq_some_iff.1 Z3).1
    have s5 := kstoreA_at (n := 3) Z5 rfl (c' := c5) cl5 (goodChain.cell r5)
    obtain ⟨H6, hH6⟩ : ∃ H6, H5.set 1 c5 = H6 := ⟨_, rfl⟩
    have f6 : Fr [1] H5 H6 := by rw [← hH6]; exact .set (by simp)
    rw [hH6] at s5
    have A6 : H6[1]? = some c5 := by rw [← hH6, List.getElem?_set_self hl5]
    have l6 := kloadA_at (n := 3) A6 cl5
    obtain ⟨c, bl, e1, e2⟩ := goodChain.finT (t := false) (by omega) (goodChain.keep r5 f6 (fun i hi h => by have := b5 i hi; rw [List.mem_singleton] at h; omega)) n5 b
    refine ⟨c, bl, S.impl_changed.gives (k := 0) ?_, by rw [hf hb]; exact e2⟩
    rw [hb] at kv
    simp [S.impl_changed.run, hbox, hal, kloadA_at A0 hML, q, t1, v1, hH2, kv, kloadA_at A3 hML, t5, s5, l6, e1, -kN_eq, -kF_OO, -kloadA_ptr, -kstore_ptr, -kbox_agg, -kalloc_eq]
    simp [kalloc_at, v1, kv, kloadA_at A3 hML, t5, s5, l6, e1, -kF_OO, -kloadA_ptr, -kstore_ptr, -kalloc_eq]
theorem ok_none : okChain ([], [], []) := ⟨⟨by simp, fun x h => (by cases h)⟩, ⟨by simp, fun x h => (by cases h)⟩, ⟨by simp, fun x h => (by cases h)⟩⟩
theorem onM_ok {a : ChainT} {res : ChainT × Bool} (h : ChainP a.1 a.2.1 a.2.2 → okChain res.1) : okChain (onM a res).1 := by
  unfold onM
  split
  · rename_i hp; exact h hp
  · exact ok_none
/-- What is on its way down is short. -/
theorem down_short {a : ChainT} (h : ChainP a.1 a.2.1 a.2.2) {i : Nat} (hi : i < a.2.1.length) : a.2.1[i].length ≤ 60 := by
  have h1 := h.2.1
  have h2 := (h.2.2.2.2.1 i (by omega) (by omega)).2.1
  have i0 : i < a.1.length := by omega
  have i1 : i + 1 < a.1.length := by omega
  rw [get_of i0, get_of i1, get_of hi] at h2
  have h3 := (h.2.2.2.1 _ (List.getElem_mem i0)).1
  have h4 := congrArg List.length h2
  simp only [Option.getD_some] at h4
  rw [List.length_append] at h4
  omega
theorem mem_set_or {α : Type} {l : List α} {i : Nat} {x y : α} (h : y ∈ l.set i x) : y ∈ l ∨ y = x := List.mem_or_eq_of_mem_set h
theorem ok_log {log : List ByteArray} (h : log.length ≤ 61) (hs : ∀ x ∈ log, x.size ≤ 1048576) : okStringS log := ⟨by omega, hs⟩
end Go.Proofs.Ytopmnigfklgnkaa.G
