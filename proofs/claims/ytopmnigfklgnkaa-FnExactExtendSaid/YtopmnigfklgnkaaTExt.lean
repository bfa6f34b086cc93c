/- One more server at the end of a chain. -/
import Derived.Test.YtopmnigfklgnkaaTChg
import Derived.Test.YtopmnigfklgnkaaSOExtend
namespace Go.Proofs.Ytopmnigfklgnkaa.G
open Go.RowKit
set_option linter.unusedVariables false
set_option linter.unusedSimpArgs false

@[simp] theorem any_ff {l : List Nat} : l.any (fun _ => false) = false := by induction l <;> simp_all
theorem clone_rel2 {v : GV} {r : List Nat} {xs : List ByteArray} (hm : xs.length ≤ 4194304) {H : Heap} (hv : rStringS H [v] xs r) : ∃ v' H' R, kF true HH fn.slices_Clone_string [v] H = some (v', H') ∧ rStringS H' [v'] xs R ∧ R.Nodup ∧ (∀ i ∈ R, H.length ≤ i) ∧ Fr [] H H' := by
  obtain ⟨g, h1, h2⟩ := goodStringS.lend1 (by omega) hv
  have e : g = fzl true 1 cs xs := by have := h2; simp only [mStringS] at this; injection this with this; exact this.symm
  subst e
  have hk := clone_call (v := v) xs hm H ⟨_, h1⟩
  by_cases h0 : xs.length = 0
  · rw [if_pos h0] at hk
    have hz := List.eq_nil_of_length_eq_zero h0
    subst hz
    exact ⟨_, _, [], hk, rStringS_emp, List.nodup_nil, fun i hi => (by cases hi), .refl⟩
  · rw [if_neg h0] at hk
    exact ⟨_, _, _, hk, rStringS_new (b := H.length) (by simp), by simp, fun i hi => by rw [List.mem_singleton] at hi; omega, .app⟩
theorem texts_rel2 {v : GV} {r : List Nat} {xs : List ByteArray} (hm : xs.length ≤ 4194304) {H : Heap} (hv : rStringS H [v] xs r) : ∃ v' H' R, kF false HH fn.spec_l17Texts [v] H = some (v', H') ∧ rStringS H' [v'] xs R ∧ R.Nodup ∧ (∀ i ∈ R, H.length ≤ i) ∧ Fr [] H H' := by
  obtain ⟨g, h1, h2⟩ := goodStringS.lend1 (by omega) hv
  have e : g = fzl true 1 cs xs := by have := h2; simp only [mStringS] at this; injection this with this; exact this.symm
  subst e
  obtain ⟨v', H', R, t, rest⟩ := texts_rel xs hm H
  refine ⟨v', H', R, ?_, rest⟩
  rw [kF_OO] at t ⊢
  simp only [bors_cons, bors_nil, h1, Option.bind_some, bor_cs] at t ⊢
  exact t
theorem ChainIn.pushDU {p lo : Nat} {a : ChainT} {H : Heap} {vS vD vU : GV} {RS RD RU : List Nat} (C : ChainIn p lo a H vS vD vU RS RD RU) {cx : List GV} {x : List ByteArray} {Rx : List Nat} {q : Nat} (hx : rStringS H cx x Rx) (nx : Rx.Nodup) (hb : ∀ i ∈ Rx, q ≤ i) (hq : ∀ i, i ∈ RS ∨ i ∈ RD ∨ i ∈ RU → i < q) (hlq : lo ≤ q) (hpq : p < q) (hqH : q ≤ H.length) (hn : a.2.1.length ≤ 4194304) (hn' : a.2.2.length ≤ 4194304) :
    ∃ v' H4, kapp [.nils] 1 24 vD (.sl H.length 0 1 1 1) (H ++ [cx]) = some (v', H4) ∧ H.length + 1 ≤ H4.length ∧ H4[p]? = some [vS, vD, vU] ∧ (∀ k ∈ kblk vD, k ∈ RD) ∧
      ∀ (H6 : Heap) (cy : List GV) (y : List Int) (Ry : List Nat), Fr [] H4 H6 → rInt64S H6 cy y Ry → Ry.Nodup → (∀ i ∈ Ry, H4.length ≤ i) → ∃ w' H7 H8 H9 RD' RU', kapp [.nils] 1 24 vU (.sl H6.length 0 1 1 1) (H6 ++ [cy]) = some (w', H7) ∧ kstore 1 H7 (.ptr p 1 3) v' = some H8 ∧ kstore 1 H8 (.ptr p 2 3) w' = some H9 ∧ ChainIn p lo (a.1, a.2.1 ++ [x], a.2.2 ++ [y]) H9 vS v' w' RS RD' RU' ∧ (∀ i, i < H.length → i ≠ p → i ∉ RD → i ∉ RU → H9[i]? = H[i]?) := by
  obtain ⟨v', H4, RD', a1, a2, a3, a4, a5, a6, a7⟩ := app_sl goodStringS (by omega) (z := [.nils]) (b := 24) rfl (by omega) (H := H ++ [cx]) (goodStringSS.grow C.d) C.nd hn (goodStringS.grow hx) nx (fun i hi h' => by have := hb i hi; have := hq i (Or.inr (Or.inl h')); omega) (q := H.length) (by simp)
  have l1 : (H ++ [cx]).length = H.length + 1 := by simp
  have hl4 := a5.1
  have C4c := a5.blk ((Fr.app (R := []) (t := [cx])).blk C.cell no_nil) C.pd
  have C4s := goodServerS.keep (goodServerS.grow (t := [cx]) C.s) a5 C.sd
  have C4u := goodInt64SS.keep (goodInt64SS.grow (t := [cx]) C.u) a5 (fun i hi h' => C.du i h' hi)
  refine ⟨v', H4, a1, by omega, C4c, fun k hk => ?_, fun H6 cy y Ry f6 r6 n6 b6 => ?_⟩
  · rcases a7 with ⟨i, _, hi, _, e⟩ | ⟨e, _⟩
    · rw [e, List.mem_singleton] at hk; rw [hk]; exact hi
    · rw [e] at hk; cases hk
  have hl6 := f6.1
  obtain ⟨w', H7, RU', e1, e2, e3, e4, e5, e6, e7⟩ := app_sl goodInt64S (by omega) (z := [.nils]) (b := 24) rfl (by omega) (H := H6 ++ [cy]) (goodInt64SS.grow (goodInt64SS.keep C4u f6 (fun _ _ => no_nil))) C.nu hn' (goodInt64S.grow r6) n6 (fun i hi h' => by have := b6 i hi; have := hq i (Or.inr (Or.inr h')); omega) (q := H6.length) (by simp)
  have l6 : (H6 ++ [cy]).length = H6.length + 1 := by simp
  have C7c := e5.blk ((Fr.app (R := []) (t := [cy])).blk (f6.blk C4c no_nil) no_nil) C.pu
  have C7s := goodServerS.keep (goodServerS.grow (t := [cy]) (goodServerS.keep C4s f6 (fun _ _ => no_nil))) e5 C.su
  have hRD4 := goodStringSS.mem a2
  have kD : ∀ i ∈ RD', i ∈ RD ∨ q ≤ i := fun i hi => by
    rcases a4 i hi with h | h | h
    · exact Or.inl h
    · exact Or.inr (hb i h)
    · exact Or.inr (by omega)
  have kU : ∀ i ∈ RU', i ∈ RU ∨ H4.length ≤ i := fun i hi => by
    rcases e4 i hi with h | h | h
    · exact Or.inl h
    · exact Or.inr (b6 i h)
    · exact Or.inr (by omega)
  have dU : ∀ i ∈ RD', i ∉ RU := fun i hi h' => by
    rcases kD i hi with h | h
    · exact C.du i h h'
    · have := hq i (Or.inr (Or.inr h')); omega
  have C7d := goodStringSS.keep (goodStringSS.grow (t := [cy]) (goodStringSS.keep a2 f6 (fun _ _ => no_nil))) e5 dU
  have s8 := kstore_at (o := 1) (tot := 3) C7c rfl (by omega) a6.1 a6.2
  have hl7 := (List.getElem?_eq_some_iff.1 C7c).1
  obtain ⟨H8, hH8⟩ : ∃ H8, H7.set p ([vS, vD, vU].set 1 v') = H8 := ⟨_, rfl⟩
  have f8 : Fr [p] H7 H8 := by rw [← hH8]; exact .set (by simp)
  have c8 : H8[p]? = some [vS, v', vU] := by rw [← hH8, List.getElem?_set_self hl7]; rfl
  rw [hH8] at s8
  have s9 := kstore_at (o := 2) (tot := 3) c8 rfl (by omega) e6.1 e6.2
  have hl8 := (List.getElem?_eq_some_iff.1 c8).1
  obtain ⟨H9, hH9⟩ : ∃ H9, H8.set p ([vS, v', vU].set 2 w') = H9 := ⟨_, rfl⟩
  have f9 : Fr [p] H8 H9 := by rw [← hH9]; exact .set (by simp)
  have c9 : H9[p]? = some [vS, v', w'] := by rw [← hH9, List.getElem?_set_self hl8]; rfl
  rw [hH9] at s9
  have f79 : Fr [p] H7 H9 := f8.trans f9
  have pD : p ∉ RD' := fun h => (kD p h).elim C.pd (fun h2 => by omega)
  have pU : p ∉ RU' := fun h => (kU p h).elim C.pu (fun h2 => by omega)
  have np : ∀ (R : List Nat), p ∉ R → ∀ i ∈ R, i ∉ [p] := fun R hR i hi h => by rw [List.mem_singleton] at h; exact hR (h ▸ hi)
  refine ⟨w', H7, H8, H9, RD', RU', e1, s8, s9, ⟨c9, goodServerS.keep C7s f79 (np RS C.ps), goodStringSS.keep C7d f79 (np RD' pD), goodInt64SS.keep e2 f79 (np RU' pU), C.ns, a3, e3, fun i hi h => ?_, fun i hi h => ?_, fun i hi h => ?_, C.ls, fun i hi => ?_, fun i hi => ?_, C.ps, pD, pU⟩, fun i hi hip hD hU => ?_⟩
  · rcases kD i h with h2 | h2
    · exact C.sd i hi h2
    · have := hq i (Or.inl hi); omega
  · rcases kU i h with h2 | h2
    · exact C.su i hi h2
    · have := hq i (Or.inl hi); omega
  · rcases kU i h with h2 | h2
    · exact dU i hi h2
    · have := hRD4 i hi; omega
  · rcases kD i hi with h | h
    · exact C.ld i h
    · omega
  · rcases kU i hi with h | h
    · exact C.lu i h
    · omega
  · have q1 := a5.2 i (by omega) hD
    have q2 := f6.2 i (by omega) no_nil
    have q3 := e5.2 i (by omega) hU
    have q4 := f79.2 i (by have := e5.1; omega) (by simpa using hip)
    rw [q4, q3, List.getElem?_append_left (by omega), q2, q1, List.getElem?_append_left hi]
/-- One more server. -/
def extendM (a : ChainT) : ChainT × Bool :=
  if a.1.length = 5 then (a, false) else ((a.1 ++ [a.1[a.1.length - 1]?.getD ([], 0)], a.2.1 ++ [[]], a.2.2 ++ [[]]), true)
theorem extendM_false {a : ChainT} (h : (extendM a).2 = false) : (extendM a).1 = a := by
  unfold extendM at h ⊢
  split
  · rfl
  · rename_i h1
    rw [if_neg h1] at h
    cases h
theorem extendM_ok (a : ChainT) (hm : okChain a) (hz : zChain a ≤ 1048576) : okChain (onM a (extendM a)).1 := by
  refine onM_ok fun hP => ?_
  obtain ⟨h0, e0, e1, e2, e3⟩ := server0 hP
  have h5 := hP.1.2
  have hd := hP.2.1
  have hu := hP.2.2.1
  unfold extendM
  split
  · exact hm
  · have hl : a.1.length - 1 < a.1.length := by omega
    refine ⟨⟨by simp; omega, fun x hx => ?_⟩, ⟨by simp; omega, fun x hx => ?_⟩, ⟨by simp; omega, fun x hx => ?_⟩⟩
    · rcases List.mem_append.1 hx with h | h
      · exact hm.1.2 x h
      · rw [List.mem_singleton, get_of hl] at h
        rw [h]
        exact hm.1.2 _ (List.getElem_mem hl)
    · rcases List.mem_append.1 hx with h | h
      · exact hm.2.1.2 x h
      · rw [List.mem_singleton] at h; rw [h]; exact ⟨by simp, fun x h => (by cases h)⟩
    · rcases List.mem_append.1 hx with h | h
      · exact hm.2.2.2 x h
      · rw [List.mem_singleton] at h; rw [h]; show ([] : List Int).length ≤ 1048576; simp
theorem kia_n {es b n j : Nat} (hj : j < n) : kia es (.sl b 0 n n es) (.int .i64 (j : Int)) = some (.ptr b (j * es) (n * es)) := kia_at hj rfl rfl
theorem impl_Extend_1_op (a : ChainT) (hP : ChainP a.1 a.2.1 a.2.2) (hm : okChain a) : OpR fn.impl_Extend_1 [] a (extendM a) := by
  intro p lo H vS vD vU RS RD RU C hlo
  have h1 := hP.1.1
  have h5 := hP.1.2
  have hpl := (List.getElem?_eq_some_iff.1 C.cell).1
  have q0 := kload1_at (o := 0) (tot := 3) C.cell rfl
  have klS : klen vS = some (.int .i64 a.1.length) := C.s.len
  by_cases c1 : a.1.length = 5
  · have hres : extendM a = (a, false) := by unfold extendM; rw [if_pos c1]
    have c1' : (a.1.length : Int) = 5 := by omega
    rw [hres]
    refine ⟨H, vS, vD, vU, RS, RD, RU, S.impl_Extend_1.gives (k := 0) ?_, C, fun _ _ _ _ _ _ => rfl⟩
    simp [S.impl_Extend_1.run, q0, klS, c1', -kload1_ptr]
  have c1' : ¬ ((a.1.length : Int) = 5) := by omega
  obtain ⟨j, hl⟩ : ∃ j, a.1.length = j + 1 := ⟨a.1.length - 1, by omega⟩
  have hj : j < a.1.length := by omega
  have hj1 : (a.1.length : Int) - 1 = (j : Int) := by omega
  have hres : extendM a = ((a.1 ++ [a.1[j]], a.2.1 ++ [[]], a.2.2 ++ [[]]), true) := by
    unfold extendM
    rw [if_neg c1, show a.1.length - 1 = j by omega, get_of hj]; rfl
  obtain ⟨b, vL, hv, hbR, l0, l1, ⟨rL, hL⟩, lA⟩ := C.server hj
  have l3 := kloadA_at (n := 3) C.cell rfl
  obtain ⟨hr, nd⟩ := C.fin
  have lst : kN NN fn.impl_Chain_last [.agg [vS, vD, vU]] H = some (.int .i64 (j : Int)) := by
    have := kN_at (bors_agg goodChain (gs := []) (xs := []) (by omega) hr rfl) (impl_Chain_last_spec a hm.1.1)
    rwa [hj1] at this
  have ki := kia_n (es := 2) (b := b) hj
  have vcL := cell_of hL
  -- the last server in a variable
  obtain ⟨H1, hH1⟩ : ∃ H1, H ++ [[vL, .int .i64 a.1[j].2]] = H1 := ⟨_, rfl⟩
  have f1 : Fr [] H H1 := by rw [← hH1]; exact .app
  have n1 : H1.length = H.length + 1 := by rw [← hH1]; simp
  have X1 : H1[H.length]? = some [vL, .int .i64 a.1[j].2] := by rw [← hH1]; simp
  have st : kstore 2 (H ++ [[.nils, .int .i64 0]]) (.ptr H.length 0 2) (.agg [vL, .int .i64 a.1[j].2]) = some H1 := by
    rw [var_at (n := 2) (z := [.nils, .int .i64 0]) (c := [vL, .int .i64 a.1[j].2]) rfl rfl (by simp [vcL.2]), hH1]
  obtain ⟨v, H2, RL, t2, r2, n2, b2, f2⟩ := clone_rel2 (by have := (hm.1.2 _ (List.getElem_mem hj)).1; omega) (goodStringS.keep hL f1 (fun _ _ => no_nil))
  have vc := cell_of r2
  have hl2 := f2.1
  have e2 : rServer H2 [v, .int .i64 a.1[j].2] a.1[j] RL := ⟨[v], [.int .i64 a.1[j].2], RL, [], rfl, by simp, r2, ⟨rfl, rfl⟩⟩
  have bd := C.bd
  obtain ⟨vS', H4, H5, RS', a1, a2, C5, f5, k5⟩ := ((C.grow f1).grow f2).pushS e2 n2 b2 (fun i hi => by have := bd i hi; omega) (by omega) (by omega) hl2 (by omega)
  have hl5 := f5.1
  have hq5 := C5.bd
  have hpl5 := (List.getElem?_eq_some_iff.1 C5.cell).1
  -- ways down and up
  obtain ⟨vD', H6, d1, d2, d3, d4, dd⟩ := C5.pushDU (q := H5.length) (cx := [.nils]) (x := []) (Rx := []) rStringS_nils List.nodup_nil (fun i hi => (by cases hi)) hq5 (by omega) hpl5 (Nat.le_refl _) (by show a.2.1.length ≤ _; have := hP.2.1; omega) (by show a.2.2.length ≤ _; have := hP.2.2.1; omega)
  obtain ⟨vU', H7, H8, H9, RD', RU', u1, u2, u3, C9, k9⟩ := dd H6 [.nils] [] [] .refl (Or.inl ⟨rfl, rfl, Or.inr rfl⟩) List.nodup_nil (fun i hi => (by cases hi))
  rw [hres]
  refine ⟨H9, vS', vD', vU', RS', RD', RU', S.impl_Extend_1.gives (k := 0) ?_, C9, fun i hi hp hS hD hU => ?_⟩
  · have q1 := kload1_at (o := 0) (tot := 3) (f1.blk C.cell no_nil) rfl
    have q2 := kload1_at (o := 0) (tot := 2) X1 rfl
    have q3 := kload1_at (o := 1) (tot := 2) (f2.blk X1 no_nil) rfl
    have q5 := kload1_at (o := 1) (tot := 3) C5.cell rfl
    have q6 := kload1_at (o := 2) (tot := 3) d3 rfl
    have pk : p ∉ kblk vD := fun h => C5.pd (d4 p h)
    have z1 : ¬ (H.length + 1 ≤ H.length) := by omega
    have z2 : ¬ (H5.length ≤ p) := by omega
    have z3 : ¬ (H5.length + 1 ≤ p) := by omega
    have z4 : ¬ (H6.length ≤ H5.length) := by omega
    have z5 : ¬ (H5.length = p) := by omega
    have hk3 : (kblk vD).any (fun i => decide (H6.length ≤ i) && decide (i < H6.length + 1)) = false := by
      rw [List.any_eq_false]
      intro i hi h2
      rw [Bool.and_eq_true, decide_eq_true_eq, decide_eq_true_eq] at h2
      have := hq5 i (Or.inr (Or.inl (d4 i hi)))
      omega
    simp only [hv] at q0 q1 q5 q6 klS l3 lst a1
    simp [S.impl_Extend_1.run, q0, klS, c1', l3, lst, ki, lA, st, q1, q2, t2, q3, gfill, zeros, vc.1, kbs_at, a1, a2, q5, d1, q6, u1, u2, u3, -kload1_ptr, -kstore_ptr, -kloadA_ptr, -kN_eq, -kF_OO]
    simp [chk, meets, touches, n1, z1, z2, z3, z4, z5, any_no (n := H6.length) pk, any_no2, hk3, pk, -List.any_eq_true, -List.any_eq_false]
  · rw [k9 i (by omega) hp hD hU, f5.2 i (by omega) (fun h => by rcases List.mem_cons.1 h with h | h; exact hp h; exact hS h), f2.2 i (by omega) no_nil, f1.2 i hi no_nil]
theorem spec_l17Extend_op (a : ChainT) (hP : ChainP a.1 a.2.1 a.2.2) (hm : okChain a) : OpR fn.spec_l17Extend [] a (extendM a) := by
  intro p lo H vS vD vU RS RD RU C hlo
  have h1 := hP.1.1
  have h5 := hP.1.2
  have hpl := (List.getElem?_eq_some_iff.1 C.cell).1
  have q0 := kload1_at (o := 0) (tot := 3) C.cell rfl
  have klS : klen vS = some (.int .i64 a.1.length) := C.s.len
  by_cases c1 : a.1.length = 5
  · have hres : extendM a = (a, false) := by unfold extendM; rw [if_pos c1]
    have c1' : (a.1.length : Int) = 5 := by omega
    rw [hres]
    refine ⟨H, vS, vD, vU, RS, RD, RU, S.spec_l17Extend.gives (k := 0) ?_, C, fun _ _ _ _ _ _ => rfl⟩
    simp [S.spec_l17Extend.run, q0, klS, c1', -kload1_ptr]
  have c1' : ¬ ((a.1.length : Int) = 5) := by omega
  obtain ⟨j, hl⟩ : ∃ j, a.1.length = j + 1 := ⟨a.1.length - 1, by omega⟩
  have hj : j < a.1.length := by omega
  have hj1 : (a.1.length : Int) - 1 = (j : Int) := by omega
  have hres : extendM a = ((a.1 ++ [a.1[j]], a.2.1 ++ [[]], a.2.2 ++ [[]]), true) := by
    unfold extendM
    rw [if_neg c1, show a.1.length - 1 = j by omega, get_of hj]; rfl
  obtain ⟨b, vL, hv, hbR, l0, l1, ⟨rL, hL⟩, lA⟩ := C.server hj
  have w1 : IntKind.i64.wrap (j : Int) = (j : Int) := by rw [wrap_id] <;> omega
  have ki := kia_n (es := 2) (b := b) hj
  have vcL := cell_of hL
  -- the last server in a variable
  obtain ⟨H1, hH1⟩ : ∃ H1, H ++ [[vL, .int .i64 a.1[j].2]] = H1 := ⟨_, rfl⟩
  have f1 : Fr [] H H1 := by rw [← hH1]; exact .app
  have n1 : H1.length = H.length + 1 := by rw [← hH1]; simp
  have X1 : H1[H.length]? = some [vL, .int .i64 a.1[j].2] := by rw [← hH1]; simp
  have st : kstore 2 (H ++ [[.nils, .int .i64 0]]) (.ptr H.length 0 2) (.agg [vL, .int .i64 a.1[j].2]) = some H1 := by
    rw [var_at (n := 2) (z := [.nils, .int .i64 0]) (c := [vL, .int .i64 a.1[j].2]) rfl rfl (by simp [vcL.2]), hH1]
  obtain ⟨v, H2, RL, t2, r2, n2, b2, f2⟩ := texts_rel2 (by have := (hm.1.2 _ (List.getElem_mem hj)).1; omega) (goodStringS.keep hL f1 (fun _ _ => no_nil))
  have vc := cell_of r2
  have hl2 := f2.1
  have e2 : rServer H2 [v, .int .i64 a.1[j].2] a.1[j] RL := ⟨[v], [.int .i64 a.1[j].2], RL, [], rfl, by simp, r2, ⟨rfl, rfl⟩⟩
  have bd := C.bd
  obtain ⟨vS', H4, H5, RS', a1, a2, C5, f5, k5⟩ := ((C.grow f1).grow f2).pushS e2 n2 b2 (fun i hi => by have := bd i hi; omega) (by omega) (by omega) hl2 (by omega)
  have hl5 := f5.1
  have hq5 := C5.bd
  have hpl5 := (List.getElem?_eq_some_iff.1 C5.cell).1
  -- ways down and up
  obtain ⟨vD', H6, H7, RD', d1, d2, C7, f7, k7⟩ := C5.pushD (q := H5.length) (cx := [.emp]) (x := []) (Rx := []) rStringS_emp List.nodup_nil (fun i hi => (by cases hi)) hq5 (by omega) hpl5 (Nat.le_refl _) (by show a.2.1.length ≤ _; have := hP.2.1; omega)
  have hl7 := f7.1
  have hpl7 := (List.getElem?_eq_some_iff.1 C7.cell).1
  obtain ⟨vU', H8, H9, RU', u1, u2, C9, f9, k9⟩ := C7.pushU (q := H7.length) (cx := [.emp]) (x := []) (Rx := []) (Or.inl ⟨rfl, rfl, Or.inl rfl⟩) List.nodup_nil (fun i hi => (by cases hi)) C7.bd (by omega) hpl7 (Nat.le_refl _) (by show a.2.2.length ≤ _; have := hP.2.2.1; omega)
  rw [hres]
  refine ⟨H9, vS', vD', vU', RS', RD', RU', S.spec_l17Extend.gives (k := 0) ?_, C9, fun i hi hp hS hD hU => ?_⟩
  · have q1 := kload1_at (o := 0) (tot := 3) (f1.blk C.cell no_nil) rfl
    have q2 := kload1_at (o := 0) (tot := 2) X1 rfl
    have q3 := kload1_at (o := 1) (tot := 2) (f2.blk X1 no_nil) rfl
    have q5 := kload1_at (o := 1) (tot := 3) C5.cell rfl
    have q6 := kload1_at (o := 2) (tot := 3) C7.cell rfl
    have z1 : ¬ (H.length + 1 ≤ H.length) := by omega
    simp only [hv] at q0 q1 q5 q6 klS a1
    simp [S.spec_l17Extend.run, q0, klS, c1', hj1, w1, ki, lA, st, q1, q2, t2, q3, gfill, zeros, vc.1, kbs_at, a1, a2, q5, d1, d2, q6, u1, u2, -kload1_ptr, -kstore_ptr, -kloadA_ptr, -kN_eq, -kF_OO]
    simp [chk, meets, touches, n1, z1, any_no2, -List.any_eq_true, -List.any_eq_false]
  · rw [f9.2 i (by omega) (fun h => by rcases List.mem_cons.1 h with h | h; exact hp h; exact hU h), f7.2 i (by omega) (fun h => by rcases List.mem_cons.1 h with h | h; exact hp h; exact hD h), f5.2 i (by omega) (fun h => by rcases List.mem_cons.1 h with h | h; exact hp h; exact hS h), f2.2 i (by omega) no_nil, f1.2 i hi no_nil]
end Go.Proofs.Ytopmnigfklgnkaa.G
