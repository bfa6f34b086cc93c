/- A text comes to a chain. -/
import Derived.Test.YtopmnigfklgnkaaTChg
import Derived.Test.YtopmnigfklgnkaaSOSubmit
namespace Go.Proofs.Ytopmnigfklgnkaa.G
open Go.RowKit
set_option linter.unusedVariables false
set_option linter.unusedSimpArgs false

/-- A text comes. -/
def submitM (a : ChainT) (text : ByteArray) : ChainT × Bool :=
  if (a.1[0]?.getD ([], 0)).1.length = 60 ∨ 200 < text.size then (a, false)
  else if a.1.length = 1 then ((a.1.set 0 ((a.1[0]?.getD ([], 0)).1 ++ [text], (a.1[0]?.getD ([], 0)).2 + 1), a.2), true)
  else ((a.1.set 0 ((a.1[0]?.getD ([], 0)).1 ++ [text], (a.1[0]?.getD ([], 0)).2), a.2.1.set 0 (a.2.1[0]?.getD [] ++ [text]), a.2.2), true)
theorem submitM_false {a : ChainT} {text : ByteArray} (h : (submitM a text).2 = false) : (submitM a text).1 = a := by
  unfold submitM at h ⊢
  split
  · rfl
  · rename_i h1
    rw [if_neg h1] at h
    split at h <;> cases h
theorem spec_l17Submit_op (a : ChainT) (hP : ChainP a.1 a.2.1 a.2.2) (hm : okChain a) (text : ByteArray) : OpR fn.spec_l17Submit [.str text] a (submitM a text) := by
  intro p lo H vS vD vU RS RD RU C hlo
  obtain ⟨h0, e0, e1, e2, e3⟩ := server0 hP
  have hpl := (List.getElem?_eq_some_iff.1 C.cell).1
  have hds := hP.2.1
  obtain ⟨b, vL, v', H4, H5, RS', hv, hbR, l0, lk, a1, a2, C5, f5, k5⟩ := C.logApp h0 text (q := H.length) C.bd hlo hpl (Nat.le_refl _) (by omega)
  rw [Nat.zero_mul] at l0 a2
  have q0 := kload1_at (o := 0) (tot := 3) C.cell rfl
  have q1 := kload1_at (o := 1) (tot := 3) C.cell rfl
  have ki := kia_0 (es := 2) (b := b) h0
  have hset : ∀ z, (a.1.set 0 z).length = a.1.length := fun z => List.length_set
  by_cases c1 : a.1[0].1.length = 60
  · have hres : submitM a text = (a, false) := by unfold submitM; rw [if_pos (Or.inl (by rw [e0]; exact c1))]
    have c1' : (a.1[0].1.length : Int) = 60 := by omega
    rw [hres]
    refine ⟨H, vS, vD, vU, RS, RD, RU, S.spec_l17Submit.gives (k := 0) ?_, C, fun _ _ _ _ _ _ => rfl⟩
    simp [S.spec_l17Submit.run, q0, hv, ki, l0, lk, c1', -kload1_ptr]
  have c1' : ¬ ((a.1[0].1.length : Int) = 60) := by omega
  by_cases c2 : 200 < text.size
  · have hres : submitM a text = (a, false) := by unfold submitM; rw [if_pos (Or.inr c2)]
    have c2' : (200 : Int) < text.size := by omega
    rw [hres]
    refine ⟨H, vS, vD, vU, RS, RD, RU, S.spec_l17Submit.gives (k := 0) ?_, C, fun _ _ _ _ _ _ => rfl⟩
    simp [S.spec_l17Submit.run, q0, hv, ki, l0, lk, c1', c2', -kload1_ptr]
  have c2' : ¬ ((200 : Int) < text.size) := by omega
  have hno : ¬ ((a.1[0]?.getD ([], 0)).1.length = 60 ∨ 200 < text.size) := by rw [e0]; exact fun h => h.elim c1 c2
  have hl5 := f5.1
  have q5 := kload1_at (o := 0) (tot := 3) C5.cell rfl
  have kl5 : klen vS = some (.int .i64 a.1.length) := C.s.len
  by_cases c3 : a.1.length = 1
  · have c3' : (a.1.length : Int) = 1 := by omega
    have hres : submitM a text = ((a.1.set 0 (a.1[0].1 ++ [text], a.1[0].2 + 1), a.2), true) := by unfold submitM; rw [if_neg hno, if_pos c3, e0]
    obtain ⟨b2, H6, RS6, hv2, _, l6, s6, C6, f6, k6, _⟩ := C5.sureSet (i := 0) (by simpa using h0) (a.1[0].2 + 1) (q := H5.length) C5.bd (by omega) (by omega)
    simp only [List.length_set, List.getElem_set_self, List.set_set, Nat.zero_mul, Nat.zero_add] at hv2 l6 s6 C6
    have eb : b2 = b := by rw [hv] at hv2; injection hv2 with h; exact h.symm
    subst eb
    have w : IntKind.i64.wrap (a.1[0].2 + 1) = a.1[0].2 + 1 := by rw [wrap_id] <;> omega
    rw [hres]
    refine ⟨H6, vS, vD, vU, RS6, RD, RU, S.spec_l17Submit.gives (k := 0) ?_, C6, fun i hi hp hS hD hU => ?_⟩
    · simp only [hv] at q0 q5 kl5
      simp [S.spec_l17Submit.run, q0, ki, l0, lk, c1', c2', gfill, zeros, kbs_at, a1, a2, q5, kl5, c3', l6, s6, w, -kload1_ptr, -kstore_ptr]
    · rw [f6.2 i (by omega) (fun h => (k5 i h).elim hS (fun h2 => by omega)), f5.2 i hi hS]
  · have c3' : ¬ ((a.1.length : Int) = 1) := by omega
    have hd0 : 0 < a.2.1.length := by omega
    have hres : submitM a text = ((a.1.set 0 (a.1[0].1 ++ [text], a.1[0].2), a.2.1.set 0 (a.2.1[0] ++ [text]), a.2.2), true) := by unfold submitM; rw [if_neg hno, if_neg c3, e0, get_of hd0]; rfl
    obtain ⟨bD, vX, w', H6, H7, RD', hvD, hbD, lD, lkD, a6, s7, C7, f7, k7, n6, kb⟩ := C5.downApp (i := 0) hd0 text (q := H5.length) C5.bd (by omega) (by omega) (Nat.le_refl _) (by show a.2.1[0].length ≤ 4194304; have := (hm.2.1.2 _ (List.getElem_mem hd0)).1; omega)
    have qD := kload1_at (o := 1) (tot := 3) C5.cell rfl
    have kiD := kia_0 (es := 1) (b := bD) hd0
    rw [Nat.mul_one] at kiD
    have pk : p ∉ kblk vX := fun h => C5.pd (kb p h).1
    have z1 : ¬ (H5.length = p) := by omega
    have z2 : ¬ (H5.length ≤ p) := by omega
    have z3 : ¬ (H5.length + 1 ≤ p) := by omega
    rw [hres]
    refine ⟨H7, vS, vD, vU, _, _, _, S.spec_l17Submit.gives (k := 0) ?_, C7, fun i hi hp hS hD hU => ?_⟩
    · simp only [hv] at q0 q5 kl5 qD
      simp only [hvD] at q0 q5 qD
      simp [S.spec_l17Submit.run, q0, ki, l0, lk, c1', c2', gfill, zeros, kbs_at, a1, a2, q5, kl5, c3', qD, kiD, lD, a6, s7, -kload1_ptr, -kstore_ptr]
      simp [chk, meets, touches, z1, z2, z3, any_no (n := H5.length) pk, any_no2 (l := kblk vX) (n := H5.length), pk, -List.any_eq_true, -List.any_eq_false]
    · rw [f7.2 i (by omega) hD, f5.2 i hi hS]
theorem impl_Submit_1_op (a : ChainT) (hP : ChainP a.1 a.2.1 a.2.2) (hm : okChain a) (text : ByteArray) : OpR fn.impl_Submit_1 [.fp true [.str text]] a (submitM a text) := by
  intro p lo H vS vD vU RS RD RU C hlo
  obtain ⟨h0, e0, e1, e2, e3⟩ := server0 hP
  have hpl := (List.getElem?_eq_some_iff.1 C.cell).1
  have hds := hP.2.1
  obtain ⟨b, vL, v', H4, H5, RS', hv, hbR, l0, lk, a1, a2, C5, f5, k5⟩ := C.logApp h0 text (q := H.length) C.bd hlo hpl (Nat.le_refl _) (by omega)
  rw [Nat.zero_mul] at l0 a2
  have q0 := kload1_at (o := 0) (tot := 3) C.cell rfl
  have q1 := kload1_at (o := 1) (tot := 3) C.cell rfl
  have ki := kia_0 (es := 2) (b := b) h0
  have et : ∀ H, kload1 H (.fp true [.str text]) = some (.str text) := fun H => rfl
  have hset : ∀ z, (a.1.set 0 z).length = a.1.length := fun z => List.length_set
  by_cases c1 : a.1[0].1.length = 60
  · have hres : submitM a text = (a, false) := by unfold submitM; rw [if_pos (Or.inl (by rw [e0]; exact c1))]
    have c1' : (a.1[0].1.length : Int) = 60 := by omega
    rw [hres]
    refine ⟨H, vS, vD, vU, RS, RD, RU, S.impl_Submit_1.gives (k := 0) ?_, C, fun _ _ _ _ _ _ => rfl⟩
    simp [S.impl_Submit_1.run, q0, hv, ki, et, l0, lk, c1', -kload1_ptr]
  have c1' : ¬ ((a.1[0].1.length : Int) = 60) := by omega
  by_cases c2 : 200 < text.size
  · have hres : submitM a text = (a, false) := by unfold submitM; rw [if_pos (Or.inr c2)]
    have c2' : (200 : Int) < text.size := by omega
    rw [hres]
    refine ⟨H, vS, vD, vU, RS, RD, RU, S.impl_Submit_1.gives (k := 0) ?_, C, fun _ _ _ _ _ _ => rfl⟩
    simp [S.impl_Submit_1.run, q0, hv, ki, et, l0, lk, c1', c2', -kload1_ptr]
  have c2' : ¬ ((200 : Int) < text.size) := by omega
  have hno : ¬ ((a.1[0]?.getD ([], 0)).1.length = 60 ∨ 200 < text.size) := by rw [e0]; exact fun h => h.elim c1 c2
  have hl5 := f5.1
  have q5 := kload1_at (o := 0) (tot := 3) C5.cell rfl
  have kl5 : klen vS = some (.int .i64 a.1.length) := C.s.len
  have hl3 := kloadA_at (n := 3) C5.cell rfl
  have lst0 : kN NN fn.impl_Chain_last [.agg [vS, vD, vU]] H5 = some (.int .i64 ((a.1.length : Int) - 1)) := by
    obtain ⟨hr, nd⟩ := C5.fin
    have := kN_at (bors_agg goodChain (gs := []) (xs := []) (by omega) hr rfl) (impl_Chain_last_spec _ (by show (a.1.set 0 _).length ≤ _; rw [hset]; exact hm.1.1))
    rwa [hset] at this
  by_cases c3 : a.1.length = 1
  · have c3' : (a.1.length : Int) - 1 = 0 := by omega
    have hres : submitM a text = ((a.1.set 0 (a.1[0].1 ++ [text], a.1[0].2 + 1), a.2), true) := by unfold submitM; rw [if_neg hno, if_pos c3, e0]
    obtain ⟨b2, H6, RS6, hv2, _, l6, s6, C6, f6, k6, _⟩ := C5.sureSet (i := 0) (by simpa using h0) (a.1[0].2 + 1) (q := H5.length) C5.bd (by omega) (by omega)
    simp only [List.length_set, List.getElem_set_self, List.set_set, Nat.zero_mul, Nat.zero_add] at hv2 l6 s6 C6
    have eb : b2 = b := by rw [hv] at hv2; injection hv2 with h; exact h.symm
    subst eb
    have w : IntKind.i64.wrap (a.1[0].2 + 1) = a.1[0].2 + 1 := by rw [wrap_id] <;> omega
    rw [hres]
    refine ⟨H6, vS, vD, vU, RS6, RD, RU, S.impl_Submit_1.gives (k := 0) ?_, C6, fun i hi hp hS hD hU => ?_⟩
    · simp only [hv] at q0 q5 kl5 hl3 lst0
      have lst := lst0
      simp [S.impl_Submit_1.run, q0, ki, et, lst, l0, lk, c1', c2', gfill, zeros, kbs_at, a1, a2, q5, kl5, c3', l6, s6, w, hl3, -kload1_ptr, -kstore_ptr, -kloadA_ptr, -kN_eq]
    · rw [f6.2 i (by omega) (fun h => (k5 i h).elim hS (fun h2 => by omega)), f5.2 i hi hS]
  · have c3' : ¬ ((a.1.length : Int) - 1 = 0) := by omega
    have hd0 : 0 < a.2.1.length := by omega
    have hres : submitM a text = ((a.1.set 0 (a.1[0].1 ++ [text], a.1[0].2), a.2.1.set 0 (a.2.1[0] ++ [text]), a.2.2), true) := by unfold submitM; rw [if_neg hno, if_neg c3, e0, get_of hd0]; rfl
    obtain ⟨bD, vX, w', H6, H7, RD', hvD, hbD, lD, lkD, a6, s7, C7, f7, k7, n6, kb⟩ := C5.downApp (i := 0) hd0 text (q := H5.length) C5.bd (by omega) (by omega) (Nat.le_refl _) (by show a.2.1[0].length ≤ 4194304; have := (hm.2.1.2 _ (List.getElem_mem hd0)).1; omega)
    have qD := kload1_at (o := 1) (tot := 3) C5.cell rfl
    have kiD := kia_0 (es := 1) (b := bD) hd0
    rw [Nat.mul_one] at kiD
    have pk : p ∉ kblk vX := fun h => C5.pd (kb p h).1
    have z1 : ¬ (H5.length = p) := by omega
    have z2 : ¬ (H5.length ≤ p) := by omega
    have z3 : ¬ (H5.length + 1 ≤ p) := by omega
    rw [hres]
    refine ⟨H7, vS, vD, vU, _, _, _, S.impl_Submit_1.gives (k := 0) ?_, C7, fun i hi hp hS hD hU => ?_⟩
    · simp only [hv] at q0 q5 kl5 qD hl3 lst0
      simp only [hvD] at q0 q5 qD hl3 lst0
      have lst := lst0
      simp [S.impl_Submit_1.run, q0, ki, et, lst, l0, lk, c1', c2', gfill, zeros, kbs_at, a1, a2, q5, kl5, c3', qD, kiD, lD, a6, s7, hl3, -kload1_ptr, -kstore_ptr, -kloadA_ptr, -kN_eq]
      simp [chk, meets, touches, z1, z2, z3, any_no (n := H5.length) pk, any_no2 (l := kblk vX) (n := H5.length), pk, -List.any_eq_true, -List.any_eq_false]
    · rw [f7.2 i (by omega) hD, f5.2 i hi hS]
theorem submitM_ok (a : ChainT) (hm : okChain a) (hz : zChain a ≤ 1048576) (text : ByteArray) : okChain (onM a (submitM a text)).1 := by
  refine onM_ok fun hP => ?_
  obtain ⟨h0, e0, e1, e2, e3⟩ := server0 hP
  unfold submitM
  split
  · exact hm
  · rename_i hc
    have ht : text.size ≤ 200 := by
      rcases Nat.lt_or_ge 200 text.size with h | h
      · exact absurd (Or.inr h) hc
      · exact h
    have hlog : okStringS ((a.1[0]?.getD ([], 0)).1 ++ [text]) := by
      rw [e0]
      have hl := (hm.1.2 _ (List.getElem_mem h0))
      refine ok_log (by rw [List.length_append]; simp; omega) fun x hx => ?_
      rcases List.mem_append.1 hx with h | h
      · exact hl.2 x h
      · rw [List.mem_singleton] at h; rw [h]; omega
    have hS : ∀ z, okServerS (a.1.set 0 ((a.1[0]?.getD ([], 0)).1 ++ [text], z)) := fun z => ⟨by rw [List.length_set]; exact hm.1.1, fun x hx => by
      rcases mem_set_or hx with h | h
      · exact hm.1.2 x h
      · rw [h]; exact hlog⟩
    split
    · exact ⟨hS _, hm.2⟩
    · rename_i hn
      have hd0 : 0 < a.2.1.length := by have := hP.2.1; omega
      refine ⟨hS _, ⟨by rw [List.length_set]; exact hm.2.1.1, fun x hx => ?_⟩, hm.2.2⟩
      rcases mem_set_or hx with h | h
      · exact hm.2.1.2 x h
      · rw [h, get_of hd0]
        have hl := (hm.2.1.2 _ (List.getElem_mem hd0))
        have := down_short hP hd0
        refine ok_log (by rw [List.length_append]; simp; omega) fun y hy => ?_
        rcases List.mem_append.1 hy with h | h
        · exact hl.2 y h
        · rw [List.mem_singleton] at h; rw [h]; omega
end Go.Proofs.Ytopmnigfklgnkaa.G
