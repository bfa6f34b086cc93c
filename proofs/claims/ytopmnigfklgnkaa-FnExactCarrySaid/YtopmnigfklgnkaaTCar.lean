/- A text goes down a chain. -/
import Derived.Test.YtopmnigfklgnkaaTNar2
import Derived.Test.YtopmnigfklgnkaaSOCarry
namespace Go.Proofs.Ytopmnigfklgnkaa.G
open Go.RowKit
set_option linter.unusedVariables false
set_option linter.unusedSimpArgs false

/-- A text goes down. -/
def carryM (a : ChainT) (i : Int) : ChainT × Bool :=
  if 0 ≤ i ∧ i < a.2.1.length ∧ 0 < (a.2.1[i.toNat]?.getD []).length then
    (if i.toNat + 1 < a.2.1.length then
      (a.1.set (i.toNat + 1) ((a.1[i.toNat + 1]?.getD ([], 0)).1 ++ [(a.2.1[i.toNat]?.getD [])[0]?.getD default], (a.1[i.toNat + 1]?.getD ([], 0)).2),
        (a.2.1.set (i.toNat + 1) (a.2.1[i.toNat + 1]?.getD [] ++ [(a.2.1[i.toNat]?.getD [])[0]?.getD default])).set i.toNat ((a.2.1[i.toNat]?.getD []).drop 1), a.2.2)
    else
      (a.1.set (i.toNat + 1) ((a.1[i.toNat + 1]?.getD ([], 0)).1 ++ [(a.2.1[i.toNat]?.getD [])[0]?.getD default], (a.1[i.toNat + 1]?.getD ([], 0)).2 + 1),
        a.2.1.set i.toNat ((a.2.1[i.toNat]?.getD []).drop 1), a.2.2.set i.toNat (a.2.2[i.toNat]?.getD [] ++ [(a.1[i.toNat + 1]?.getD ([], 0)).2 + 1])), true)
  else (a, false)
theorem carryM_false {a : ChainT} {i : Int} (h : (carryM a i).2 = false) : (carryM a i).1 = a := by
  unfold carryM at h ⊢
  split
  · rename_i h1
    rw [if_pos h1] at h
    cases h
  · rfl
theorem carryM_eq (a : ChainT) (j : Nat) (hj : j < a.2.1.length) (hx : j + 1 < a.1.length) (c2 : 0 < a.2.1[j].length) : carryM a (j : Int) =
    (if j + 1 < a.2.1.length then (a.1.set (j + 1) (a.1[j + 1].1 ++ [a.2.1[j][0]], a.1[j + 1].2), (a.2.1.set (j + 1) (a.2.1[j + 1]?.getD [] ++ [a.2.1[j][0]])).set j (a.2.1[j].drop 1), a.2.2)
    else (a.1.set (j + 1) (a.1[j + 1].1 ++ [a.2.1[j][0]], a.1[j + 1].2 + 1), a.2.1.set j (a.2.1[j].drop 1), a.2.2.set j (a.2.2[j]?.getD [] ++ [a.1[j + 1].2 + 1])), true) := by
  unfold carryM
  have hu0 : a.2.1[j][0]? = some a.2.1[j][0] := get_of c2
  rw [if_pos ⟨by omega, by omega, by rw [Int.toNat_natCast, get_of hj]; exact c2⟩, Int.toNat_natCast, get_of hj, get_of hx]
  simp only [Option.getD_some, hu0]
theorem carryM_ok (a : ChainT) (hm : okChain a) (hz : zChain a ≤ 1048576) (i : Int) : okChain (onM a (carryM a i)).1 := by
  refine onM_ok fun hP => ?_
  have hu : zInt64SS a.2.2 ≤ 1048576 := by unfold zChain at hz; omega
  have hd := hP.2.1
  have hn := hP.2.2.1
  by_cases hc : 0 ≤ i ∧ i < a.2.1.length ∧ 0 < (a.2.1[i.toNat]?.getD []).length
  case neg =>
    have : carryM a i = (a, false) := by unfold carryM; rw [if_neg hc]
    rw [this]; exact hm
  obtain ⟨j, rfl⟩ : ∃ j : Nat, i = j := ⟨i.toNat, by omega⟩
  rw [Int.toNat_natCast] at hc
  have hj : j < a.2.1.length := by omega
  have hx : j + 1 < a.1.length := by omega
  have hju : j < a.2.2.length := by omega
  have c2 : 0 < a.2.1[j].length := by have := hc.2.2; rwa [get_of hj] at this
  rw [carryM_eq a j hj hx c2]
  have hdj := hm.2.1.2 _ (List.getElem_mem hj)
  have htx : a.2.1[j][0].size ≤ 1048576 := hdj.2 _ (List.getElem_mem c2)
  have hlg := hm.1.2 _ (List.getElem_mem hx)
  have h60 := (hP.2.2.2.1 _ (List.getElem_mem hx)).1
  have happ : ∀ l : List ByteArray, okStringS l → l.length ≤ 60 → okStringS (l ++ [a.2.1[j][0]]) := fun l h1 h2 => ok_log (by rw [List.length_append]; simp; omega) fun y hy => by
    rcases List.mem_append.1 hy with h | h
    · exact h1.2 y h
    · rw [List.mem_singleton] at h; rw [h]; exact htx
  have hcut : okStringS (a.2.1[j].drop 1) := ⟨by rw [List.length_drop]; have := hdj.1; omega, fun y hy => hdj.2 y (List.mem_of_mem_drop hy)⟩
  have hS : ∀ z, okServerS (a.1.set (j + 1) (a.1[j + 1].1 ++ [a.2.1[j][0]], z)) := fun z => ⟨by rw [List.length_set]; exact hm.1.1, fun x h => by
    rcases mem_set_or h with h | h
    · exact hm.1.2 x h
    · rw [h]; exact happ _ hlg h60⟩
  split
  · rename_i h2
    refine ⟨hS _, ⟨by rw [List.length_set, List.length_set]; exact hm.2.1.1, fun x h => ?_⟩, hm.2.2⟩
    rcases mem_set_or h with h | h
    · rcases mem_set_or h with h | h
      · exact hm.2.1.2 x h
      · rw [h, get_of h2]
        exact happ _ (hm.2.1.2 _ (List.getElem_mem h2)) (down_short hP h2)
    · rw [h]; exact hcut
  · refine ⟨hS _, ⟨by rw [List.length_set]; exact hm.2.1.1, fun x h => ?_⟩, ⟨by rw [List.length_set]; exact hm.2.2.1, fun x h => ?_⟩⟩
    · rcases mem_set_or h with h | h
      · exact hm.2.1.2 x h
      · rw [h]; exact hcut
    · rcases mem_set_or h with h | h
      · exact hm.2.2.2 x h
      · rw [h, get_of hju]
        have := up_short hju hu
        show (a.2.2[j] ++ _).length ≤ 1048576
        rw [List.length_append]
        simp; omega
theorem tell_0 {p : Nat} {H : Heap} : HH fn.impl_Chain_tell [.ptr p 0 3, .int .i64 0] H = some (.tup [], H) := by
  apply S.impl_Chain_tell.gives (k := 0)
  simp [S.impl_Chain_tell.run]
theorem tell_raw {p n m bS bU j : Nat} {H H4 H5 : Heap} {vD vL v' : GV} {z : Int} (hp : H[p]? = some [.sl bS 0 n n 2, vD, .sl bU 0 m m 1]) (hj : j + 1 < n) (hjm : j < m) (hn : n ≤ 1048576) (lL : kload1 H (.ptr bU j m) = some vL) (lz : kload1 H (.ptr bS ((j + 1) * 2 + 1) (n * 2)) = some (.int .i64 z))
    (ka : kapp [.int .i64 0] 1 8 vL (.sl H.length 0 1 1 1) (H ++ [[.int .i64 z]]) = some (v', H4)) (ks : kstore 1 H4 (.ptr bU j m) v' = some H5) (pk : p ∉ kblk vL) : HH fn.impl_Chain_tell [.ptr p 0 3, .int .i64 ((j + 1 : Nat) : Int)] H = some (.tup [], H5) := by
  apply S.impl_Chain_tell.gives (k := 0)
  have hpl := (List.getElem?_eq_some_iff.1 hp).1
  have q0 := kload1_at (o := 0) (tot := 3) hp rfl
  have q2 := kload1_at (o := 2) (tot := 3) hp rfl
  have w : kbin .sub (.int .i64 ((j + 1 : Nat) : Int)) (.int .i64 1) = some (.int .i64 (j : Int)) := by
    rw [kbin_sub, show ((j + 1 : Nat) : Int) - 1 = (j : Int) by omega, wrap_id (by omega) (by omega)]
  have g : kbin .gtr (.int .i64 ((j + 1 : Nat) : Int)) (.int .i64 0) = some (.bool true) := by rw [kbin_gtr, decide_eq_true (by omega)]
  have k1 := kia_at (es := 1) (b := bU) (n := m) (j := j) (o := j) (tot := m) hjm (by omega) (by omega)
  have k2 := kia_at (es := 2) (b := bS) (n := n) (j := j + 1) (o := (j + 1) * 2) (tot := n * 2) hj rfl rfl
  have z1 : ¬ (H.length = p) := by omega
  have z2 : ¬ (H.length ≤ p) := by omega
  have z3 : ¬ (H.length + 1 ≤ p) := by omega
  simp [S.impl_Chain_tell.run, g, q0, q2, w, k1, k2, lL, lz, gfill, zeros, kbs_at, ka, ks, -kload1_ptr, -kstore_ptr, -kbin_sub, -kbin_gtr, -Int.natCast_add]
  simp [chk, meets, touches, z1, z2, z3, any_no (n := H.length) pk, any_no2, pk, -List.any_eq_true, -List.any_eq_false]
theorem text0 {bl : Nat} {l : List ByteArray} {H : Heap} (hbl : H[bl]? = some (l.flatMap cs)) (c2 : 0 < l.length) : kload1 H (.ptr bl 0 l.length) = some (.str l[0]) := by
  have fl : (l.flatMap cs).length = l.length := by have := len_flat (mk := cs) (es := 1) (fun _ => rfl) l; omega
  rw [kload1_at hbl fl]
  have : l.flatMap cs = l.map GV.str := by
    clear fl hbl c2
    induction l with
    | nil => rfl
    | cons y ys ih => rw [List.flatMap_cons, ih]; rfl
  rw [this, List.getElem?_map, get_of c2]; rfl
theorem spec_l17Carry_op (a : ChainT) (hP : ChainP a.1 a.2.1 a.2.2) (hm : okChain a) (i : Int) : OpR fn.spec_l17Carry [.int .i64 i] a (carryM a i) := by
  intro p lo H vS vD vU RS RD RU C hlo
  have h1 := hP.1.1
  have h5 := hP.1.2
  have hd := hP.2.1
  have hn := hP.2.2.1
  have hpl := (List.getElem?_eq_some_iff.1 C.cell).1
  have q1 := kload1_at (o := 1) (tot := 3) C.cell rfl
  have klD : klen vD = some (.int .i64 a.2.1.length) := C.d.len
  have w1 : kbin .sub (.int .i64 (a.2.1.length : Int)) (.int .i64 1) = some (.int .i64 ((a.2.1.length : Int) - 1)) := by rw [kbin_sub, wrap_id (by omega) (by omega)]
  by_cases c1 : 0 ≤ i ∧ i < (a.2.1.length : Int)
  case neg =>
    have hres : carryM a i = (a, false) := by unfold carryM; rw [if_neg (fun h => c1 ⟨h.1, by omega⟩)]
    have sp := spec_l1In_spec i 0 ((a.2.1.length : Int) - 1)
    rw [in_spec_no i _ c1] at sp
    rw [hres]
    refine ⟨H, vS, vD, vU, RS, RD, RU, S.spec_l17Carry.gives (k := 0) ?_, C, fun _ _ _ _ _ _ => rfl⟩
    simp [S.spec_l17Carry.run, q1, klD, w1, sp, -kload1_ptr, -kbin_sub]
  obtain ⟨j, rfl⟩ : ∃ j : Nat, i = j := ⟨i.toNat, by omega⟩
  have hj : j < a.2.1.length := by omega
  have hx : j + 1 < a.1.length := by omega
  have hju : j < a.2.2.length := by omega
  have sp := spec_l1In_spec (j : Int) 0 ((a.2.1.length : Int) - 1)
  rw [decide_eq_true (by omega)] at sp
  obtain ⟨b, css, c, R1, hv, hb, hcn, hc, fe, E1, hbr, hbR, hrR, nd0, _⟩ := RSl.focus2 goodStringS C.d C.nd hj
  obtain ⟨vL, rfl⟩ := List.length_eq_one_iff.1 (goodStringS.len E1)
  have hb0 : H[b]? = some (css.set j [vL]).flatten := by rw [set_get_self hc]; exact hb
  have l0 := ld_leaf (es := 1) (off := 0) (o := j) (tot := a.2.1.length) hb0 fe hcn hj rfl (by omega) (by omega) (by omega)
  have ki : kia 1 vD (.int .i64 (j : Int)) = some (.ptr b j a.2.1.length) := by rw [hv]; exact kia_at hj (by omega) (by omega)
  have klL : klen vL = some (.int .i64 a.2.1[j].length) := E1.len
  by_cases c2 : 0 < a.2.1[j].length
  case neg =>
    have hres : carryM a (j : Int) = (a, false) := by unfold carryM; rw [if_neg (fun h => c2 (by have := h.2.2; rw [Int.toNat_natCast, get_of hj] at this; exact this))]
    have c2' : a.2.1[j].length = 0 := by omega
    rw [hres]
    refine ⟨H, vS, vD, vU, RS, RD, RU, S.spec_l17Carry.gives (k := 0) ?_, C, fun _ _ _ _ _ _ => rfl⟩
    rw [c2'] at klL
    simp [S.spec_l17Carry.run, q1, klD, w1, sp, ki, l0, klL, -kload1_ptr, -kbin_sub]
  have c2' : ¬ ((a.2.1[j].length : Int) = 0) := by omega
  have c2n : ¬ (a.2.1[j] = []) := fun h => by rw [h] at c2; simp at c2
  obtain ⟨bl, hvL, hbl, hR1⟩ := rFl_some E1 c2
  have li := text0 hbl c2
  have ki0 : kia 1 vL (.int .i64 0) = some (.ptr bl 0 a.2.1[j].length) := by
    rw [hvL]
    have := kia_0 (es := 1) (b := bl) c2
    rwa [Nat.mul_one] at this
  obtain ⟨pre, hp1, hp2⟩ := cut_flat (mk := cs) (fun _ => rfl) c2
  have hbl' := hbl
  rw [hp2] at hbl'
  have hlj : a.2.1[j].length ≤ 1048576 := (hm.2.1.2 _ (List.getElem_mem hj)).1
  obtain ⟨vN, H1, RN, t1, r1, n1, b1, f1⟩ := textsO_rel hbl' hp1 (by rw [List.length_drop]; omega)
  rw [List.length_drop] at t1
  have ks1 := ksl_1 (bl := bl) c2
  have bd := C.bd
  have hl1 := f1.1
  have C1 := C.grow f1
  obtain ⟨b2, H2, RD2, hv2, hb2R, s2, C2, f2, k2⟩ := C1.downSet (i := j) hj r1 n1 b1 bd hlo hpl
  have eb : b2 = b := by rw [hv] at hv2; injection hv2 with h; exact h.symm
  subst eb
  have hl2 := f2.1
  have h60 := (hP.2.2.2.1 _ (List.getElem_mem hx))
  obtain ⟨bS, vG, vG', H3a, H3, RS3, hvS, hbSR, lG, kG, aG, sG, C3, f3, k3⟩ := C2.logApp (i := j + 1) hx a.2.1[j][0] (q := H2.length) C2.bd (by omega) (by omega) (Nat.le_refl _) (by show a.1[j + 1].1.length ≤ 4194304; have := h60.1; omega)
  have hl3 := f3.1
  have kiS : kia 2 vS (.int .i64 ((j + 1 : Nat) : Int)) = some (.ptr bS ((j + 1) * 2) (a.1.length * 2)) := by rw [hvS]; exact kia_at hx rfl rfl
  have ka := kadd1 (n := j) (by omega)
  have p0 := kload1_at (o := 0) (tot := 3) C2.cell rfl
  have p1 := kload1_at (o := 1) (tot := 3) C3.cell rfl
  have klD3 : klen vD = some (.int .i64 a.2.1.length) := klD
  rw [carryM_eq a j hj hx c2]
  by_cases c3 : j + 1 < a.2.1.length
  · have g3 : kbin .lss (.int .i64 ((j + 1 : Nat) : Int)) (.int .i64 (a.2.1.length : Int)) = some (.bool true) := by rw [klt, decide_eq_true c3]
    have hj3 : j + 1 < (a.2.1.set j (a.2.1[j].drop 1)).length := by rw [List.length_set]; exact c3
    have hget : (a.2.1.set j (a.2.1[j].drop 1))[j + 1] = a.2.1[j + 1] := List.getElem_set_ne (by omega) _
    obtain ⟨b4, vX, w', H4, H5, RD5, hv4, hb4R, l4, kl4, a4, s5, C5, f5, k5, n5, kb⟩ := C3.downApp (i := j + 1) hj3 a.2.1[j][0] (q := H3.length) C3.bd (by omega) (by omega) (Nat.le_refl _) (by show ((a.2.1.set j (a.2.1[j].drop 1))[j + 1]).length ≤ 4194304; rw [hget]; have := (hm.2.1.2 _ (List.getElem_mem c3)).1; omega)
    simp only [List.length_set, hget] at hv4 l4 s5 C5
    have eb : b4 = b2 := by rw [hv] at hv4; injection hv4 with h; exact h.symm
    subst eb
    have ki' : kia 1 vD (.int .i64 ((j + 1 : Nat) : Int)) = some (.ptr b4 (j + 1) a.2.1.length) := by rw [hv]; exact kia_at c3 (by omega) (by omega)
    have pk : p ∉ kblk vX := fun h => C3.pd (kb p h).1
    have y1 : ¬ (H3.length = p) := by omega
    have y2 : ¬ (H3.length ≤ p) := by omega
    have y3 : ¬ (H3.length + 1 ≤ p) := by omega
    rw [if_pos c3]
    have e5 : (a.2.1.set (j + 1) (a.2.1[j + 1]?.getD [] ++ [a.2.1[j][0]])).set j (a.2.1[j].drop 1) = (a.2.1.set j (a.2.1[j].drop 1)).set (j + 1) (a.2.1[j + 1] ++ [a.2.1[j][0]]) := by
      rw [get_of c3, List.set_comm _ _ (by omega)]; rfl
    rw [e5]
    refine ⟨H5, vS, vD, vU, RS3, RD5, RU, S.spec_l17Carry.gives (k := 0) ?_, C5, fun i hi hp hS hD hU => ?_⟩
    · subst hvL
      simp [S.spec_l17Carry.run, q1, klD, w1, sp, ki, l0, klL, c2', c2n, ki0, li, ks1, t1, s2, p0, ka, kiS, lG, gfill, zeros, kbs_at, aG, sG, p1, g3, ki', l4, a4, s5, -kload1_ptr, -kstore_ptr, -Int.natCast_add, -kbin_sub, -kbin_add, -kbin_lss, -kF_OO]
      simp [chk, meets, touches, y1, y2, y3, any_no (n := H3.length) pk, any_no2, pk, -List.any_eq_true, -List.any_eq_false]
    · rw [f5.2 i (by omega) (fun h => (k2 i h).elim hD (fun h2 => by omega)), f3.2 i (by omega) hS, f2.2 i (by omega) hD, f1.2 i hi no_nil]
  · have g3 : kbin .lss (.int .i64 ((j + 1 : Nat) : Int)) (.int .i64 (a.2.1.length : Int)) = some (.bool false) := by rw [klt, decide_eq_false c3]
    have hx3 : j + 1 < (a.1.set (j + 1) (a.1[j + 1].1 ++ [a.2.1[j][0]], a.1[j + 1].2)).length := by rw [List.length_set]; exact hx
    obtain ⟨bS4, H4, RS4, hvS4, _, l4, s4, C4, f4, k4, hl4⟩ := C3.sureSet (i := j + 1) hx3 (a.1[j + 1].2 + 1) (q := H3.length) C3.bd (by omega) (by omega)
    simp only [List.length_set, List.getElem_set_self, List.set_set] at hvS4 l4 s4 C4
    have eS : bS4 = bS := by rw [hvS] at hvS4; injection hvS4 with h; exact h.symm
    subst eS
    obtain ⟨b5, vX, w', H5, H6, RU6, hv5, hb5R, l5, kl5, a5, s6, C6, f6, k6, n6, kb⟩ := C4.upApp (i := j) hju (a.1[j + 1].2 + 1) (q := H4.length) C4.bd (by omega) (by omega) (Nat.le_refl _) (by show a.2.2[j].length ≤ 4194304; have := hm.2.2.2 _ (List.getElem_mem hju); unfold okInt64S at this; omega)
    simp only at hv5 l5 s6 C6
    obtain ⟨bS6, _, hvS6, _, _, lsv, _, _⟩ := C4.server (i := j + 1) (by simpa using hx)
    simp only [List.length_set, List.getElem_set_self] at hvS6 lsv
    have eS : bS6 = bS4 := by rw [hvS] at hvS6; injection hvS6 with h; exact h.symm
    subst eS
    have p2 := kload1_at (o := 2) (tot := 3) C4.cell rfl
    have kiU : kia 1 vU (.int .i64 (j : Int)) = some (.ptr b5 j a.2.2.length) := by rw [hv5]; exact kia_at hju (by omega) (by omega)
    have w4 : kbin .add (.int .i64 a.1[j + 1].2) (.int .i64 1) = some (.int .i64 (a.1[j + 1].2 + 1)) := by
      have := h60.2.1; have := h60.1
      rw [kbin_add, wrap_id (by omega) (by omega)]
    have pk : p ∉ kblk vX := fun h => C4.pu (kb p h).1
    have y1 : ¬ (H4.length = p) := by omega
    have y2 : ¬ (H4.length ≤ p) := by omega
    have y3 : ¬ (H4.length + 1 ≤ p) := by omega
    rw [if_neg c3, get_of hju]
    refine ⟨H6, vS, vD, vU, RS4, RD2, RU6, S.spec_l17Carry.gives (k := 0) ?_, C6, fun i hi hp hS hD hU => ?_⟩
    · subst hvL
      simp [S.spec_l17Carry.run, q1, klD, w1, sp, ki, l0, klL, c2', c2n, ki0, li, ks1, t1, s2, p0, ka, kiS, lG, gfill, zeros, kbs_at, aG, sG, p1, g3, l4, w4, s4, p2, kiU, l5, lsv, a5, s6, -kload1_ptr, -kstore_ptr, -Int.natCast_add, -kbin_sub, -kbin_add, -kbin_lss, -kF_OO]
      simp [chk, meets, touches, y1, y2, y3, any_no (n := H4.length) pk, any_no2, pk, -List.any_eq_true, -List.any_eq_false]
    · rw [f6.2 i (by omega) hU, f4.2 i (by omega) (fun h => (k3 i h).elim hS (fun h2 => by omega)), f3.2 i (by omega) hS, f2.2 i (by omega) hD, f1.2 i hi no_nil]
theorem kblk_rel {α : Type} {es : Nat} {E : Rel α} {h : Heap} {v : GV} {xs : List α} {R : List Nat} (he : RSl es E h [v] xs R) : ∀ k ∈ kblk v, k ∈ R := by
  rcases he with ⟨_, _, hc⟩ | ⟨b, css, Rs, hv, _, _, rfl⟩
  · rcases hc with hc | hc <;> (injection hc with hc; subst hc; intro k hk; cases hk)
  · injection hv with hv
    subst hv
    intro k hk
    rw [kblk_sl, List.mem_singleton] at hk
    rw [hk]; exact List.mem_cons_self ..
theorem ChainIn.logBlk {p lo : Nat} {a : ChainT} {H : Heap} {vS vD vU : GV} {RS RD RU : List Nat} (h : ChainIn p lo a H vS vD vU RS RD RU) {i : Nat} (hi : i < a.1.length) : ∃ b vL, vS = .sl b 0 a.1.length a.1.length 2 ∧ kload1 H (.ptr b (i * 2) (a.1.length * 2)) = some vL ∧ ∀ k ∈ kblk vL, k ∈ RS := by
  obtain ⟨b, css, c, r, hv, hb, hcn, hc, fe, hE, hbr, hbR, hrR, nd0, hup⟩ := RSl.focus2 goodServer h.s h.ns hi
  obtain ⟨c1, c2, R1, R2, rfl, rfl, E1, ⟨rfl, rfl⟩⟩ := hE
  obtain ⟨vL, rfl⟩ := List.length_eq_one_iff.1 (goodStringS.len E1)
  have hb0 : H[b]? = some (css.set i ([vL] ++ ci a.1[i].2)).flatten := by rw [set_get_self hc]; exact hb
  have l0 := ld_leaf (es := 2) (off := 0) (o := i * 2) (tot := a.1.length * 2) hb0 fe hcn hi rfl (by omega) (by omega) rfl
  exact ⟨b, vL, hv, l0, fun k hk => hrR k (List.mem_append_left _ (kblk_rel E1 k hk))⟩
theorem impl_Carry_1_op (a : ChainT) (hP : ChainP a.1 a.2.1 a.2.2) (hm : okChain a) (i : Int) : OpN fn.impl_Carry_1 [.fp true [.int .i64 i]] a (carryM a i) := by
  intro p lo H vS vD vU RS RD RU C hlo
  have h1 := hP.1.1
  have h5 := hP.1.2
  have hd := hP.2.1
  have hn := hP.2.2.1
  have hpl := (List.getElem?_eq_some_iff.1 C.cell).1
  have q0 := kload1_at (o := 0) (tot := 3) C.cell rfl
  have q1 := kload1_at (o := 1) (tot := 3) C.cell rfl
  have et : ∀ H, kload1 H (.fp true [.int .i64 i]) = some (.int .i64 i) := fun H => rfl
  obtain ⟨hr, nd⟩ := C.fin
  have l3 := kloadA_at (n := 3) C.cell rfl
  have lst : kN NN fn.impl_Chain_last [.agg [vS, vD, vU]] H = some (.int .i64 (a.2.1.length : Int)) := by
    have := kN_at (bors_agg goodChain (gs := []) (xs := []) (by omega) hr rfl) (impl_Chain_last_spec a hm.1.1)
    rwa [show (a.1.length : Int) - 1 = (a.2.1.length : Int) by omega] at this
  have w1 : kbin .sub (.int .i64 (a.2.1.length : Int)) (.int .i64 1) = some (.int .i64 ((a.2.1.length : Int) - 1)) := by rw [kbin_sub, wrap_id (by omega) (by omega)]
  have hloR : ∀ k ∈ RS ++ (RD ++ RU), lo ≤ k := fun k hk => by
    simp only [List.mem_append] at hk
    rcases hk with h | h | h
    · exact C.ls k h
    · exact C.ld k h
    · exact C.lu k h
  by_cases c1 : 0 ≤ i ∧ i < (a.2.1.length : Int)
  case neg =>
    have hres : carryM a i = (a, false) := by unfold carryM; rw [if_neg (fun h => c1 ⟨h.1, by omega⟩)]
    have sp := impl_in_spec i 0 ((a.2.1.length : Int) - 1)
    rw [in_spec_no i _ c1] at sp
    rw [hres]
    refine ⟨H, _, _, S.impl_Carry_1.gives (k := 0) ?_, C.cell, rChainO_of hr, nd, hloR, fun _ _ _ _ _ _ => rfl⟩
    simp [S.impl_Carry_1.run, et, l3, lst, w1, sp, -kload1_ptr, -kloadA_ptr, -kN_eq, -kbin_sub]
    simp [sp]
  obtain ⟨j, rfl⟩ : ∃ j : Nat, i = j := ⟨i.toNat, by omega⟩
  have hj : j < a.2.1.length := by omega
  have hx : j + 1 < a.1.length := by omega
  have hju : j < a.2.2.length := by omega
  have sp := impl_in_spec (j : Int) 0 ((a.2.1.length : Int) - 1)
  rw [decide_eq_true (by omega)] at sp
  obtain ⟨b, css, c, R1, hv, hb, hcn, hc, fe, E1, hbr, hbR, hrR, nd0, _⟩ := RSl.focus2 goodStringS C.d C.nd hj
  obtain ⟨vL, rfl⟩ := List.length_eq_one_iff.1 (goodStringS.len E1)
  have hb0 : H[b]? = some (css.set j [vL]).flatten := by rw [set_get_self hc]; exact hb
  have l0 := ld_leaf (es := 1) (off := 0) (o := j) (tot := a.2.1.length) hb0 fe hcn hj rfl (by omega) (by omega) (by omega)
  have ki : kia 1 vD (.int .i64 (j : Int)) = some (.ptr b j a.2.1.length) := by rw [hv]; exact kia_at hj (by omega) (by omega)
  have klL : klen vL = some (.int .i64 a.2.1[j].length) := E1.len
  by_cases c2 : 0 < a.2.1[j].length
  case neg =>
    have hres : carryM a (j : Int) = (a, false) := by unfold carryM; rw [if_neg (fun h => c2 (by have := h.2.2; rw [Int.toNat_natCast, get_of hj] at this; exact this))]
    have c2' : a.2.1[j].length = 0 := by omega
    rw [hres]
    refine ⟨H, _, _, S.impl_Carry_1.gives (k := 0) ?_, C.cell, rChainO_of hr, nd, hloR, fun _ _ _ _ _ _ => rfl⟩
    rw [c2'] at klL
    simp [S.impl_Carry_1.run, et, l3, lst, w1, sp, q1, ki, l0, klL, -kload1_ptr, -kloadA_ptr, -kN_eq, -kbin_sub]
    simp [sp]
  have c2' : ¬ ((a.2.1[j].length : Int) = 0) := by omega
  have c2n : ¬ (a.2.1[j] = []) := fun h => by rw [h] at c2; simp at c2
  -- the list is cut
  obtain ⟨b2, cells, bl2, hv2, hb2R, hcell, hclen, hcj, hbl2, hbl2R, hblb, hO⟩ := C.narrowD (i := j) hj c2
  have eb : b2 = b := by rw [hv] at hv2; injection hv2 with h; exact h.symm
  subst eb
  have l1 : kload1 H (.ptr b2 j a.2.1.length) = some (.sl bl2 0 a.2.1[j].length a.2.1[j].length 1) := by rw [kload1_at hcell hclen, hcj]
  have evL : vL = .sl bl2 0 a.2.1[j].length a.2.1[j].length 1 := by rw [l1] at l0; exact (Option.some.inj l0).symm
  have li := text0 hbl2 c2
  have ki0 : kia 1 vL (.int .i64 0) = some (.ptr bl2 0 a.2.1[j].length) := by
    rw [evL]
    have := kia_0 (es := 1) (b := bl2) c2
    rwa [Nat.mul_one] at this
  have ks2 : ksl 1 vL (some (.int .i64 1)) none none = some (.sl bl2 1 (a.2.1[j].length - 1) (a.2.1[j].length - 1) 1) := by rw [evL]; exact ksl_1 c2
  clear evL
  obtain ⟨nar, hnar⟩ : ∃ g, GV.sl bl2 1 (a.2.1[j].length - 1) (a.2.1[j].length - 1) 1 = g := ⟨_, rfl⟩
  have nc : nar.cells = [nar] ∧ nar.isCell = true := by rw [← hnar]; exact ⟨rfl, rfl⟩
  have s1 := kstore_at (o := j) (tot := a.2.1.length) (x := nar) hcell hclen hj nc.1 nc.2
  rw [hnar] at hO ks2
  obtain ⟨c', hc'⟩ : ∃ c', cells.set j nar = c' := ⟨_, rfl⟩
  rw [hc'] at s1 hO
  have hclen' : c'.length = a.2.1.length := by rw [← hc', List.length_set]; exact hclen
  have hlb := (List.getElem?_eq_some_iff.1 hcell).1
  have p2 : p ≠ b2 := fun e => C.pd (e ▸ hbR)
  have bd := C.bd
  -- the log
  have h60 := (hP.2.2.2.1 _ (List.getElem_mem hx))
  obtain ⟨bS, vG, vG', H3a, H3, RS3, hvS, hbSR, lG, kG, aG, sG, C3, f3, k3⟩ := C.logApp (i := j + 1) hx a.2.1[j][0] (q := H.length) bd hlo hpl (Nat.le_refl _) (by have := h60.1; omega)
  have hl3 := f3.1
  have hbS2 : bS ≠ b2 := fun e => C.sd bS hbSR (e ▸ hbR)
  have kGR : ∀ k ∈ kblk vG, k ∈ RS := by
    obtain ⟨bS', vG2, hvS', lG2, hk⟩ := C.logBlk hx
    have : bS' = bS := by rw [hvS] at hvS'; injection hvS' with h; exact h.symm
    rw [this, lG] at lG2
    rw [Option.some.inj lG2]; exact hk
  have ap : ∀ (H : Heap) (x : List GV), b2 < H.length → (H.set b2 c') ++ [x] = (H ++ [x]).set b2 c' := fun H x h => (List.set_append_left _ _ h).symm
  have apl : ∀ (H : Heap) (x : List GV), b2 < H.length → b2 < (H ++ [x]).length := fun H x h => by rw [List.length_append]; omega
  have lG' : kload1 (H.set b2 c') (.ptr bS ((j + 1) * 2) (a.1.length * 2)) = some vG := by rw [kload1_set hbS2]; exact lG
  have aG' : kapp [.str { data := #[] }] 1 16 vG (.sl (H.set b2 c').length 0 1 1 1) (H.set b2 c' ++ [[.str a.2.1[j][0]]]) = some (vG', H3a.set b2 c') := by
    rw [List.length_set, ap _ _ hlb]
    exact kapp_set aG (by omega) (fun h => C.sd b2 (kGR b2 h) hbR) (apl _ _ hlb)
  have sG' := kstore_set (c := c') sG hbS2
  have hl3b : b2 < H3.length := by omega
  have hcell3 : H3[b2]? = some cells := f3.blk hcell (fun h => C.sd b2 h hbR)
  have kiS : kia 2 vS (.int .i64 ((j + 1 : Nat) : Int)) = some (.ptr bS ((j + 1) * 2) (a.1.length * 2)) := by rw [hvS]; exact kia_at hx rfl rfl
  have ka := kadd1 (n := j) (by omega)
  -- the chain as it is then
  have nar_of : ∀ (a' : ChainT) (H' : Heap) (RS' RD' RU' : List Nat), ChainIn p lo a' H' vS vD vU RS' RD' RU' → (e1 : a'.2.1.length = a.2.1.length) → (hj' : j < a'.2.1.length) → (e2 : a'.2.1[j] = a.2.1[j]) → ∀ cells', H'[b2]? = some cells' → cells'[j]? = cells[j]? → rChainO (H'.set b2 (cells'.set j nar)) [vS, vD, vU] (a'.1, a'.2.1.set j (a.2.1[j].drop 1), a'.2.2) (RS' ++ (RD' ++ RU')) := by
    intro a' H' RS' RD' RU' C' e1 hj' e2 cells' hcl hce
    obtain ⟨b6, cells6, bl6, hv6, _, hcell6, _, hcj6, _, _, _, hO6⟩ := C'.narrowD (i := j) hj' (by rw [e2]; exact c2)
    have eb : b6 = b2 := by rw [hv] at hv6; injection hv6 with h; exact h.symm
    rw [eb] at hcell6 hO6
    have ec : cells6 = cells' := by rw [hcl] at hcell6; exact (Option.some.inj hcell6).symm
    rw [ec] at hcj6 hO6
    rw [hce, hcj, e2] at hcj6
    have eg : bl6 = bl2 := by
      injection hcj6 with h
      injection h with h
      exact h.symm
    rw [eg, e2, hnar] at hO6
    exact hO6
  have hO3 := nar_of _ H3 _ _ _ C3 rfl hj rfl cells hcell3 rfl
  rw [hc'] at hO3
  have cell3 : (H3.set b2 c')[p]? = some [vS, vD, vU] := by rw [List.getElem?_set_ne (Ne.symm p2)]; exact C3.cell
  have l3' := kloadA_at (n := 3) cell3 rfl
  have lst3 : kN NN fn.impl_Chain_last [.agg [vS, vD, vU]] (H3.set b2 c') = some (.int .i64 (a.2.1.length : Int)) := by
    have := kN_at (bors_agg goodChainO (gs := []) (xs := []) (by omega) hO3 rfl) (impl_Chain_last_spec _ (by show (a.1.set (j + 1) _).length ≤ _; rw [List.length_set]; exact hm.1.1))
    rwa [List.length_set, show (a.1.length : Int) - 1 = (a.2.1.length : Int) by omega] at this
  rw [carryM_eq a j hj hx c2]
  by_cases c3 : j + 1 < a.2.1.length
  · have g3 : kbin .lss (.int .i64 ((j + 1 : Nat) : Int)) (.int .i64 (a.2.1.length : Int)) = some (.bool true) := by rw [klt, decide_eq_true c3]
    obtain ⟨b4, vX, w', H4, H5, RD5, hv4, hb4R, l4, kl4, a4, s5, C5, f5, k5, n5, kb⟩ := C3.downApp (i := j + 1) c3 a.2.1[j][0] (q := H3.length) C3.bd (by omega) (by omega) (Nat.le_refl _) (by show (a.2.1[j + 1]).length ≤ 4194304; have := (hm.2.1.2 _ (List.getElem_mem c3)).1; omega)
    simp only at hv4 l4 s5 C5
    have eb : b4 = b2 := by rw [hv] at hv4; injection hv4 with h; exact h.symm
    subst eb
    have kbb : b4 ∉ kblk vX := fun h => (kb b4 h).2 rfl
    have pk : p ∉ kblk vX := fun h => C3.pd (kb p h).1
    have ks0 := kapp_set (c := cells) a4 (by omega) kbb (apl _ _ hl3b)
    rw [set_same (by rw [List.getElem?_append_left hl3b]; exact hcell3), a4] at ks0
    injection ks0 with ks0
    injection ks0 with _ ks0
    have hlb4 : b4 < H4.length := by omega
    have hcell4 : H4[b4]? = some cells := by rw [ks0, List.getElem?_set_self hlb4]
    have a4' : kapp [.str { data := #[] }] 1 16 vX (.sl (H3.set b4 c').length 0 1 1 1) (H3.set b4 c' ++ [[.str a.2.1[j][0]]]) = some (w', H4.set b4 c') := by
      rw [List.length_set, ap _ _ hl3b]
      exact kapp_set a4 (by omega) kbb (apl _ _ hl3b)
    have wc : w'.cells = [w'] ∧ w'.isCell = true := by
      by_cases hw : w'.cells.length = 1 ∧ w'.cells.all GV.isCell = true
      · obtain ⟨hw1, hw2⟩ := hw
        have := kapp_cell a4
        cases w' with
        | agg cs => exact this.elim
        | tup cs => exact this.elim
        | _ => exact ⟨rfl, by first | rfl | (rw [List.all_eq_true] at hw2; exact hw2 _ (List.mem_singleton.2 rfl))⟩
      · rw [kstore_ptr, if_neg hw] at s5; cases s5
    have e5 := kstore_inj (cells := cells) hcell4 c3 wc.1 wc.2 hclen s5
    have c4c : (H4.set b4 c')[b4]? = some c' := by rw [List.getElem?_set_self hlb4]
    have s5' := kstore_at (o := j + 1) (tot := a.2.1.length) (x := w') c4c hclen' c3 wc.1 wc.2
    rw [List.set_set] at s5'
    have hcell5 : H5[b4]? = some (cells.set (j + 1) w') := by rw [e5, List.getElem?_set_self hlb4]
    have hO6 := nar_of _ H5 _ _ _ C5 (by rw [List.length_set]) (by rw [List.length_set]; exact hj) (List.getElem_set_ne (by omega) _) _ hcell5 (List.getElem?_set_ne (by omega))
    rw [e5, List.set_set, List.set_comm _ _ (by omega), hc'] at hO6
    obtain ⟨H6, hH6⟩ : ∃ H6, H4.set b4 (c'.set (j + 1) w') = H6 := ⟨_, rfl⟩
    rw [hH6] at hO6 s5'
    have lL2 : kload1 (H3.set b4 c') (.ptr b4 (j + 1) a.2.1.length) = some vX := by
      rw [kload1_at (List.getElem?_set_self hl3b) hclen', ← hc', List.getElem?_set_ne (by omega)]
      rw [kload1_at hcell3 hclen] at l4
      exact l4
    have q5 := kload1_at (o := 1) (tot := 3) cell3 rfl
    have ki' : kia 1 vD (.int .i64 ((j + 1 : Nat) : Int)) = some (.ptr b4 (j + 1) a.2.1.length) := by rw [hv]; exact kia_at c3 (by omega) (by omega)
    obtain ⟨_, nd5⟩ := C5.fin
    have y1 : ¬ (H3.length = p) := by omega
    have y2 : ¬ (H3.length ≤ p) := by omega
    have y3 : ¬ (H3.length + 1 ≤ p) := by omega
    have kbf : ∀ t cs, kblk (.fp t cs) = [] := fun _ _ => rfl
    rw [if_pos c3, get_of c3]
    refine ⟨H6, _, _, S.impl_Carry_1.gives (k := 0) ?_, ?_, hO6, nd5, fun k hk => ?_, fun i hi hp hS hD hU => ?_⟩
    · simp [S.impl_Carry_1.run, et, l3, lst, w1, sp, q0, q1, ki, l0, klL, c2', c2n, ki0, li, ka, kiS, ks2, s1, lG', gfill, zeros, kbs_at, aG', sG', l3', lst3, g3, q5, ki', lL2, a4', s5', -kload1_ptr, -kloadA_ptr, -kN_eq, -kbin_sub, -kbin_add, -kbin_lss, -kstore_ptr, -Int.natCast_add, -List.length_set]
      simp [sp, chk, meets, touches, y1, y2, y3, any_no (n := H3.length) pk, any_no2, pk, kbf, -List.any_eq_true, -List.any_eq_false]
    · rw [← hH6, List.getElem?_set_ne (Ne.symm p2)]
      have := C5.cell
      rw [e5, List.getElem?_set_ne (Ne.symm p2)] at this
      exact this
    · simp only [List.mem_append] at hk
      rcases hk with h | h | h
      · exact C5.ls k h
      · exact C5.ld k h
      · exact C5.lu k h
    · have hb6i : b4 ≠ i := fun e => hD (e ▸ hbR)
      rw [← hH6, List.getElem?_set_ne hb6i]
      have h7 := f5.2 i (by omega) hD
      rw [e5, List.getElem?_set_ne hb6i] at h7
      rw [h7, f3.2 i hi hS]
  · have g3 : kbin .lss (.int .i64 ((j + 1 : Nat) : Int)) (.int .i64 (a.2.1.length : Int)) = some (.bool false) := by rw [klt, decide_eq_false c3]
    have hx3 : j + 1 < (a.1.set (j + 1) (a.1[j + 1].1 ++ [a.2.1[j][0]], a.1[j + 1].2)).length := by rw [List.length_set]; exact hx
    obtain ⟨bS4, H4, RS4, hvS4, _, l4, s4, C4, f4, k4, hl4⟩ := C3.sureSet (i := j + 1) hx3 (a.1[j + 1].2 + 1) (q := H3.length) C3.bd (by omega) (by omega)
    simp only [List.length_set, List.getElem_set_self, List.set_set] at hvS4 l4 s4 C4
    have eS : bS4 = bS := by rw [hvS] at hvS4; injection hvS4 with h; exact h.symm
    subst eS
    have l4' : kload1 (H3.set b2 c') (.ptr bS4 ((j + 1) * 2 + 1) (a.1.length * 2)) = some (.int .i64 a.1[j + 1].2) := by rw [kload1_set hbS2]; exact l4
    have s4' := kstore_set (c := c') s4 hbS2
    obtain ⟨b5, vX, w', H5, H6, RU6, hv5, hb5R, l5, kl5, a5, s6, C6, f6, k6, n6, kb⟩ := C4.upApp (i := j) hju (a.1[j + 1].2 + 1) (q := H4.length) C4.bd (by omega) (by omega) (Nat.le_refl _) (by show a.2.2[j].length ≤ 4194304; have := hm.2.2.2 _ (List.getElem_mem hju); unfold okInt64S at this; omega)
    simp only at hv5 l5 s6 C6
    obtain ⟨bS6, _, hvS6, _, _, lsv, _, _⟩ := C4.server (i := j + 1) (by simpa using hx)
    simp only [List.length_set, List.getElem_set_self] at hvS6 lsv
    have eS : bS6 = bS4 := by rw [hvS] at hvS6; injection hvS6 with h; exact h.symm
    subst eS
    have b52 : b5 ≠ b2 := fun e => C.du b2 hbR (e ▸ hb5R)
    have kbb : b2 ∉ kblk vX := fun h => C.du b2 hbR (kb b2 h).1
    have hl4b : b2 < H4.length := by omega
    have l5' : kload1 (H4.set b2 c') (.ptr b5 j a.2.2.length) = some vX := by rw [kload1_set b52]; exact l5
    have lsv' : kload1 (H4.set b2 c') (.ptr bS6 ((j + 1) * 2 + 1) (a.1.length * 2)) = some (.int .i64 (a.1[j + 1].2 + 1)) := by rw [kload1_set hbS2]; exact lsv
    have a5' : kapp [.int .i64 0] 1 8 vX (.sl (H4.set b2 c').length 0 1 1 1) (H4.set b2 c' ++ [[.int .i64 (a.1[j + 1].2 + 1)]]) = some (w', H5.set b2 c') := by
      rw [List.length_set, ap _ _ hl4b]
      exact kapp_set a5 (by omega) kbb (apl _ _ hl4b)
    have s6' := kstore_set (c := c') s6 b52
    have pk : p ∉ kblk vX := fun h => C4.pu (kb p h).1
    have cell4 : (H4.set b2 c')[p]? = some [.sl bS6 0 a.1.length a.1.length 2, vD, .sl b5 0 a.2.2.length a.2.2.length 1] := by rw [List.getElem?_set_ne (Ne.symm p2), C4.cell, hvS, hv5]
    have tl := tell_raw cell4 hx hju hm.1.1 l5' lsv' a5' s6' pk
    have w4 : kbin .add (.int .i64 a.1[j + 1].2) (.int .i64 1) = some (.int .i64 (a.1[j + 1].2 + 1)) := by
      have := h60.2.1; have := h60.1
      rw [kbin_add, wrap_id (by omega) (by omega)]
    have hcell4 : H4[b2]? = some cells := f4.blk hcell3 (fun h => C3.sd b2 h hbR)
    have hcell6 : H6[b2]? = some cells := f6.blk hcell4 (fun h => C.du b2 hbR h)
    have hO6 := nar_of _ H6 _ _ _ C6 rfl hj rfl cells hcell6 rfl
    rw [hc'] at hO6
    obtain ⟨_, nd6⟩ := C6.fin
    rw [if_neg c3, get_of hju]
    refine ⟨H6.set b2 c', _, _, S.impl_Carry_1.gives (k := 0) ?_, ?_, hO6, nd6, fun k hk => ?_, fun i hi hp hS hD hU => ?_⟩
    · simp [S.impl_Carry_1.run, et, l3, lst, w1, sp, q0, q1, ki, l0, klL, c2', c2n, ki0, li, ka, kiS, ks2, s1, lG', gfill, zeros, kbs_at, aG', sG', l3', lst3, g3, l4', w4, s4', tl, -kload1_ptr, -kloadA_ptr, -kN_eq, -kbin_sub, -kbin_add, -kbin_lss, -kstore_ptr, -Int.natCast_add, -List.length_set]
      simp [sp]
    · rw [List.getElem?_set_ne (Ne.symm p2)]; exact C6.cell
    · simp only [List.mem_append] at hk
      rcases hk with h | h | h
      · exact C6.ls k h
      · exact C6.ld k h
      · exact C6.lu k h
    · have hb6i : b2 ≠ i := fun e => hD (e ▸ hbR)
      rw [List.getElem?_set_ne hb6i, f6.2 i (by omega) hU, f4.2 i (by omega) (fun h => (k3 i h).elim hS (fun h2 => by omega)), f3.2 i hi hS]
end Go.Proofs.Ytopmnigfklgnkaa.G
