/- An answer goes up a chain. -/
import Derived.Test.YtopmnigfklgnkaaTNar
import Derived.Test.YtopmnigfklgnkaaSOReply
namespace Go.Proofs.Ytopmnigfklgnkaa.G
open Go.RowKit
set_option linter.unusedVariables false
set_option linter.unusedSimpArgs false

/-! What does not touch a block does the same when that block is another. -/
theorem kload1_set {H : Heap} {b bU o t : Nat} {c : List GV} (h : b ≠ bU) : kload1 (H.set bU c) (.ptr b o t) = kload1 H (.ptr b o t) := by
  rw [kload1_ptr, kload1_ptr, cellsAt_if, cellsAt_if, List.getElem?_set_ne (Ne.symm h)]
theorem kapp_set {z : List GV} {es b q bU : Nat} {v v' : GV} {H H' : Heap} {c : List GV} (h : kapp z es b v (.sl q 0 1 1 es) H = some (v', H')) (hq : q ≠ bU) (hv : bU ∉ kblk v) (hb : bU < H.length) : kapp z es b v (.sl q 0 1 1 es) (H.set bU c) = some (v', H'.set bU c) := by
  have hg : gcells (H.set bU c) es (.sl q 0 1 1 es) = gcells H es (.sl q 0 1 1 es) := by
    unfold gcells
    simp only [cellsAt_if, List.getElem?_set_ne (Ne.symm hq)]
  unfold kapp at h ⊢
  rw [hg]
  obtain ⟨⟨n, new, l⟩, h1, h2⟩ := Option.bind_eq_some_iff.1 h
  rw [h1]
  simp only [Option.bind_some] at h2 ⊢
  by_cases hc : new.all GV.isCell = true ∧ z.length = es ∧ n ≤ maxLen ∧ n * b ≤ roomMax
  case neg => rw [if_neg hc] at h2; cases h2
  rw [if_pos hc] at h2 ⊢
  cases v with
  | nils =>
    simp only at h2 ⊢
    by_cases h0 : n = 0
    · rw [if_pos h0] at h2 ⊢; cases h2; rfl
    · rw [if_neg h0] at h2 ⊢; cases h2; rw [List.length_set, List.set_append_left _ _ hb]
  | emp =>
    simp only at h2 ⊢
    by_cases h0 : n = 0
    · rw [if_pos h0] at h2 ⊢; cases h2; rfl
    · rw [if_neg h0] at h2 ⊢; cases h2; rw [List.length_set, List.set_append_left _ _ hb]
  | sl i off len cap es' =>
    have hi : i ≠ bU := fun e => hv (by rw [e]; simp)
    simp only at h2 ⊢
    obtain ⟨cs, h3, h4⟩ := Option.bind_eq_some_iff.1 h2
    have h3' : cellsAt (H.set bU c) i (off + cap * es') = some cs := by
      rw [cellsAt_if, List.getElem?_set_ne (Ne.symm hi), ← cellsAt_if]; exact h3
    rw [h3']
    simp only [Option.bind_some]
    by_cases k1 : es' = es ∧ len ≤ cap ∧ (len + n) * b ≤ roomMax ∧ len + n ≤ maxLen
    case neg => rw [if_neg k1] at h4; cases h4
    rw [if_pos k1] at h4 ⊢
    by_cases k2 : len + n ≤ cap
    · rw [if_pos k2] at h4 ⊢; cases h4; rw [List.set_comm _ _ (Ne.symm hi)]
    · rw [if_neg k2] at h4 ⊢
      by_cases k3 : off = 0 ∧ 0 < es
      · rw [if_pos k3] at h4 ⊢; cases h4; rw [List.set_comm _ _ (Ne.symm hi)]
      · rw [if_neg k3] at h4; cases h4
  | _ => cases h2
theorem All3_fl {α : Type} {mk : α → List GV} {h : Heap} {css : List (List GV)} {xs : List α} {Rs : List (List Nat)} (ha : All3 (RFl mk h) css xs Rs) : css.flatten = xs.flatMap mk ∧ Rs.flatten = [] := by
  induction ha with
  | nil => exact ⟨rfl, rfl⟩
  | cons a _ ih =>
    obtain ⟨rfl, rfl⟩ := a
    exact ⟨by rw [List.flatten_cons, ih.1]; rfl, by rw [List.flatten_cons, ih.2]; rfl⟩
theorem rFl_some {α : Type} {mk : α → List GV} {h : Heap} {v : GV} {xs : List α} {R : List Nat} (he : RSl 1 (RFl mk) h [v] xs R) (hne : 0 < xs.length) : ∃ b, v = .sl b 0 xs.length xs.length 1 ∧ h[b]? = some (xs.flatMap mk) ∧ R = [b] := by
  rcases he with ⟨rfl, _, _⟩ | ⟨b, css, Rs, hv, hb, ha, rfl⟩
  · cases hne
  · injection hv with hv
    obtain ⟨e1, e2⟩ := All3_fl ha
    exact ⟨b, hv, by rw [hb, e1], by rw [e2]⟩
theorem cut_flat {α : Type} {mk : α → List GV} (hl : ∀ x, (mk x).length = 1) {xs : List α} (hne : 0 < xs.length) : ∃ pre, pre.length = 1 ∧ xs.flatMap mk = pre ++ (xs.drop 1).flatMap mk := by
  cases xs with
  | nil => cases hne
  | cons x xs => exact ⟨mk x, hl x, rfl⟩
theorem ChainIn.narrowU {p lo : Nat} {a : ChainT} {H : Heap} {vS vD vU : GV} {RS RD RU : List Nat} (C : ChainIn p lo a H vS vD vU RS RD RU) {i : Nat} (hi : i < a.2.2.length) (hne : 0 < a.2.2[i].length) :
    ∃ b cells bl, vU = .sl b 0 a.2.2.length a.2.2.length 1 ∧ b ∈ RU ∧ H[b]? = some cells ∧ cells.length = a.2.2.length ∧ cells[i]? = some (.sl bl 0 a.2.2[i].length a.2.2[i].length 1) ∧ H[bl]? = some (a.2.2[i].flatMap ci) ∧ bl ∈ RU ∧ bl ≠ b ∧
      rChainO (H.set b (cells.set i (.sl bl 1 (a.2.2[i].length - 1) (a.2.2[i].length - 1) 1))) [vS, vD, vU] (a.1, a.2.1, a.2.2.set i (a.2.2[i].drop 1)) (RS ++ (RD ++ RU)) := by
  have hU : RSl 1 rIo H [vU] a.2.2 RU := RSl.map (fun h => Or.inl h) C.u
  obtain ⟨b, css, c, r, hv, hb, fl, hcn, hc, fe, hE, hbr, hbR, hrR, nd0, hup⟩ := RSl.focus goodIo hU C.nu hi
  obtain ⟨b', css', c', r', hv', hb', hcn', hc', fe', hE', hbr', hbR', hrR', nd0', _⟩ := RSl.focus2 goodInt64S C.u C.nu hi
  have eb : b' = b := by rw [hv] at hv'; injection hv' with h; exact h.symm
  rw [eb] at hv' hb' hbr' hbR'
  have ecss : css'.flatten = css.flatten := by rw [hb] at hb'; exact (Option.some.inj hb').symm
  -- the cells are one by one
  have one : ∀ (l : List (List GV)), (∀ c ∈ l, c.length = 1) → ∀ (k : Nat) (c : List GV), l[k]? = some c → ∃ g, c = [g] ∧ l.flatten[k]? = some g := by
    intro l hl k c hk
    obtain ⟨g, rfl⟩ := List.length_eq_one_iff.1 (hl c (List.mem_of_getElem? hk))
    have := css_get (es := 1) (off := 0) hl hk (by omega)
    simp only [Nat.mul_one, Nat.add_zero] at this
    exact ⟨g, rfl, this⟩
  obtain ⟨g, rfl, hg⟩ := one css fe i c hc
  obtain ⟨g', rfl, hg'⟩ := one css' fe' i c' hc'
  have eg : g' = g := by rw [ecss, hg] at hg'; exact (Option.some.inj hg').symm
  subst eg
  obtain ⟨bl, hgl, hbl, hr'⟩ := rFl_some hE' hne
  subst hgl
  have hblR : bl ∈ RU := hrR' bl (by rw [hr']; simp)
  have hblb : bl ≠ b := fun e => hbr' (by rw [hr', ← e]; simp)
  have hr : r = [bl] := by
    rcases hE with h | ⟨b2, pre, h1, h2, h3⟩
    · obtain ⟨b2, e1, _, e3⟩ := rFl_some h hne
      injection e1 with e1
      rw [e3, e1]
    · injection h1 with h1
      injection h1 with h1
      rw [h3, h1]
  have hlb := (List.getElem?_eq_some_iff.1 hb).1
  have e2 : (css.set i [.sl bl 1 (a.2.2[i].length - 1) (a.2.2[i].length - 1) 1]).flatten = css.flatten.set i (.sl bl 1 (a.2.2[i].length - 1) (a.2.2[i].length - 1) 1) := by
    have := css_set (es := 1) (off := 0) (v := .sl bl 1 (a.2.2[i].length - 1) (a.2.2[i].length - 1) 1) fe hc (by omega)
    simp only [Nat.mul_one, Nat.add_zero] at this
    rw [this]; rfl
  obtain ⟨pre, hp1, hp2⟩ := cut_flat (mk := ci) (fun _ => rfl) hne
  have hx : rIo (H.set b (css.flatten.set i (.sl bl 1 (a.2.2[i].length - 1) (a.2.2[i].length - 1) 1))) [.sl bl 1 (a.2.2[i].length - 1) (a.2.2[i].length - 1) 1] (a.2.2[i].drop 1) r :=
    Or.inr ⟨bl, pre, by rw [hp1, List.length_drop], by rw [List.getElem?_set_ne (Ne.symm hblb), hbl, hp2], hr⟩
  have hu := hup (H.set b (css.flatten.set i (.sl bl 1 (a.2.2[i].length - 1) (a.2.2[i].length - 1) 1))) _ _ (by rw [List.getElem?_set_self hlb, e2]) hx (fun k hk hkb hkr => List.getElem?_set_ne (Ne.symm hkb))
  have fr : Fr [b] H (H.set b (css.flatten.set i (.sl bl 1 (a.2.2[i].length - 1) (a.2.2[i].length - 1) 1))) := .set (by simp)
  refine ⟨b, css.flatten, bl, hv, hbR, hb, by rw [fl, Nat.mul_one], hg, hbl, hblR, hblb, ⟨[vS], [vD, vU], RS, RD ++ RU, rfl, rfl, goodServerS.keep C.s fr (fun k hk h => ?_), ⟨[vD], [vU], RD, RU, rfl, rfl, RSl.map (fun h => Or.inl h) (goodStringSS.keep C.d fr (fun k hk h => ?_)), hu⟩⟩⟩
  · rw [List.mem_singleton] at h; exact C.su k hk (h ▸ hbR)
  · rw [List.mem_singleton] at h; exact C.du k hk (h ▸ hbR)
/-- A new list is put at place i of what goes up. -/
theorem ChainIn.upSet {p lo : Nat} {a : ChainT} {H : Heap} {vS vD vU : GV} {RS RD RU : List Nat} (h : ChainIn p lo a H vS vD vU RS RD RU) {i : Nat} (hi : i < a.2.2.length) {v' : GV} {x' : List Int} {R' : List Nat} {q : Nat} (hv' : rInt64S H [v'] x' R') (nd' : R'.Nodup) (hb' : ∀ j ∈ R', q ≤ j) (hq : ∀ i, i ∈ RS ∨ i ∈ RD ∨ i ∈ RU → i < q) (hlq : lo ≤ q) (hpq : p < q) :
    ∃ b H5 RU', vU = .sl b 0 a.2.2.length a.2.2.length 1 ∧ b ∈ RU ∧ kstore 1 H (.ptr b i a.2.2.length) v' = some H5 ∧ ChainIn p lo (a.1, a.2.1, a.2.2.set i x') H5 vS vD vU RS RD RU' ∧ Fr RU H H5 ∧ (∀ i ∈ RU', i ∈ RU ∨ q ≤ i) := by
  obtain ⟨b, css, c, R1, hv, hb, hcn, hc, fe, E1, hbr, hbR, hrR, nd0, hup⟩ := RSl.focus2 goodInt64S h.u h.nu hi
  obtain ⟨vL, rfl⟩ := List.length_eq_one_iff.1 (goodInt64S.len E1)
  have hb0 : H[b]? = some (css.set i [vL]).flatten := by rw [set_get_self hc]; exact hb
  have vc := cell_of hv'
  obtain ⟨H5, s5, hb5, f5⟩ := st_leaf (es := 1) (off := 0) (o := i) (tot := a.2.2.length) (x := v') hb0 fe hcn hi rfl (by omega) vc.1 vc.2 (by omega) (by omega)
  have hbq : b < q := hq b (Or.inr (Or.inr hbR))
  have a2' := goodInt64S.keep hv' f5 (fun j hj h' => by
    rw [List.mem_singleton] at h'
    have := hb' j hj
    omega)
  obtain ⟨RS', q1, q2, q3⟩ := hup H5 _ _ R' hb5 a2' nd' (fun j hj => Or.inr (fun h3 => by have := hq j (Or.inr (Or.inr h3)); have := hb' j hj; omega)) (fun j hj hjb hjr => f5.2 j (goodInt64SS.mem h.u j hj) (by simpa using hjb))
  have fr : Fr RU H H5 := f5.sub (fun j hj => by rw [List.mem_singleton] at hj; rw [hj]; exact hbR)
  have hk : ∀ j ∈ RS', j ∈ RU ∨ q ≤ j := fun j hj => (q3 j hj).elim Or.inl (fun h2 => Or.inr (hb' j h2))
  exact ⟨b, H5, RS', hv, hbR, s5, h.withU q1 q2 hk fr hq hlq hpq, fr, hk⟩
theorem appO_rel {bl : Nat} {pre : List GV} {ys : List Int} {H : Heap} (hb : H[bl]? = some (pre ++ ys.flatMap ci)) (hp : pre.length = 1) (hm : ys.length ≤ 4194304) : ∃ v H' R, kapp [.int .i64 0] 1 8 .emp (.sl bl 1 ys.length ys.length 1) H = some (v, H') ∧ rInt64S H' [v] ys R ∧ R.Nodup ∧ (∀ i ∈ R, H.length ≤ i) ∧ Fr [] H H' := by
  have fl : (ys.flatMap ci).length = ys.length := by have := len_flat (mk := ci) (es := 1) (fun _ => rfl) ys; omega
  have hg : gcells H 1 (.sl bl 1 ys.length ys.length 1) = some (ys.length, ys.flatMap ci, [bl]) := by
    have hd : (pre ++ ys.flatMap ci).drop 1 = ys.flatMap ci := by rw [← hp, List.drop_left]
    unfold gcells
    simp only [cellsAt_if, hb, Option.bind_some, List.length_append, fl, hp, Nat.mul_one, if_true, Option.bind_eq_bind, hd]
    rw [List.take_of_length_le (by omega)]
    simp
  have h1 : ys.length * 8 ≤ 4194304 * 8 := Nat.mul_le_mul_right 8 hm
  have hk : kapp [.int .i64 0] 1 8 .emp (.sl bl 1 ys.length ys.length 1) H = if ys.length = 0 then some (.emp, H) else some (.sl H.length 0 ys.length ys.length 1, H ++ [ys.flatMap ci]) := by
    unfold kapp
    rw [hg]
    simp only [Option.bind_some]
    rw [if_pos ⟨all_flat (fun _ => rfl) ys, rfl, by simp only [maxLen]; omega, by simp only [roomMax]; omega⟩]
  by_cases h0 : ys.length = 0
  · rw [if_pos h0] at hk
    have hz := List.eq_nil_of_length_eq_zero h0
    subst hz
    exact ⟨_, _, [], hk, Or.inl ⟨rfl, rfl, Or.inl rfl⟩, List.nodup_nil, fun i hi => (by cases hi), .refl⟩
  · rw [if_neg h0] at hk
    exact ⟨_, _, _, hk, rNew (b := H.length) (by simp), by simp, fun i hi => by rw [List.mem_singleton] at hi; omega, .app⟩
theorem ksl_1 {bl m : Nat} (hm : 0 < m) : ksl 1 (.sl bl 0 m m 1) (some (.int .i64 1)) none none = some (.sl bl 1 (m - 1) (m - 1) 1) := by
  have h1 : (1 : Int) ≤ m := by omega
  simp [ksl, kslice, gslice, gopt, gint, h1]
/-- An answer goes up. -/
def replyM (a : ChainT) (i : Int) : ChainT × Bool :=
  if 0 ≤ i ∧ i < a.2.2.length ∧ 0 < (a.2.2[i.toNat]?.getD []).length then
    ((a.1.set i.toNat ((a.1[i.toNat]?.getD ([], 0)).1, (a.2.2[i.toNat]?.getD [])[0]?.getD 0), a.2.1,
      if i.toNat = 0 then a.2.2.set i.toNat ((a.2.2[i.toNat]?.getD []).drop 1) else (a.2.2.set (i.toNat - 1) (a.2.2[i.toNat - 1]?.getD [] ++ [(a.2.2[i.toNat]?.getD [])[0]?.getD 0])).set i.toNat ((a.2.2[i.toNat]?.getD []).drop 1)), true)
  else (a, false)
theorem replyM_false {a : ChainT} {i : Int} (h : (replyM a i).2 = false) : (replyM a i).1 = a := by
  unfold replyM at h ⊢
  split
  · rename_i h1
    rw [if_pos h1] at h
    cases h
  · rfl
theorem up_short {us : List (List Int)} {j : Nat} (hj : j < us.length) (hz : zInt64SS us ≤ 1048576) : us[j].length + 1 ≤ 1048576 := by
  unfold zInt64SS at hz
  have : us[j].length ≤ _ := sum_mem (c := fun x : List Int => zInt64S x) (List.getElem_mem hj)
  omega
theorem replyM_ok (a : ChainT) (hm : okChain a) (hz : zChain a ≤ 1048576) (i : Int) : okChain (onM a (replyM a i)).1 := by
  refine onM_ok fun hP => ?_
  have hu : zInt64SS a.2.2 ≤ 1048576 := by unfold zChain at hz; omega
  unfold replyM
  split
  case isFalse => exact hm
  rename_i hc
  obtain ⟨j, rfl⟩ : ∃ j : Nat, i = j := ⟨i.toNat, by omega⟩
  have hj : j < a.2.2.length := by omega
  have hn := hP.2.2.1
  have hx : j < a.1.length := by omega
  simp only [Int.toNat_natCast] at hc ⊢
  have hcut : okInt64S ((a.2.2[j]?.getD []).drop 1) := by
    rw [get_of hj]
    have := hm.2.2.2 _ (List.getElem_mem hj)
    show ((a.2.2[j]).drop 1).length ≤ 1048576
    have h2 : (a.2.2[j]).length ≤ 1048576 := this
    rw [List.length_drop]; omega
  refine ⟨⟨by rw [List.length_set]; exact hm.1.1, fun x h => ?_⟩, hm.2.1, ?_⟩
  · rcases mem_set_or h with h | h
    · exact hm.1.2 x h
    · rw [h, get_of hx]
      have := hm.1.2 _ (List.getElem_mem hx)
      exact this
  · split
    · refine ⟨by rw [List.length_set]; exact hm.2.2.1, fun x h => ?_⟩
      rcases mem_set_or h with h | h
      · exact hm.2.2.2 x h
      · rw [h]; exact hcut
    · refine ⟨by rw [List.length_set, List.length_set]; exact hm.2.2.1, fun x h => ?_⟩
      rcases mem_set_or h with h | h
      · rcases mem_set_or h with h | h
        · exact hm.2.2.2 x h
        · have hj' : j - 1 < a.2.2.length := by omega
          rw [h, get_of hj']
          have := up_short hj' hu
          show (a.2.2[j - 1] ++ _).length ≤ 1048576
          rw [List.length_append]
          simp; omega
      · rw [h]; exact hcut
theorem tell_0 {p : Nat} {H : Heap} : HH fn.impl_Chain_tell [.ptr p 0 3, .int .i64 0] H = some (.tup [], H) := by
  apply S.impl_Chain_tell.gives (k := 0)
  simp [S.impl_Chain_tell.run]
theorem tell_raw {p n m bS bU j : Nat} {H H4 H5 : Heap} {vD vL v' : GV} {z : Int} (hp : H[p]? = some [.sl bS 0 n n 2, vD, .sl bU 0 m m 1]) (hj : j + 1 < n) (hjm : j < m) (hn : n ≤ 1048576) (lL : kload1 H (.ptr bU j m) = some vL) (lz : kload1 H (.ptr bS ((j + 1) * 2 + 1) (n * 2)) = some (.int .i64 z))
    (ka : kapp [.int .i64 0] 1 8 vL (.sl H.length 0 1 1 1) (H ++ [[.int .i64 z]]) = some (v', H4)) (ks : kstore 1 H4 (.ptr bU j m) v' = some H5) (pk : p ∉ kblk vL) : HH fn.impl_Chain_tell [.ptr p 0 3, .int .i64 ((j + 1 : Nat) : Int)] H = some (.tup [], H5) := by
  apply S.impl_Chain_tell.gives (k := 0)
  have hpl := (List.getElem?_eq_some_iff.1 hp).1
  have q0 := kload1_at (o := 0) (tot := 3) hp rfl
  have q2 := kload1_at (o := 2) (tot := 3) hp rfl
  have w : kbin .sub (.int .i64 ((j + 1 : Nat) : Int)) (.int .i64 1) = some (.int .i64 (j : Int)) := by
    rw [kbin_sub, show ((j + 1 : Nat) : Int) - 1 = (j : Int) by omega, wrap_id (by omega) (by omega)]
  have g : kbin .gtr (.int .i64 ((j + 1 : Nat) : Int)) (.int .i64 0) = some (.bool true) := by rw [kbin_gtr, decide_eq_true (by omega)]
  have k1 := kia_at (es := 1) (b := bU) (n := m) (j := j) (o := j) (tot := m) hjm (by omega) (by omega)
  have k2 := kia_at (es := 2) (b := bS) (n := n) (j := j + 1) (o := (j + 1) * 2) (tot := n * 2) hj rfl rfl
  have z1 : ¬ (H.length = p) := by omega
  have z2 : ¬ (H.length ≤ p) := by omega
  have z3 : ¬ (H.length + 1 ≤ p) := by omega
  simp [S.impl_Chain_tell.run, g, q0, q2, w, k1, k2, lL, lz, gfill, zeros, kbs_at, ka, ks, -kload1_ptr, -kstore_ptr, -kbin_sub, -kbin_gtr, -Int.natCast_add]
  simp [chk, meets, touches, z1, z2, z3, any_no (n := H.length) pk, any_no2, pk, -List.any_eq_true, -List.any_eq_false]
theorem in_spec_no (i : Int) (m : Nat) (h : ¬ (0 ≤ i ∧ i < (m : Int))) : decide (0 ≤ i ∧ i ≤ (m : Int) - 1) = false := decide_eq_false (by omega)
theorem spec_l17Reply_op (a : ChainT) (hP : ChainP a.1 a.2.1 a.2.2) (hm : okChain a) (i : Int) : OpR fn.spec_l17Reply [.int .i64 i] a (replyM a i) := by
  intro p lo H vS vD vU RS RD RU C hlo
  have h1 := hP.1.1
  have h5 := hP.1.2
  have hn := hP.2.2.1
  have hpl := (List.getElem?_eq_some_iff.1 C.cell).1
  have q0 := kload1_at (o := 0) (tot := 3) C.cell rfl
  have q2 := kload1_at (o := 2) (tot := 3) C.cell rfl
  have klU : klen vU = some (.int .i64 a.2.2.length) := C.u.len
  have w1 : IntKind.i64.wrap ((a.2.2.length : Int) - 1) = (a.2.2.length : Int) - 1 := by rw [wrap_id] <;> omega
  by_cases c1 : 0 ≤ i ∧ i < (a.2.2.length : Int)
  case neg =>
    have hres : replyM a i = (a, false) := by unfold replyM; rw [if_neg (fun h => c1 ⟨h.1, by omega⟩)]
    have sp := spec_l1In_spec i 0 ((a.2.2.length : Int) - 1)
    rw [in_spec_no i _ c1] at sp
    rw [hres]
    refine ⟨H, vS, vD, vU, RS, RD, RU, S.spec_l17Reply.gives (k := 0) ?_, C, fun _ _ _ _ _ _ => rfl⟩
    simp [S.spec_l17Reply.run, q2, klU, w1, sp, -kload1_ptr]
  obtain ⟨j, rfl⟩ : ∃ j : Nat, i = j := ⟨i.toNat, by omega⟩
  have hj : j < a.2.2.length := by omega
  have hx : j < a.1.length := by omega
  have sp := spec_l1In_spec (j : Int) 0 ((a.2.2.length : Int) - 1)
  rw [decide_eq_true (by omega)] at sp
  -- the list that goes up
  obtain ⟨b, css, c, R1, hv, hb, hcn, hc, fe, E1, hbr, hbR, hrR, nd0, _⟩ := RSl.focus2 goodInt64S C.u C.nu hj
  obtain ⟨vL, rfl⟩ := List.length_eq_one_iff.1 (goodInt64S.len E1)
  have hb0 : H[b]? = some (css.set j [vL]).flatten := by rw [set_get_self hc]; exact hb
  have l0 := ld_leaf (es := 1) (off := 0) (o := j) (tot := a.2.2.length) hb0 fe hcn hj rfl (by omega) (by omega) (by omega)
  have ki : kia 1 vU (.int .i64 (j : Int)) = some (.ptr b j a.2.2.length) := by rw [hv]; exact kia_at hj (by omega) (by omega)
  have klL : klen vL = some (.int .i64 a.2.2[j].length) := E1.len
  by_cases c2 : 0 < a.2.2[j].length
  case neg =>
    have hres : replyM a (j : Int) = (a, false) := by unfold replyM; rw [if_neg (fun h => c2 (by have := h.2.2; rw [Int.toNat_natCast, get_of hj] at this; exact this))]
    have c2' : a.2.2[j].length = 0 := by omega
    rw [hres]
    refine ⟨H, vS, vD, vU, RS, RD, RU, S.spec_l17Reply.gives (k := 0) ?_, C, fun _ _ _ _ _ _ => rfl⟩
    rw [c2'] at klL
    simp [S.spec_l17Reply.run, q2, klU, w1, sp, ki, l0, klL, -kload1_ptr]
  have c2' : ¬ ((a.2.2[j].length : Int) = 0) := by omega
  have c2n : ¬ (a.2.2[j] = []) := fun h => by rw [h] at c2; simp at c2
  obtain ⟨bl, hvL, hbl, hR1⟩ := rFl_some E1 c2
  have hu0 : a.2.2[j][0]? = some a.2.2[j][0] := get_of c2
  have li : kload1 H (.ptr bl 0 a.2.2[j].length) = some (.int .i64 a.2.2[j][0]) := by
    have fl : (a.2.2[j].flatMap ci).length = a.2.2[j].length := by have := len_flat (mk := ci) (es := 1) (fun _ => rfl) a.2.2[j]; omega
    rw [kload1_at hbl fl]
    have : a.2.2[j].flatMap ci = a.2.2[j].map (GV.int .i64) := by
      induction a.2.2[j] with
      | nil => rfl
      | cons y ys ih => rw [List.flatMap_cons, ih]; rfl
    rw [this, List.getElem?_map, hu0]; rfl
  have ki0 : kia 1 vL (.int .i64 0) = some (.ptr bl 0 a.2.2[j].length) := by
    rw [hvL]
    have := kia_0 (es := 1) (b := bl) c2
    rwa [Nat.mul_one] at this
  obtain ⟨pre, hp1, hp2⟩ := cut_flat (mk := ci) (fun _ => rfl) c2
  have hbl' := hbl
  rw [hp2] at hbl'
  have hlj : a.2.2[j].length ≤ 1048576 := hm.2.2.2 _ (List.getElem_mem hj)
  obtain ⟨vN, H1, RN, t1, r1, n1, b1, f1⟩ := appO_rel hbl' hp1 (by rw [List.length_drop]; omega)
  rw [List.length_drop] at t1
  have ks1 := ksl_1 (bl := bl) c2
  have bd := C.bd
  have hl1 := f1.1
  have C1 := C.grow f1
  obtain ⟨b2, H2, RU2, hv2, hb2R, s2, C2, f2, k2⟩ := C1.upSet (i := j) hj r1 n1 b1 bd hlo hpl
  have eb : b2 = b := by rw [hv] at hv2; injection hv2 with h; exact h.symm
  subst eb
  have hl2 := f2.1
  obtain ⟨bS, H3, RS3, hvS, hbSR, l3, s3, C3, f3, k3, hl3⟩ := C2.sureSet (i := j) hx a.2.2[j][0] (q := H2.length) C2.bd (by omega) (by omega)
  have kiS : kia 2 vS (.int .i64 (j : Int)) = some (.ptr bS (j * 2) (a.1.length * 2)) := by rw [hvS]; exact kia_at hx rfl rfl
  have p0 := kload1_at (o := 0) (tot := 3) C2.cell rfl
  have z2 : ¬ (H.length ≤ p) := by omega
  have zb1 : ¬ (H.length ≤ bl) := by have := (List.getElem?_eq_some_iff.1 hbl).1; omega
  have zb2 : ¬ (H.length ≤ b2) := by have := bd b2 (Or.inr (Or.inr hbR)); omega
  have hpre : replyM a (j : Int) = ((a.1.set j (a.1[j].1, a.2.2[j][0]), a.2.1, if j = 0 then a.2.2.set j (a.2.2[j].drop 1) else (a.2.2.set (j - 1) (a.2.2[j - 1]?.getD [] ++ [a.2.2[j][0]])).set j (a.2.2[j].drop 1)), true) := by
    unfold replyM
    rw [if_pos ⟨by omega, by omega, by rw [Int.toNat_natCast, get_of hj]; exact c2⟩, Int.toNat_natCast, get_of hj, get_of hx]
    simp only [Option.getD_some, hu0]
  by_cases c3 : j = 0
  · have c3' : ¬ ((0 : Int) < (j : Int)) := by omega
    rw [hpre, if_pos c3]
    refine ⟨H3, vS, vD, vU, RS3, RD, RU2, S.spec_l17Reply.gives (k := 0) ?_, C3, fun i hi hp hS hD hU => ?_⟩
    · subst hvL
      have c3'' : ¬ (0 < j) := by omega
      simp [S.spec_l17Reply.run, q2, klU, w1, sp, ki, l0, klL, c2', c2n, ki0, li, ks1, t1, s2, p0, kiS, s3, c3', c3'', chk, meets, touches, z2, zb1, zb2, -kload1_ptr, -kstore_ptr]
    · rw [f3.2 i (by omega) hS, f2.2 i (by omega) hU, f1.2 i hi no_nil]
  · obtain ⟨j', rfl⟩ : ∃ j', j = j' + 1 := ⟨j - 1, by omega⟩
    have hj' : j' < a.2.2.length := by omega
    have hj'' : j' < (a.2.2.set (j' + 1) (a.2.2[j' + 1].drop 1)).length := by rw [List.length_set]; exact hj'
    have hget : (a.2.2.set (j' + 1) (a.2.2[j' + 1].drop 1))[j'] = a.2.2[j'] := List.getElem_set_ne (by omega) _
    obtain ⟨b4, vX, w', H4, H5, RU5, hv4, hb4R, l4, kl4, a4, s5, C5, f5, k5, n5, kb⟩ := C3.upApp (i := j') hj'' a.2.2[j' + 1][0] (q := H3.length) C3.bd (by omega) (by omega) (Nat.le_refl _) (by show ((a.2.2.set (j' + 1) (a.2.2[j' + 1].drop 1))[j']).length ≤ 4194304; rw [hget]; have := hm.2.2.2 _ (List.getElem_mem hj'); unfold okInt64S at this; omega)
    simp only [List.length_set, hget] at hv4 l4 s5 C5
    have eb : b4 = b2 := by rw [hv] at hv4; injection hv4 with h; exact h.symm
    subst eb
    have p2 := kload1_at (o := 2) (tot := 3) C3.cell rfl
    have ki' : kia 1 vU (.int .i64 (j' : Int)) = some (.ptr b4 j' a.2.2.length) := by rw [hv]; exact kia_at hj' (by omega) (by omega)
    have w2 : kbin .sub (.int .i64 ((j' + 1 : Nat) : Int)) (.int .i64 1) = some (.int .i64 (j' : Int)) := by
      rw [kbin_sub, show ((j' + 1 : Nat) : Int) - 1 = (j' : Int) by omega, wrap_id (by omega) (by omega)]
    have g2 : kbin .gtr (.int .i64 ((j' + 1 : Nat) : Int)) (.int .i64 0) = some (.bool true) := by rw [kbin_gtr, decide_eq_true (by omega)]
    have w1' : kbin .sub (.int .i64 (a.2.2.length : Int)) (.int .i64 1) = some (.int .i64 ((a.2.2.length : Int) - 1)) := by rw [kbin_sub, w1]
    have pk : p ∉ kblk vX := fun h => C3.pu (kb p h).1
    have y1 : ¬ (H3.length = p) := by omega
    have y2 : ¬ (H3.length ≤ p) := by omega
    have y3 : ¬ (H3.length + 1 ≤ p) := by omega
    rw [hpre, if_neg c3]
    have e5 : (a.2.2.set (j' + 1 - 1) (a.2.2[j' + 1 - 1]?.getD [] ++ [a.2.2[j' + 1][0]])).set (j' + 1) (a.2.2[j' + 1].drop 1) = (a.2.2.set (j' + 1) (a.2.2[j' + 1].drop 1)).set j' (a.2.2[j'] ++ [a.2.2[j' + 1][0]]) := by
      rw [Nat.add_sub_cancel, get_of hj', List.set_comm _ _ (by omega)]; rfl
    rw [e5]
    refine ⟨H5, vS, vD, vU, RS3, RD, RU5, S.spec_l17Reply.gives (k := 0) ?_, C5, fun i hi hp hS hD hU => ?_⟩
    · subst hvL
      simp [S.spec_l17Reply.run, q2, klU, w1', sp, ki, l0, klL, c2', c2n, ki0, li, ks1, t1, s2, p0, kiS, s3, g2, p2, w2, ki', l4, gfill, zeros, kbs_at, a4, s5, -kload1_ptr, -kstore_ptr, -Int.natCast_add, -kbin_sub, -kbin_gtr]
      simp [chk, meets, touches, z2, zb1, zb2, y1, y2, y3, any_no (n := H3.length) pk, any_no2, pk, -List.any_eq_true, -List.any_eq_false]
    · rw [f5.2 i (by omega) (fun h => (k2 i h).elim hU (fun h2 => by omega)), f3.2 i (by omega) hS, f2.2 i (by omega) hU, f1.2 i hi no_nil]
theorem kapp_cell {z : List GV} {es b : Nat} {v x v' : GV} {H H' : Heap} (h : kapp z es b v x H = some (v', H')) : match v' with | .agg _ => False | .tup _ => False | _ => True := by
  unfold kapp at h
  obtain ⟨⟨n, new, l⟩, h1, h2⟩ := Option.bind_eq_some_iff.1 h
  simp only at h2
  split at h2
  case isFalse => cases h2
  cases v with
  | nils => simp only at h2; split at h2 <;> (cases h2; trivial)
  | emp => simp only at h2; split at h2 <;> (cases h2; trivial)
  | sl i off len cap es' =>
    simp only at h2
    obtain ⟨cs, h3, h4⟩ := Option.bind_eq_some_iff.1 h2
    split at h4
    case isFalse => cases h4
    split at h4
    · cases h4; trivial
    · split at h4
      · cases h4; trivial
      · cases h4
  | _ => cases h2
theorem kstore_inj {H H' : Heap} {b o t : Nat} {x : GV} {cells : List GV} (hb : H[b]? = some cells) (ho : o < t) (hx : x.cells = [x]) (hc : x.isCell = true) (hl : cells.length = t) (h : kstore 1 H (.ptr b o t) x = some H') : H' = H.set b (cells.set o x) := by
  rw [kstore_at hb hl ho hx hc] at h
  exact (Option.some.inj h).symm
theorem set_same {H : Heap} {b : Nat} {c : List GV} (h : H[b]? = some c) : H.set b c = H := by
  obtain ⟨hb, rfl⟩ := List.getElem?_eq_some_iff.1 h
  exact List.set_getElem_self hb
theorem impl_Reply_1_op (a : ChainT) (hP : ChainP a.1 a.2.1 a.2.2) (hm : okChain a) (i : Int) : OpN fn.impl_Reply_1 [.fp true [.int .i64 i]] a (replyM a i) := by
  intro p lo H vS vD vU RS RD RU C hlo
  have h1 := hP.1.1
  have h5 := hP.1.2
  have hn := hP.2.2.1
  have hpl := (List.getElem?_eq_some_iff.1 C.cell).1
  have q0 := kload1_at (o := 0) (tot := 3) C.cell rfl
  have q2 := kload1_at (o := 2) (tot := 3) C.cell rfl
  have et : ∀ H, kload1 H (.fp true [.int .i64 i]) = some (.int .i64 i) := fun H => rfl
  obtain ⟨hr, nd⟩ := C.fin
  have l3 := kloadA_at (n := 3) C.cell rfl
  have lst : kN NN fn.impl_Chain_last [.agg [vS, vD, vU]] H = some (.int .i64 (a.2.2.length : Int)) := by
    have := kN_at (bors_agg goodChain (gs := []) (xs := []) (by omega) hr rfl) (impl_Chain_last_spec a hm.1.1)
    rwa [show (a.1.length : Int) - 1 = (a.2.2.length : Int) by omega] at this
  have w1 : kbin .sub (.int .i64 (a.2.2.length : Int)) (.int .i64 1) = some (.int .i64 ((a.2.2.length : Int) - 1)) := by rw [kbin_sub, wrap_id (by omega) (by omega)]
  have hloR : ∀ k ∈ RS ++ (RD ++ RU), lo ≤ k := fun k hk => by
    simp only [List.mem_append] at hk
    rcases hk with h | h | h
    · exact C.ls k h
    · exact C.ld k h
    · exact C.lu k h
  by_cases c1 : 0 ≤ i ∧ i < (a.2.2.length : Int)
  case neg =>
    have hres : replyM a i = (a, false) := by unfold replyM; rw [if_neg (fun h => c1 ⟨h.1, by omega⟩)]
    have sp := impl_in_spec i 0 ((a.2.2.length : Int) - 1)
    rw [in_spec_no i _ c1] at sp
    rw [hres]
    refine ⟨H, _, _, S.impl_Reply_1.gives (k := 0) ?_, C.cell, rChainO_of hr, nd, hloR, fun _ _ _ _ _ _ => rfl⟩
    simp [S.impl_Reply_1.run, et, l3, lst, w1, sp, -kload1_ptr, -kloadA_ptr, -kN_eq, -kbin_sub]
    simp [sp]
  obtain ⟨j, rfl⟩ : ∃ j : Nat, i = j := ⟨i.toNat, by omega⟩
  have hj : j < a.2.2.length := by omega
  have hx : j < a.1.length := by omega
  have sp := impl_in_spec (j : Int) 0 ((a.2.2.length : Int) - 1)
  rw [decide_eq_true (by omega)] at sp
  obtain ⟨b, css, c, R1, hv, hb, hcn, hc, fe, E1, hbr, hbR, hrR, nd0, _⟩ := RSl.focus2 goodInt64S C.u C.nu hj
  obtain ⟨vL, rfl⟩ := List.length_eq_one_iff.1 (goodInt64S.len E1)
  have hb0 : H[b]? = some (css.set j [vL]).flatten := by rw [set_get_self hc]; exact hb
  have l0 := ld_leaf (es := 1) (off := 0) (o := j) (tot := a.2.2.length) hb0 fe hcn hj rfl (by omega) (by omega) (by omega)
  have ki : kia 1 vU (.int .i64 (j : Int)) = some (.ptr b j a.2.2.length) := by rw [hv]; exact kia_at hj (by omega) (by omega)
  have klL : klen vL = some (.int .i64 a.2.2[j].length) := E1.len
  by_cases c2 : 0 < a.2.2[j].length
  case neg =>
    have hres : replyM a (j : Int) = (a, false) := by unfold replyM; rw [if_neg (fun h => c2 (by have := h.2.2; rw [Int.toNat_natCast, get_of hj] at this; exact this))]
    have c2' : a.2.2[j].length = 0 := by omega
    rw [hres]
    refine ⟨H, _, _, S.impl_Reply_1.gives (k := 0) ?_, C.cell, rChainO_of hr, nd, hloR, fun _ _ _ _ _ _ => rfl⟩
    rw [c2'] at klL
    simp [S.impl_Reply_1.run, et, l3, lst, w1, sp, q2, ki, l0, klL, -kload1_ptr, -kloadA_ptr, -kN_eq, -kbin_sub]
    simp [sp]
  have c2' : ¬ ((a.2.2[j].length : Int) = 0) := by omega
  have c2n : ¬ (a.2.2[j] = []) := fun h => by rw [h] at c2; simp at c2
  obtain ⟨bl, hvL, hbl, hR1⟩ := rFl_some E1 c2
  have hu0 : a.2.2[j][0]? = some a.2.2[j][0] := get_of c2
  have li : kload1 H (.ptr bl 0 a.2.2[j].length) = some (.int .i64 a.2.2[j][0]) := by
    have fl : (a.2.2[j].flatMap ci).length = a.2.2[j].length := by have := len_flat (mk := ci) (es := 1) (fun _ => rfl) a.2.2[j]; omega
    rw [kload1_at hbl fl]
    have : a.2.2[j].flatMap ci = a.2.2[j].map (GV.int .i64) := by
      induction a.2.2[j] with
      | nil => rfl
      | cons y ys ih => rw [List.flatMap_cons, ih]; rfl
    rw [this, List.getElem?_map, hu0]; rfl
  have ki0 : kia 1 vL (.int .i64 0) = some (.ptr bl 0 a.2.2[j].length) := by
    rw [hvL]
    have := kia_0 (es := 1) (b := bl) c2
    rwa [Nat.mul_one] at this
  have ks1 := ksl_1 (bl := bl) c2
  have bd := C.bd
  -- what the server is sure of
  obtain ⟨bS, H1, RS1, hvS, hbSR, ls, s1, C1, f1, k1, hl1⟩ := C.sureSet (i := j) hx a.2.2[j][0] (q := H.length) bd hlo hpl
  have kiS : kia 2 vS (.int .i64 (j : Int)) = some (.ptr bS (j * 2) (a.1.length * 2)) := by rw [hvS]; exact kia_at hx rfl rfl
  -- the list is cut
  obtain ⟨b2, cells, bl2, hv2, hb2R, hcell, hclen, hcj, hbl2, hbl2R, hblb, hO⟩ := C1.narrowU (i := j) hj c2
  have eb : b2 = b := by rw [hv] at hv2; injection hv2 with h; exact h.symm
  subst eb
  have hbS2 : bS ≠ b2 := fun e => C.su bS hbSR (e ▸ hbR)
  have p2 : p ≠ b2 := fun e => C.pu (e ▸ hbR)
  have l1 : kload1 H1 (.ptr b2 j a.2.2.length) = some (.sl bl2 0 a.2.2[j].length a.2.2[j].length 1) := by rw [kload1_at hcell hclen, hcj]
  have ks2 := ksl_1 (bl := bl2) c2
  obtain ⟨nar, hnar⟩ : ∃ g, GV.sl bl2 1 (a.2.2[j].length - 1) (a.2.2[j].length - 1) 1 = g := ⟨_, rfl⟩
  have nc : nar.cells = [nar] ∧ nar.isCell = true := by rw [← hnar]; exact ⟨rfl, rfl⟩
  have s2 := kstore_at (o := j) (tot := a.2.2.length) (x := nar) hcell hclen hj nc.1 nc.2
  rw [hnar] at hO ks2
  obtain ⟨H2, hH2⟩ : ∃ H2, H1.set b2 (cells.set j nar) = H2 := ⟨_, rfl⟩
  rw [hH2] at s2 hO
  have hlb1 := (List.getElem?_eq_some_iff.1 hcell).1
  have f2 : Fr [b2] H1 H2 := by rw [← hH2]; exact .set (by simp)
  have hl2 : H2.length = H1.length := by rw [← hH2, List.length_set]
  have cell2 : H2[p]? = some [vS, vD, vU] := f2.blk C1.cell (by simpa using p2)
  have p0 := kload1_at (o := 2) (tot := 3) C1.cell rfl
  have hpre : replyM a (j : Int) = ((a.1.set j (a.1[j].1, a.2.2[j][0]), a.2.1, if j = 0 then a.2.2.set j (a.2.2[j].drop 1) else (a.2.2.set (j - 1) (a.2.2[j - 1]?.getD [] ++ [a.2.2[j][0]])).set j (a.2.2[j].drop 1)), true) := by
    unfold replyM
    rw [if_pos ⟨by omega, by omega, by rw [Int.toNat_natCast, get_of hj]; exact c2⟩, Int.toNat_natCast, get_of hj, get_of hx]
    simp only [Option.getD_some, hu0]
  obtain ⟨hr1, nd1⟩ := C1.fin
  have hlo1 : ∀ k ∈ RS1 ++ (RD ++ RU), lo ≤ k := fun k hk => by
    simp only [List.mem_append] at hk
    rcases hk with h | h | h
    · exact C1.ls k h
    · exact C1.ld k h
    · exact C1.lu k h
  by_cases c3 : j = 0
  · rw [hpre, if_pos c3]
    have tl : HH fn.impl_Chain_tell [.ptr p 0 3, .int .i64 (j : Int)] H2 = some (.tup [], H2) := by rw [c3]; exact tell_0
    refine ⟨H2, _, _, S.impl_Reply_1.gives (k := 0) ?_, cell2, hO, nd1, hlo1, fun i hi hp hS hD hU => ?_⟩
    · subst hvL
      simp [S.impl_Reply_1.run, et, l3, lst, w1, sp, q0, q2, ki, l0, klL, c2', c2n, ki0, li, kiS, s1, p0, l1, ks2, s2, tl, -kload1_ptr, -kloadA_ptr, -kN_eq, -kbin_sub, -kstore_ptr]
      simp [sp, c2', c2n, q0, q2, ki, l0, klL, ki0, li, kiS, s1, p0, l1, ks2, s2, tl, et, -kload1_ptr, -kstore_ptr]
    · rw [f2.2 i (by omega) (by rw [List.mem_singleton]; exact fun e => hU (e ▸ hbR)), f1.2 i hi hS]
  · obtain ⟨j', rfl⟩ : ∃ j', j = j' + 1 := ⟨j - 1, by omega⟩
    have hj' : j' < a.2.2.length := by omega
    obtain ⟨b4, vX, w', H4, H5, RU5, hv4, hb4R, l4, kl4, a4, s5, C5, f5, k5, n5, kb⟩ := C1.upApp (i := j') hj' a.2.2[j' + 1][0] (q := H1.length) C1.bd (by omega) (by omega) (Nat.le_refl _) (by show (a.2.2[j']).length ≤ 4194304; have := hm.2.2.2 _ (List.getElem_mem hj'); unfold okInt64S at this; omega)
    simp only at hv4 l4 s5 C5
    have eb : b4 = b2 := by rw [hv] at hv4; injection hv4 with h; exact h.symm
    subst eb
    have kbb : b4 ∉ kblk vX := fun h => (kb b4 h).2 rfl
    have pk : p ∉ kblk vX := fun h => C1.pu (kb p h).1
    -- the same with the list cut
    have ap : ∀ c, (H1.set b4 c) ++ [[GV.int .i64 a.2.2[j' + 1][0]]] = (H1 ++ [[GV.int .i64 a.2.2[j' + 1][0]]]).set b4 c := fun c => (List.set_append_left _ _ hlb1).symm
    have hlb1' : b4 < (H1 ++ [[GV.int .i64 a.2.2[j' + 1][0]]]).length := by rw [List.length_append]; omega
    have ks0 := kapp_set (c := cells) a4 (by omega) kbb hlb1'
    rw [set_same (by rw [List.getElem?_append_left hlb1]; exact hcell), a4] at ks0
    injection ks0 with ks0
    injection ks0 with _ ks0
    have hlb4 : b4 < H4.length := by omega
    have hcell4 : H4[b4]? = some cells := by rw [ks0, List.getElem?_set_self hlb4]
    have a4' := kapp_set (c := cells.set (j' + 1) nar) a4 (by omega) kbb hlb1'
    rw [← ap, hH2] at a4'
    have wc : w'.cells = [w'] ∧ w'.isCell = true := by
      by_cases hw : w'.cells.length = 1 ∧ w'.cells.all GV.isCell = true
      · have hs := s5
        rw [kstore_ptr] at hs
        obtain ⟨hw1, hw2⟩ := hw
        cases w' with
        | agg cs => exact absurd a4 (by
            intro h
            have := kapp_cell h
            exact this)
        | tup cs => exact absurd a4 (by
            intro h
            have := kapp_cell h
            exact this)
        | _ => exact ⟨rfl, by first | rfl | (rw [List.all_eq_true] at hw2; exact hw2 _ (List.mem_singleton.2 rfl))⟩
      · rw [kstore_ptr, if_neg hw] at s5; cases s5
    have e5 := kstore_inj (cells := cells) hcell4 hj' wc.1 wc.2 hclen s5
    have c4c : (H4.set b4 (cells.set (j' + 1) nar))[b4]? = some (cells.set (j' + 1) nar) := by rw [List.getElem?_set_self hlb4]
    have s5' := kstore_at (o := j') (tot := a.2.2.length) (x := w') c4c (by rw [List.length_set]; exact hclen) hj' wc.1 wc.2
    rw [List.set_set] at s5'
    -- the list that is cut, in the end
    have hj5 : j' + 1 < (a.2.2.set j' (a.2.2[j'] ++ [a.2.2[j' + 1][0]])).length := by rw [List.length_set]; exact hj
    have hget5 : (a.2.2.set j' (a.2.2[j'] ++ [a.2.2[j' + 1][0]]))[j' + 1] = a.2.2[j' + 1] := List.getElem_set_ne (by omega) _
    obtain ⟨b6, cells6, bl6, hv6, hb6R, hcell6, hclen6, hcj6, hbl6, hbl6R, hblb6, hO6⟩ := C5.narrowU (i := j' + 1) hj5 (by show 0 < ((a.2.2.set j' (a.2.2[j'] ++ [a.2.2[j' + 1][0]]))[j' + 1]).length; rw [hget5]; exact c2)
    simp only [List.length_set, hget5] at hv6 hcell6 hclen6 hcj6 hO6
    have eb : b6 = b4 := by rw [hv] at hv6; injection hv6 with h; exact h.symm
    subst eb
    have ec6 : cells6 = cells.set j' w' := by
      rw [e5, List.getElem?_set_self hlb4] at hcell6
      exact (Option.some.inj hcell6).symm
    have eg6 : bl6 = bl2 := by
      rw [ec6, List.getElem?_set_ne (by omega), hcj] at hcj6
      injection hcj6 with h
      injection h with h
      exact h.symm
    rw [eg6, hnar, ec6, e5, List.set_set, List.set_comm _ _ (by omega)] at hO6
    obtain ⟨H6, hH6⟩ : ∃ H6, H4.set b6 ((cells.set (j' + 1) nar).set j' w') = H6 := ⟨_, rfl⟩
    rw [hH6] at hO6 s5'
    have cS : kload1 H2 (.ptr bS ((j' + 1) * 2 + 1) (a.1.length * 2)) = some (.int .i64 a.2.2[j' + 1][0]) := by
      rw [← hH2, kload1_set hbS2]
      obtain ⟨bS', _, hvS', _, _, lsv, _, _⟩ := C1.server (i := j' + 1) (by simpa using hx)
      simp only [List.length_set, List.getElem_set_self] at hvS' lsv
      have : bS' = bS := by rw [hvS] at hvS'; injection hvS' with h; exact h.symm
      rw [this] at lsv
      exact lsv
    have lL2 : kload1 H2 (.ptr b6 j' a.2.2.length) = some vX := by
      have hc2 : H2[b6]? = some (cells.set (j' + 1) nar) := by rw [← hH2, List.getElem?_set_self hlb1]
      rw [kload1_at hc2 (by rw [List.length_set]; exact hclen), List.getElem?_set_ne (by omega)]
      rw [kload1_at hcell hclen] at l4
      exact l4
    have a4'' : kapp [.int .i64 0] 1 8 vX (.sl H2.length 0 1 1 1) (H2 ++ [[.int .i64 a.2.2[j' + 1][0]]]) = some (w', H4.set b6 (cells.set (j' + 1) nar)) := by rw [hl2]; exact a4'
    have cell2' : H2[p]? = some [.sl bS 0 a.1.length a.1.length 2, vD, .sl b6 0 a.2.2.length a.2.2.length 1] := by rw [cell2, hvS, hv]
    have tl := tell_raw cell2' (by omega) hj' hm.1.1 lL2 cS a4'' s5' pk
    obtain ⟨_, nd5⟩ := C5.fin
    rw [hpre, if_neg c3]
    have e7 : (a.2.2.set (j' + 1 - 1) (a.2.2[j' + 1 - 1]?.getD [] ++ [a.2.2[j' + 1][0]])) = a.2.2.set j' (a.2.2[j'] ++ [a.2.2[j' + 1][0]]) := by rw [Nat.add_sub_cancel, get_of hj']; rfl
    rw [e7]
    refine ⟨H6, _, _, S.impl_Reply_1.gives (k := 0) ?_, ?_, hO6, nd5, fun k hk => ?_, fun i hi hp hS hD hU => ?_⟩
    · subst hvL
      simp [S.impl_Reply_1.run, et, l3, lst, w1, sp, q0, q2, ki, l0, klL, c2', c2n, ki0, li, kiS, s1, p0, l1, ks2, s2, tl, -kload1_ptr, -kloadA_ptr, -kN_eq, -kbin_sub, -kstore_ptr, -Int.natCast_add]
      simp [sp, c2', c2n, q0, q2, ki, l0, klL, ki0, li, kiS, s1, p0, l1, ks2, s2, tl, et, -kload1_ptr, -kstore_ptr, -Int.natCast_add]
    · rw [← hH6, List.getElem?_set_ne (Ne.symm p2)]
      have := C5.cell
      rw [e5, List.getElem?_set_ne (Ne.symm p2)] at this
      exact this
    · simp only [List.mem_append] at hk
      rcases hk with h | h | h
      · exact C5.ls k h
      · exact C5.ld k h
      · exact C5.lu k h
    · have hb6i : b6 ≠ i := fun e => hU (e ▸ hbR)
      rw [← hH6, List.getElem?_set_ne hb6i]
      have h7 := f5.2 i (by omega) hU
      rw [e5, List.getElem?_set_ne hb6i] at h7
      rw [h7, f1.2 i hi hS]
end Go.Proofs.Ytopmnigfklgnkaa.G
