/- Lists of which the first element is cut away: what is common. -/
import Derived.Test.YtopmnigfklgnkaaTNar
namespace Go.Proofs.Ytopmnigfklgnkaa.G
open Go.RowKit
set_option linter.unusedVariables false
set_option linter.unusedSimpArgs false

/-! What does not touch a block does the same when that block is another. -/
theorem kload1_set {H : Heap} {b bU o t : Nat} {c : List GV} (h : b ≠ bU) : kload1 (H.set bU c) (.ptr b o t) = kload1 H (.ptr b o t) := by
  rw [kload1_ptr, kload1_ptr, cellsAt_if, cellsAt_if, List.getElem?_set_ne (Ne.symm h)]
theorem kapp_set {z : List GV} {es b q bU : Nat} {v v' : GV} {H H' : Heap} {c : List GV} (h : kapp z es b v (.sl q 0 1 1 es) H = some (v', H')) (hq : q ≠ bU) (hv : bU ∉ kblk v) (hb : bU < H.length) : kapp z es b v (.sl q 0 1 1 es) (H.set bU c) = some (v', H'.set bU c) := by
  have hg : gcells (H.set bU c) es (.sl q 0 1 1 es) = gcells H es (.sl q 0 1 1 es) := by
    unfold gcells
    simp only [cellsAt_if, List.getElem?_set_ne (Ne.symm hq)]
  unfold kapp at h ⊢
  rw [hg]
  obtain ⟨⟨n, new, l⟩, h1, h2⟩ := Option.bind_eq_some_iff.1 h
  rw [h1]
  simp only [Option.bind_some] at h2 ⊢
  by_cases hc : new.all GV.isCell = true ∧ z.length = es ∧ n ≤ maxLen ∧ n * b ≤ roomMax
  case neg => rw [if_neg hc] at h2; cases h2
  rw [if_pos hc] at h2 ⊢
  cases v with
  | nils =>
    simp only at h2 ⊢
    by_cases h0 : n = 0
    · rw [if_pos h0] at h2 ⊢; cases h2; rfl
    · rw [if_neg h0] at h2 ⊢; cases h2; rw [List.length_set, List.set_append_left _ _ hb]
  | emp =>
    simp only at h2 ⊢
    by_cases h0 : n = 0
    · rw [if_pos h0] at h2 ⊢; cases h2; rfl
    · rw [if_neg h0] at h2 ⊢; cases h2; rw [List.length_set, List.set_append_left _ _ hb]
  | sl i off len cap es' =>
    have hi : i ≠ bU := fun e => hv (by rw [e]; simp)
    simp only at h2 ⊢
    obtain ⟨cs, h3, h4⟩ := Option.bind_eq_some_iff.1 h2
    have h3' : cellsAt (H.set bU c) i (off + cap * es') = some cs := by
      rw [cellsAt_if, List.getElem?_set_ne (Ne.symm hi), ← cellsAt_if]; exact h3
    rw [h3']
    simp only [Option.bind_some]
    by_cases k1 : es' = es ∧ len ≤ cap ∧ (len + n) * b ≤ roomMax ∧ len + n ≤ maxLen
    case neg => rw [if_neg k1] at h4; cases h4
    rw [if_pos k1] at h4 ⊢
    by_cases k2 : len + n ≤ cap
    · rw [if_pos k2] at h4 ⊢; cases h4; rw [List.set_comm _ _ (Ne.symm hi)]
    · rw [if_neg k2] at h4 ⊢
      by_cases k3 : off = 0 ∧ 0 < es
      · rw [if_pos k3] at h4 ⊢; cases h4; rw [List.set_comm _ _ (Ne.symm hi)]
      · rw [if_neg k3] at h4; cases h4
  | _ => cases h2
theorem All3_fl {α : Type} {mk : α → List GV} {h : Heap} {css : List (List GV)} {xs : List α} {Rs : List (List Nat)} (ha : All3 (RFl mk h) css xs Rs) : css.flatten = xs.flatMap mk ∧ Rs.flatten = [] := by
  induction ha with
  | nil => exact ⟨rfl, rfl⟩
  | cons a _ ih =>
    obtain ⟨rfl, rfl⟩ := a
    exact ⟨by rw [List.flatten_cons, ih.1]; rfl, by rw [List.flatten_cons, ih.2]; rfl⟩
theorem rFl_some {α : Type} {mk : α → List GV} {h : Heap} {v : GV} {xs : List α} {R : List Nat} (he : RSl 1 (RFl mk) h [v] xs R) (hne : 0 < xs.length) : ∃ b, v = .sl b 0 xs.length xs.length 1 ∧ h[b]? = some (xs.flatMap mk) ∧ R = [b] := by
  rcases he with ⟨rfl, _, _⟩ | ⟨b, css, Rs, hv, hb, ha, rfl⟩
  · cases hne
  · injection hv with hv
    obtain ⟨e1, e2⟩ := All3_fl ha
    exact ⟨b, hv, by rw [hb, e1], by rw [e2]⟩
theorem cut_flat {α : Type} {mk : α → List GV} (hl : ∀ x, (mk x).length = 1) {xs : List α} (hne : 0 < xs.length) : ∃ pre, pre.length = 1 ∧ xs.flatMap mk = pre ++ (xs.drop 1).flatMap mk := by
  cases xs with
  | nil => cases hne
  | cons x xs => exact ⟨mk x, hl x, rfl⟩
theorem ksl_1 {bl m : Nat} (hm : 0 < m) : ksl 1 (.sl bl 0 m m 1) (some (.int .i64 1)) none none = some (.sl bl 1 (m - 1) (m - 1) 1) := by
  have h1 : (1 : Int) ≤ m := by omega
  simp [ksl, kslice, gslice, gopt, gint, h1]
theorem up_short {us : List (List Int)} {j : Nat} (hj : j < us.length) (hz : zInt64SS us ≤ 1048576) : us[j].length + 1 ≤ 1048576 := by
  unfold zInt64SS at hz
  have : us[j].length ≤ _ := sum_mem (c := fun x : List Int => zInt64S x) (List.getElem_mem hj)
  omega
theorem in_spec_no (i : Int) (m : Nat) (h : ¬ (0 ≤ i ∧ i < (m : Int))) : decide (0 ≤ i ∧ i ≤ (m : Int) - 1) = false := decide_eq_false (by omega)
theorem kapp_cell {z : List GV} {es b : Nat} {v x v' : GV} {H H' : Heap} (h : kapp z es b v x H = some (v', H')) : match v' with | .agg _ => False | .tup _ => False | _ => True := by
  unfold kapp at h
  obtain ⟨⟨n, new, l⟩, h1, h2⟩ := Option.bind_eq_some_iff.1 h
  simp only at h2
  split at h2
  case isFalse => cases h2
  cases v with
  | nils => simp only at h2; split at h2 <;> (cases h2; trivial)
  | emp => simp only at h2; split at h2 <;> (cases h2; trivial)
  | sl i off len cap es' =>
    simp only at h2
    obtain ⟨cs, h3, h4⟩ := Option.bind_eq_some_iff.1 h2
    split at h4
    case isFalse => cases h4
    split at h4
    · cases h4; trivial
    · split at h4
      · cases h4; trivial
      · cases h4
  | _ => cases h2
theorem kstore_inj {H H' : Heap} {b o t : Nat} {x : GV} {cells : List GV} (hb : H[b]? = some cells) (ho : o < t) (hx : x.cells = [x]) (hc : x.isCell = true) (hl : cells.length = t) (h : kstore 1 H (.ptr b o t) x = some H') : H' = H.set b (cells.set o x) := by
  rw [kstore_at hb hl ho hx hc] at h
  exact (Option.some.inj h).symm
theorem set_same {H : Heap} {b : Nat} {c : List GV} (h : H[b]? = some c) : H.set b c = H := by
  obtain ⟨hb, rfl⟩ := List.getElem?_eq_some_iff.1 h
  exact List.set_getElem_self hb
theorem ChainIn.narrowD {p lo : Nat} {a : ChainT} {H : Heap} {vS vD vU : GV} {RS RD RU : List Nat} (C : ChainIn p lo a H vS vD vU RS RD RU) {i : Nat} (hi : i < a.2.1.length) (hne : 0 < a.2.1[i].length) :
    ∃ b cells bl, vD = .sl b 0 a.2.1.length a.2.1.length 1 ∧ b ∈ RD ∧ H[b]? = some cells ∧ cells.length = a.2.1.length ∧ cells[i]? = some (.sl bl 0 a.2.1[i].length a.2.1[i].length 1) ∧ H[bl]? = some (a.2.1[i].flatMap cs) ∧ bl ∈ RD ∧ bl ≠ b ∧
      rChainO (H.set b (cells.set i (.sl bl 1 (a.2.1[i].length - 1) (a.2.1[i].length - 1) 1))) [vS, vD, vU] (a.1, a.2.1.set i (a.2.1[i].drop 1), a.2.2) (RS ++ (RD ++ RU)) := by
  have hU : RSl 1 rSo H [vD] a.2.1 RD := RSl.map (fun h => Or.inl h) C.d
  obtain ⟨b, css, c, r, hv, hb, fl, hcn, hc, fe, hE, hbr, hbR, hrR, nd0, hup⟩ := RSl.focus goodSo hU C.nd hi
  obtain ⟨b', css', c', r', hv', hb', hcn', hc', fe', hE', hbr', hbR', hrR', nd0', _⟩ := RSl.focus2 goodStringS C.d C.nd hi
  have eb : b' = b := by rw [hv] at hv'; injection hv' with h; exact h.symm
  rw [eb] at hv' hb' hbr' hbR'
  have ecss : css'.flatten = css.flatten := by rw [hb] at hb'; exact (Option.some.inj hb').symm
  -- the cells are one by one
  have one : ∀ (l : List (List GV)), (∀ c ∈ l, c.length = 1) → ∀ (k : Nat) (c : List GV), l[k]? = some c → ∃ g, c = [g] ∧ l.flatten[k]? = some g := by
    intro l hl k c hk
    obtain ⟨g, rfl⟩ := List.length_eq_one_iff.1 (hl c (List.mem_of_getElem? hk))
    have := css_get (es := 1) (off := 0) hl hk (by omega)
    simp only [Nat.mul_one, Nat.add_zero] at this
    exact ⟨g, rfl, this⟩
  obtain ⟨g, rfl, hg⟩ := one css fe i c hc
  obtain ⟨g', rfl, hg'⟩ := one css' fe' i c' hc'
  have eg : g' = g := by rw [ecss, hg] at hg'; exact (Option.some.inj hg').symm
  subst eg
  obtain ⟨bl, hgl, hbl, hr'⟩ := rFl_some hE' hne
  subst hgl
  have hblR : bl ∈ RD := hrR' bl (by rw [hr']; simp)
  have hblb : bl ≠ b := fun e => hbr' (by rw [hr', ← e]; simp)
  have hr : r = [bl] := by
    rcases hE with h | ⟨b2, pre, h1, h2, h3⟩
    · obtain ⟨b2, e1, _, e3⟩ := rFl_some h hne
      injection e1 with e1
      rw [e3, e1]
    · injection h1 with h1
      injection h1 with h1
      rw [h3, h1]
  have hlb := (List.getElem?_eq_some_iff.1 hb).1
  have e2 : (css.set i [.sl bl 1 (a.2.1[i].length - 1) (a.2.1[i].length - 1) 1]).flatten = css.flatten.set i (.sl bl 1 (a.2.1[i].length - 1) (a.2.1[i].length - 1) 1) := by
    have := css_set (es := 1) (off := 0) (v := .sl bl 1 (a.2.1[i].length - 1) (a.2.1[i].length - 1) 1) fe hc (by omega)
    simp only [Nat.mul_one, Nat.add_zero] at this
    rw [this]; rfl
  obtain ⟨pre, hp1, hp2⟩ := cut_flat (mk := cs) (fun _ => rfl) hne
  have hx : rSo (H.set b (css.flatten.set i (.sl bl 1 (a.2.1[i].length - 1) (a.2.1[i].length - 1) 1))) [.sl bl 1 (a.2.1[i].length - 1) (a.2.1[i].length - 1) 1] (a.2.1[i].drop 1) r :=
    Or.inr ⟨bl, pre, by rw [hp1, List.length_drop], by rw [List.getElem?_set_ne (Ne.symm hblb), hbl, hp2], hr⟩
  have hu := hup (H.set b (css.flatten.set i (.sl bl 1 (a.2.1[i].length - 1) (a.2.1[i].length - 1) 1))) _ _ (by rw [List.getElem?_set_self hlb, e2]) hx (fun k hk hkb hkr => List.getElem?_set_ne (Ne.symm hkb))
  have fr : Fr [b] H (H.set b (css.flatten.set i (.sl bl 1 (a.2.1[i].length - 1) (a.2.1[i].length - 1) 1))) := .set (by simp)
  refine ⟨b, css.flatten, bl, hv, hbR, hb, by rw [fl, Nat.mul_one], hg, hbl, hblR, hblb, ⟨[vS], [vD, vU], RS, RD ++ RU, rfl, rfl, goodServerS.keep C.s fr (fun k hk h => ?_), ⟨[vD], [vU], RD, RU, rfl, rfl, hu, RSl.map (fun h => Or.inl h) (goodInt64SS.keep C.u fr (fun k hk h => ?_))⟩⟩⟩
  · rw [List.mem_singleton] at h; exact C.sd k hk (h ▸ hbR)
  · rw [List.mem_singleton] at h; exact C.du k (h ▸ hbR) hk
/-- A new list is put at place i of what goes down. -/
theorem ChainIn.downSet {p lo : Nat} {a : ChainT} {H : Heap} {vS vD vU : GV} {RS RD RU : List Nat} (h : ChainIn p lo a H vS vD vU RS RD RU) {i : Nat} (hi : i < a.2.1.length) {v' : GV} {x' : List ByteArray} {R' : List Nat} {q : Nat} (hv' : rStringS H [v'] x' R') (nd' : R'.Nodup) (hb' : ∀ j ∈ R', q ≤ j) (hq : ∀ i, i ∈ RS ∨ i ∈ RD ∨ i ∈ RU → i < q) (hlq : lo ≤ q) (hpq : p < q) :
    ∃ b H5 RD', vD = .sl b 0 a.2.1.length a.2.1.length 1 ∧ b ∈ RD ∧ kstore 1 H (.ptr b i a.2.1.length) v' = some H5 ∧ ChainIn p lo (a.1, a.2.1.set i x', a.2.2) H5 vS vD vU RS RD' RU ∧ Fr RD H H5 ∧ (∀ i ∈ RD', i ∈ RD ∨ q ≤ i) := by
  obtain ⟨b, css, c, R1, hv, hb, hcn, hc, fe, E1, hbr, hbR, hrR, nd0, hup⟩ := RSl.focus2 goodStringS h.d h.nd hi
  obtain ⟨vL, rfl⟩ := List.length_eq_one_iff.1 (goodStringS.len E1)
  have hb0 : H[b]? = some (css.set i [vL]).flatten := by rw [set_get_self hc]; exact hb
  have vc := cell_of hv'
  obtain ⟨H5, s5, hb5, f5⟩ := st_leaf (es := 1) (off := 0) (o := i) (tot := a.2.1.length) (x := v') hb0 fe hcn hi rfl (by omega) vc.1 vc.2 (by omega) (by omega)
  have hbq : b < q := hq b (Or.inr (Or.inl hbR))
  have a2' := goodStringS.keep hv' f5 (fun j hj h' => by
    rw [List.mem_singleton] at h'
    have := hb' j hj
    omega)
  obtain ⟨RS', q1, q2, q3⟩ := hup H5 _ _ R' hb5 a2' nd' (fun j hj => Or.inr (fun h3 => by have := hq j (Or.inr (Or.inl h3)); have := hb' j hj; omega)) (fun j hj hjb hjr => f5.2 j (goodStringSS.mem h.d j hj) (by simpa using hjb))
  have fr : Fr RD H H5 := f5.sub (fun j hj => by rw [List.mem_singleton] at hj; rw [hj]; exact hbR)
  have hk : ∀ j ∈ RS', j ∈ RD ∨ q ≤ j := fun j hj => (q3 j hj).elim Or.inl (fun h2 => Or.inr (hb' j h2))
  exact ⟨b, H5, RS', hv, hbR, s5, h.withD q1 q2 hk fr hq hlq hpq, fr, hk⟩
theorem kstore_set {n b bU o t : Nat} {x : GV} {H H' : Heap} {c : List GV} (h : kstore n H (.ptr b o t) x = some H') (hb : b ≠ bU) : kstore n (H.set bU c) (.ptr b o t) x = some (H'.set bU c) := by
  rw [kstore_ptr] at h ⊢
  split at h
  case isFalse => cases h
  rename_i hc
  rw [if_pos hc]
  obtain ⟨cs, h1, h2⟩ := Option.bind_eq_some_iff.1 h
  rw [cellsAt_if] at h1 ⊢
  rw [List.getElem?_set_ne (Ne.symm hb), h1]
  simp only [Option.bind_some] at h2 ⊢
  split at h2
  · rename_i hl
    rw [if_pos hl]
    cases h2
    rw [List.set_comm _ _ (Ne.symm hb)]
  · cases h2
/-- A text list that is cut, in new memory. -/
theorem textsO_rel {bl : Nat} {pre : List GV} {ys : List ByteArray} {H : Heap} (hb : H[bl]? = some (pre ++ ys.flatMap cs)) (hp : pre.length = 1) (hm : ys.length ≤ 4194304) : ∃ v H' R, kF false HH fn.spec_l17Texts [.sl bl 1 ys.length ys.length 1] H = some (v, H') ∧ rStringS H' [v] ys R ∧ R.Nodup ∧ (∀ i ∈ R, H.length ≤ i) ∧ Fr [] H H' := by
  have hr : rSo H [.sl bl 1 ys.length ys.length 1] ys [bl] := Or.inr ⟨bl, pre, by rw [hp], hb, rfl⟩
  obtain ⟨g, h1, h2⟩ := goodSo.lend1 (by omega) hr
  have e : g = fzl true 1 cs ys := by have := h2; simp only [mStringS] at this; injection this with this; exact this.symm
  subst e
  obtain ⟨v', H', R, t, rest⟩ := texts_rel ys hm H
  refine ⟨v', H', R, ?_, rest⟩
  rw [kF_OO] at t ⊢
  simp only [bors_cons, bors_nil, h1, Option.bind_some, bor_cs] at t ⊢
  exact t
end Go.Proofs.Ytopmnigfklgnkaa.G
