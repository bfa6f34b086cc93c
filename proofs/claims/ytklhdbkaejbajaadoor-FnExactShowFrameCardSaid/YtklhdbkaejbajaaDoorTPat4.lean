/- Patches as numbers: the reference's gathering. -/
import Derived.Test.YtklhdbkaejbajaaDoorTPat3
namespace Go.Proofs.YtklhdbkaejbajaaDoor.G
open Go.RowKit Go.Lib
set_option linter.unusedVariables false
set_option linter.unusedSimpArgs false

theorem spec_cells (R : Type) (k : Nat) {p : Nat} {y0 : Chg} {K : List (Nat × List GV)} {l : List Int} (v1 v2 v4 : GV) {x : GV × Heap} (hs : St ((p, mChange true y0) :: K) l x) (hc : y0.2.2.length ≤ 60) (hl : l.length + 5 * y0.2.2.length ≤ 4194304) {m : Nat} (hm : y0.2.2.length < m) :
    ∃ y, (∀ G : KT4 R, S.spec_l10Numbers.l15 k G m v1 v2 x.1 v4 (.ptr p 0 3) (.int .i64 0) x.2 = G (.ext 2) v1 v2 y.1 v4 y.2) ∧ St ((p, mChange true y0) :: K) (l ++ y0.2.2.flatMap celN) y := by
  obtain ⟨cs, hcs⟩ : ∃ cs, cs = y0.2.2 := ⟨_, rfl⟩
  rw [← hcs] at hc hl hm ⊢
  have key := loop_inv (T := GV × Heap) (n := cs.length) (Inv := fun j y => St ((p, mChange true y0) :: K) (l ++ (cs.take j).flatMap celN) y)
    (f := fun r j y (G : KT4 R) => S.spec_l10Numbers.l15 k G r v1 v2 y.1 v4 (.ptr p 0 3) (.int .i64 (j : Int)) y.2) (A := fun y G => G (.ext 2) v1 v2 y.1 v4 y.2)
    (fun j r y hj hi2 => ?_) (fun r y hi2 => ?_) (s := x) (by simpa using hs) hm
  · obtain ⟨y, e, h⟩ := key
    rw [List.take_length] at h
    exact ⟨y, fun G => congrFun e G, h⟩
  · obtain ⟨v, H⟩ := y
    have g1 : (j : Int) < cs.length := by omega
    have w := wrap_succ (n := j) (by simp only [maxLen]; omega)
    have kn : klen (fzl true 7 (mCell true) cs) = some (.int .i64 (cs.length : Nat)) := klen_fzl
    have lc : ∀ H', H'[p]? = some (mChange true y0) → kload1 H' (.ptr p 2 3) = some (fzl true 7 (mCell true) cs) := fun H' h => by rw [(chg_var h).2.2, hcs]
    have lcH := lc H (hi2.2 _ (List.mem_cons_self ..)).1
    have ki : kia 7 (fzl true 7 (mCell true) cs) (.int .i64 (j : Int)) = some (elp true (mCell true) cs j) := by rw [kia_Cell, if_pos ⟨by omega, g1⟩]; simp
    have ld : kloadA 7 H (elp true (mCell true) cs j) = some (.agg (mCell true cs[j])) := by rw [kloadA_Cell, get_of hj]; rfl
    have vn : kstore 7 (H ++ [z7]) (.ptr H.length 0 7) (.agg (mCell true cs[j])) = some (H ++ [mCell true cs[j]]) := var_new rfl rfl rfl
    have h1 := hi2.new (mCell true cs[j])
    obtain ⟨H1, hH1⟩ : ∃ H1, H1 = H ++ [mCell true cs[j]] := ⟨_, rfl⟩
    rw [← hH1] at vn h1
    have hb := (h1.2 _ (List.mem_cons_self ..)).1
    obtain ⟨l0, l1, l2, l6, lA⟩ := cel_var hb
    have kf : kN NN fn.spec_l10Flags [.agg (mStyle true cs[j].2.1)] H1 = some (.int .i64 (flagsM cs[j].2.1)) := kN_at (by simp) (spec_l10Flags_spec _)
    have hlen := celN_len (cs.take j)
    rw [List.length_take, Nat.min_eq_left (by omega)] at hlen
    obtain ⟨v', H', a1, a2⟩ := h1.add (celN cs[j]) (by rw [List.length_append, hlen]; show _ + 5 ≤ _; omega)
    have a1' : kapp [.int .i64 0] 1 8 v (.sl H1.length 0 5 5 1) (H1 ++ [[.int .i64 cs[j].1, .int .i64 cs[j].2.1.1, .int .i64 cs[j].2.1.2.1, .int .i64 (flagsM cs[j].2.1), .int .i64 cs[j].2.2]]) = some (v', H') := a1
    have gf := gf5 (a := cs[j].1) (b := cs[j].2.1.1) (c := cs[j].2.1.2.1) (d := flagsM cs[j].2.1) (e := cs[j].2.2)
    refine ⟨(v', H'), funext fun G => ?_, ?_⟩
    · generalize fzl true 7 (mCell true) cs = V at *
      generalize GV.agg (mCell true cs[j]) = C at *
      generalize GV.agg (mStyle true cs[j].2.1) = D at *
      generalize GV.int .i64 cs[j].1 = x1 at *
      generalize GV.int .i64 cs[j].2.1.1 = x2 at *
      generalize GV.int .i64 cs[j].2.1.2.1 = x3 at *
      generalize GV.int .i64 (flagsM cs[j].2.1) = x4 at *
      generalize GV.int .i64 cs[j].2.2 = x5 at *
      simp [S.spec_l10Numbers.l15, g1, lcH, kn, ki, ld, vn, l0, l1, l2, l6, lA, kf, gf, a1', w, kbs_eq, -kN_eq, -kstore_ptr, -kload1_ptr, -kloadA_ptr]
    · rw [take_snoc hj, ← List.append_assoc]
      exact a2.drop
  · obtain ⟨v, H⟩ := y
    have kn : klen (fzl true 7 (mCell true) cs) = some (.int .i64 (cs.length : Nat)) := klen_fzl
    have lcH : kload1 H (.ptr p 2 3) = some (fzl true 7 (mCell true) cs) := by rw [(chg_var (hi2.2 _ (List.mem_cons_self ..)).1).2.2, hcs]
    funext G
    generalize fzl true 7 (mCell true) cs = V at *
    simp [S.spec_l10Numbers.l15, lcH, kn, -kload1_ptr]
/-- The reference's numbers of a patch. -/
theorem spec_l10Numbers_spec (p : Pat) (hc : p.2.2.length ≤ 400) (hr : p.2.2.all chgP = true) : NN fn.spec_l10Numbers [.agg (mPatch true p)] = some (fzl false 1 ci (patN p)) := by
  apply S.spec_l10Numbers.gives (k := p.2.2.length + 61)
  obtain ⟨k, hk⟩ : ∃ k, k = p.2.2.length + 61 := ⟨_, rfl⟩
  obtain ⟨cs, hcs⟩ : ∃ cs, cs = p.2.2 := ⟨_, rfl⟩
  rw [← hk]
  rw [← hcs] at hk hc hr
  have hbo : ∀ {Q : Type} (K : GV → Heap → Option Q), kbox (.agg (mPatch true p)) [] K = K (.ptr 0 0 3) [mPatch true p] := fun K => rfl
  have l0 : kload1 [mPatch true p] (.ptr 0 0 3) = some (.int .i64 p.1) := var_get (c := mPatch true p) rfl rfl
  have l1 : kload1 [mPatch true p] (.ptr 0 1 3) = some (.int .i64 p.2.1) := var_get (c := mPatch true p) rfl rfl
  have gf := gf2 (a := p.1) (b := p.2.1)
  have kn : klen (fzl true 3 (mChange true) cs) = some (.int .i64 (cs.length : Nat)) := klen_fzl
  have lp : ∀ H, H[0]? = some (mPatch true p) → kload1 H (.ptr 0 2 3) = some (fzl true 3 (mChange true) cs) := fun H h => by rw [var_get (n := 3) h rfl, hcs]; rfl
  have s0 : St [(0, mPatch true p)] [p.1, p.2.1] (.sl 1 0 2 2 1, [mPatch true p, [.int .i64 p.1, .int .i64 p.2.1]]) := ⟨.inr ⟨1, rfl, rfl⟩, fun q hq => by
    rw [List.mem_singleton] at hq
    subst hq
    exact ⟨rfl, by simp [kblk]⟩⟩
  have key := loop_inv (T := GV × Heap) (n := cs.length) (Inv := fun j y => St [(0, mPatch true p)] ([p.1, p.2.1] ++ (cs.take j).flatMap chgN) y)
    (f := fun r j y (G : KT2 GV) => S.spec_l10Numbers.l6 k G r (.ptr 0 0 3) .nils y.1 (.int .i64 (j : Int)) y.2) (A := fun y G => G (.ext 0) .nils y.1 y.2)
    (fun j r y hj hi2 => ?_) (fun r y hi2 => ?_) (s := (.sl 1 0 2 2 1, [mPatch true p, [.int .i64 p.1, .int .i64 p.2.1]])) (by simpa using s0) (m := k) (by omega)
  · obtain ⟨⟨v, H⟩, e, h⟩ := key
    rw [List.take_length] at h
    have h' : BufG ci v (patN p) H := by have := h.1; rw [hcs] at this; exact this
    have e' := fun G => congrFun e G
    obtain ⟨r2, hf⟩ := h'.frz (fun _ => rfl) (d := 8) (fun a _ => Frz.ci)
    have fin : finN v H = some (fzl false 1 ci (patN p)) := finN_of hf
    simp only at e'
    generalize mPatch true p = C at *
    generalize fzl false 1 ci (patN p) = W at *
    generalize GV.int .i64 p.1 = x1 at *
    generalize GV.int .i64 p.2.1 = x2 at *
    simp [S.spec_l10Numbers.run, hbo, l0, l1, gf, kbs_eq, -kN_eq, -kbox_agg, -kload1_ptr]
    exact (e' _).trans (by simp [fin])
  · obtain ⟨v, H⟩ := y
    have g1 : (j : Int) < cs.length := by omega
    have w := wrap_succ (n := j) (by simp only [maxLen]; omega)
    have lpH := lp H (hi2.2 _ (List.mem_cons_self ..)).1
    have ki : kia 3 (fzl true 3 (mChange true) cs) (.int .i64 (j : Int)) = some (elp true (mChange true) cs j) := by rw [kia_Change, if_pos ⟨by omega, g1⟩]; simp
    have ld : kloadA 3 H (elp true (mChange true) cs j) = some (.agg (mChange true cs[j])) := by rw [kloadA_Change, get_of hj]; rfl
    have vn : kstore 3 (H ++ [[.int .i64 0, .int .i64 0, .nils]]) (.ptr H.length 0 3) (.agg (mChange true cs[j])) = some (H ++ [mChange true cs[j]]) := var_new rfl rfl (chg_cell _)
    have h1 := hi2.new (mChange true cs[j])
    obtain ⟨H1, hH1⟩ : ∃ H1, H1 = H ++ [mChange true cs[j]] := ⟨_, rfl⟩
    rw [← hH1] at vn h1
    obtain ⟨m0, m1, m2⟩ := chg_var (h1.2 _ (List.mem_cons_self ..)).1
    have kn' := klen_fzl (t := true) (es := 7) (mk := mCell true) (xs := cs[j].2.2)
    have hrj : (cs.take j).all chgP = true := by
      rw [List.all_eq_true] at hr ⊢
      exact fun x hx => hr x (List.mem_of_mem_take hx)
    have hrc : chgP cs[j] = true := List.all_eq_true.1 hr _ (List.getElem_mem hj)
    have hlc := chgP_len hrc
    have hlen := chgN_len hrj
    rw [List.length_take, Nat.min_eq_left (by omega)] at hlen
    obtain ⟨v1, H2, a1, a2⟩ := h1.add [cs[j].1, cs[j].2.1, (cs[j].2.2.length : Int)] (by rw [List.length_append]; show 2 + _ + 3 ≤ _; omega)
    have a1' : kapp [.int .i64 0] 1 8 v (.sl H1.length 0 3 3 1) (H1 ++ [[.int .i64 cs[j].1, .int .i64 cs[j].2.1, .int .i64 (cs[j].2.2.length : Nat)]]) = some (v1, H2) := a1
    have gf3' := gf3 (a := cs[j].1) (b := cs[j].2.1) (c := (cs[j].2.2.length : Int))
    have hL : ([p.1, p.2.1] ++ (cs.take j).flatMap chgN ++ [cs[j].1, cs[j].2.1, (cs[j].2.2.length : Int)]).length = 2 + ((cs.take j).flatMap chgN).length + 3 := by rw [List.length_append, List.length_append]; rfl
    obtain ⟨⟨v9, H9⟩, e, b1⟩ := spec_cells GV k (.ptr 0 0 3) .nils (.int .i64 (j : Int)) a2 hlc.2 (by rw [hL]; omega) (m := k) (by omega)
    refine ⟨(v9, H9), funext fun G => ?_, ?_⟩
    · simp only at e
      generalize fzl true 3 (mChange true) cs = V at *
      generalize GV.agg (mChange true cs[j]) = C at *
      generalize fzl true 7 (mCell true) cs[j].2.2 = D at *
      generalize GV.int .i64 (cs[j].2.2.length : Nat) = NL at *
      generalize GV.int .i64 cs[j].1 = x1 at *
      generalize GV.int .i64 cs[j].2.1 = x2 at *
      simp [S.spec_l10Numbers.l6, g1, lpH, kn, ki, ld, vn, m0, m1, m2, kn', gf3', a1', kbs_eq, e, w, -kN_eq, -kstore_ptr, -kload1_ptr, -kloadA_ptr]
    · rw [take_snoc hj]
      have := b1.drop
      rw [List.append_assoc, List.append_assoc] at this
      exact this
  · obtain ⟨v, H⟩ := y
    have lpH := lp H (hi2.2 _ (List.mem_cons_self ..)).1
    funext G
    generalize fzl true 3 (mChange true) cs = V at *
    simp [S.spec_l10Numbers.l6, lpH, kn, -kload1_ptr]

end Go.Proofs.YtklhdbkaejbajaaDoor.G
