/- Chains in new memory, and in variables that are changed at one place. Functions that change a copy of a chain. Lists of which the first element is cut -/
import Derived.Test.YtlbnioapepelnaaZc519251f
import Derived.Test.YtlbnioapepelnaaZ6d355dce
import Derived.Test.YtlbnioapepelnaaZ39430fd3
set_option linter.unusedSimpArgs false
set_option linter.unusedVariables false
namespace Go.Proofs.Ytlbnioapepelnaa.G
open Go.RowKit

abbrev ChainT := CServers × List (List ByteArray) × List (List Int)
theorem clone_split : ksplit HH fn.slices_Clone_string = true := by
  have h1 : HH fn.slices_Clone_string [.nils] [] = some (.nils, []) := kω_of ((S.slices_Clone_string.run_eq 0 .nils [] finH).trans (by kernel_rfl))
  have h2 : HH fn.slices_Clone_string [.fz true 0 1 []] [] = some (.emp, []) := kω_of ((S.slices_Clone_string.run_eq 0 (.fz true 0 1 []) [] finH).trans (by kernel_rfl))
  unfold ksplit
  rw [h1, h2]
theorem slices_Clone_string_spec (xs : List ByteArray) (hm : xs.length ≤ 4194304) (b : Nat) (h0 : xs.length ≠ 0) : OO fn.slices_Clone_string [fzl true 1 cs xs] b = some (.sl b 0 xs.length xs.length 1, [xs.flatMap cs]) := by
  apply S.slices_Clone_string.gives (k := 0)
  have hg : gbinop PP .eql 41 (.tmp 3) (.const (.slice none 0 0)) (fzl true 1 cs xs) .nils = some (.bool false) := by
    cases xs with
    | nil => exact absurd rfl h0
    | cons x xs => kernel_rfl
  simp [S.slices_Clone_string.run, hg, kapp_emp (mk := cs) (es := 1) (b := 16) (z := [.str { data := #[] }]) (fun _ => rfl) (fun _ => rfl) rfl (by omega) hm, h0]
  have hl : (xs.flatMap cs).length = xs.length * 1 := len_flat (mk := cs) (es := 1) (fun _ => rfl) xs
  rw [finO_sl_pl (cs := xs.flatMap cs) (by simp) hl (Nat.le_refl _) (by rw [List.take_of_length_le (by omega)]; exact all_flat (fun _ => rfl) xs)]
  rw [List.take_of_length_le (by omega)]
theorem clone_call {v : GV} (xs : List ByteArray) (hm : xs.length ≤ 4194304) (H : Heap) (hv : ∃ R, bor 9 H v = some (fzl true 1 cs xs, R)) : kF true HH fn.slices_Clone_string [v] H = if xs.length = 0 then some (.emp, H) else some (.sl H.length 0 xs.length xs.length 1, H ++ [xs.flatMap cs]) := by
  obtain ⟨R, hv⟩ := hv
  unfold kF
  simp only [bors_cons, hv, bors_nil, Option.bind_some]
  by_cases h0 : xs.length = 0
  · have : xs = [] := List.eq_nil_of_length_eq_zero h0
    subst this
    simp [emptyArg, mt, clone_split]
  · rw [if_neg h0]
    have he : emptyArg [fzl true 1 cs xs] = false := by
      cases xs with
      | nil => exact absurd rfl h0
      | cons x xs => rfl
    rw [he]
    simp only [Bool.and_false, cond_false]
    have := slices_Clone_string_spec xs hm H.length h0
    have h2 : (HH fn.slices_Clone_string [fzl true 1 cs xs] []).bind (fun r => (ownOk r H.length).bind fun q => some (q.1, H ++ q.2)) = ((HH fn.slices_Clone_string [fzl true 1 cs xs] []).bind fun r => ownOk r H.length).bind fun q => some (q.1, H ++ q.2) := by rw [Option.bind_assoc]
    rw [h2]
    show (OO fn.slices_Clone_string [fzl true 1 cs xs] H.length).bind _ = _
    rw [this]
    rfl
theorem rStringS_new {xs : List ByteArray} {H : Heap} {b : Nat} (h : H[b]? = some (xs.flatMap cs)) : rStringS H [.sl b 0 xs.length xs.length 1] xs [b] := by
  refine Or.inr ⟨b, xs.map cs, xs.map fun _ => [], rfl, by rw [h, List.flatMap_def], ?_, ?_⟩
  · clear h
    induction xs with
    | nil => exact .nil
    | cons x xs ih => exact .cons ⟨rfl, rfl⟩ ih
  · have : (xs.map fun _ => ([] : List Nat)).flatten = [] := by
      clear h
      induction xs with
      | nil => rfl
      | cons x xs ih => rw [List.map_cons, List.flatten_cons, ih]; rfl
    rw [this]
theorem rStringS_emp {H : Heap} : rStringS H [.emp] [] [] := Or.inl ⟨rfl, rfl, Or.inl rfl⟩
theorem clone_rel (xs : List ByteArray) (hm : xs.length ≤ 4194304) (H : Heap) : ∃ v H' R, kF true HH fn.slices_Clone_string [fzl true 1 cs xs] H = some (v, H') ∧ rStringS H' [v] xs R ∧ R.Nodup ∧ (∀ i ∈ R, H.length ≤ i) ∧ Fr [] H H' := by
  have hk := clone_call (v := fzl true 1 cs xs) xs hm H ⟨_, bor_cs⟩
  by_cases h0 : xs.length = 0
  · rw [if_pos h0] at hk
    have hz := List.eq_nil_of_length_eq_zero h0
    subst hz
    exact ⟨_, _, [], hk, rStringS_emp, List.nodup_nil, fun i hi => (by cases hi), .refl⟩
  · rw [if_neg h0] at hk
    exact ⟨_, _, _, hk, rStringS_new (b := H.length) (by simp), by simp, fun i hi => by rw [List.mem_singleton] at hi; omega, .app⟩
theorem texts_rel (xs : List ByteArray) (hm : xs.length ≤ 4194304) (H : Heap) : ∃ v H' R, kF false HH fn.spec_l17Texts [fzl true 1 cs xs] H = some (v, H') ∧ rStringS H' [v] xs R ∧ R.Nodup ∧ (∀ i ∈ R, H.length ≤ i) ∧ Fr [] H H' := by
  have hk := spec_l17Texts_spec xs hm H.length
  by_cases h0 : xs.length = 0
  · rw [if_pos h0] at hk
    have hz := List.eq_nil_of_length_eq_zero h0
    subst hz
    exact ⟨.emp, H, [], by simp only [fzl_nil] at hk; simp [hk], rStringS_emp, List.nodup_nil, fun i hi => (by cases hi), .refl⟩
  · rw [if_neg h0] at hk
    exact ⟨.sl H.length 0 xs.length xs.length 1, H ++ [xs.flatMap cs], [H.length], by simp [hk], rStringS_new (b := H.length) (by simp), by simp, fun i hi => by rw [List.mem_singleton] at hi; omega, .app⟩
theorem clone_splitI : ksplit HH fn.slices_Clone_int64 = true := by
  have h1 : HH fn.slices_Clone_int64 [.nils] [] = some (.nils, []) := kω_of ((S.slices_Clone_int64.run_eq 0 .nils [] finH).trans (by kernel_rfl))
  have h2 : HH fn.slices_Clone_int64 [.fz true 0 1 []] [] = some (.emp, []) := kω_of ((S.slices_Clone_int64.run_eq 0 (.fz true 0 1 []) [] finH).trans (by kernel_rfl))
  unfold ksplit
  rw [h1, h2]
theorem slices_Clone_int64_spec (xs : List Int) (hm : xs.length ≤ 4194304) (b : Nat) (h0 : xs.length ≠ 0) : OO fn.slices_Clone_int64 [fzl true 1 ci xs] b = some (.sl b 0 xs.length xs.length 1, [xs.flatMap ci]) := by
  apply S.slices_Clone_int64.gives (k := 0)
  have hg : gbinop PP .eql 55 (.tmp 3) (.const (.slice none 0 0)) (fzl true 1 ci xs) .nils = some (.bool false) := by
    cases xs with
    | nil => exact absurd rfl h0
    | cons x xs => kernel_rfl
  simp [S.slices_Clone_int64.run, hg, kapp_emp (mk := ci) (es := 1) (b := 8) (z := [.int .i64 0]) (fun _ => rfl) (fun _ => rfl) rfl (by omega) hm, h0]
  have hl : (xs.flatMap ci).length = xs.length * 1 := len_flat (mk := ci) (es := 1) (fun _ => rfl) xs
  rw [finO_sl_pl (cs := xs.flatMap ci) (by simp) hl (Nat.le_refl _) (by rw [List.take_of_length_le (by omega)]; exact all_flat (fun _ => rfl) xs)]
  rw [List.take_of_length_le (by omega)]
theorem clone_callI {v : GV} (xs : List Int) (hm : xs.length ≤ 4194304) (H : Heap) (hv : ∃ R, bor 9 H v = some (fzl true 1 ci xs, R)) : kF true HH fn.slices_Clone_int64 [v] H = if xs.length = 0 then some (.emp, H) else some (.sl H.length 0 xs.length xs.length 1, H ++ [xs.flatMap ci]) := by
  obtain ⟨R, hv⟩ := hv
  unfold kF
  simp only [bors_cons, hv, bors_nil, Option.bind_some]
  by_cases h0 : xs.length = 0
  · have : xs = [] := List.eq_nil_of_length_eq_zero h0
    subst this
    simp [emptyArg, mt, clone_splitI]
  · rw [if_neg h0]
    have he : emptyArg [fzl true 1 ci xs] = false := by
      cases xs with
      | nil => exact absurd rfl h0
      | cons x xs => rfl
    rw [he]
    simp only [Bool.and_false, cond_false]
    have := slices_Clone_int64_spec xs hm H.length h0
    have h2 : (HH fn.slices_Clone_int64 [fzl true 1 ci xs] []).bind (fun r => (ownOk r H.length).bind fun q => some (q.1, H ++ q.2)) = ((HH fn.slices_Clone_int64 [fzl true 1 ci xs] []).bind fun r => ownOk r H.length).bind fun q => some (q.1, H ++ q.2) := by rw [Option.bind_assoc]
    rw [h2]
    show (OO fn.slices_Clone_int64 [fzl true 1 ci xs] H.length).bind _ = _
    rw [this]
    rfl
theorem rNew {α : Type} {es : Nat} {mk : α → List GV} {xs : List α} {H : Heap} {b : Nat} (h : H[b]? = some (xs.flatMap mk)) : RSl es (RFl mk) H [.sl b 0 xs.length xs.length es] xs [b] := by
  refine Or.inr ⟨b, xs.map mk, xs.map fun _ => [], rfl, by rw [h, List.flatMap_def], ?_, ?_⟩
  · clear h
    induction xs with
    | nil => exact .nil
    | cons x xs ih => exact .cons ⟨rfl, rfl⟩ ih
  · have : (xs.map fun _ => ([] : List Nat)).flatten = [] := by
      clear h
      induction xs with
      | nil => rfl
      | cons x xs ih => rw [List.map_cons, List.flatten_cons, ih]; rfl
    rw [this]
theorem cloneI_rel (xs : List Int) (hm : xs.length ≤ 4194304) (H : Heap) : ∃ v H' R, kF true HH fn.slices_Clone_int64 [fzl true 1 ci xs] H = some (v, H') ∧ rInt64S H' [v] xs R ∧ R.Nodup ∧ (∀ i ∈ R, H.length ≤ i) ∧ Fr [] H H' := by
  have hk := clone_callI (v := fzl true 1 ci xs) xs hm H ⟨_, bor_ci⟩
  by_cases h0 : xs.length = 0
  · rw [if_pos h0] at hk
    have hz := List.eq_nil_of_length_eq_zero h0
    subst hz
    exact ⟨_, _, [], hk, Or.inl ⟨rfl, rfl, Or.inl rfl⟩, List.nodup_nil, fun i hi => (by cases hi), .refl⟩
  · rw [if_neg h0] at hk
    exact ⟨_, _, _, hk, rNew (b := H.length) (by simp), by simp, fun i hi => by rw [List.mem_singleton] at hi; omega, .app⟩
theorem appI_rel (xs : List Int) (hm : xs.length ≤ 4194304) (H : Heap) : ∃ v H' R, kapp [.int .i64 0] 1 8 .emp (fzl true 1 ci xs) H = some (v, H') ∧ rInt64S H' [v] xs R ∧ R.Nodup ∧ (∀ i ∈ R, H.length ≤ i) ∧ Fr [] H H' := by
  have hk := kapp_emp (mk := ci) (es := 1) (b := 8) (z := [.int .i64 0]) (t := true) (xs := xs) (h := H) (fun _ => rfl) (fun _ => rfl) rfl (by omega) hm
  by_cases h0 : xs.length = 0
  · rw [if_pos h0] at hk
    have hz := List.eq_nil_of_length_eq_zero h0
    subst hz
    exact ⟨_, _, [], hk, Or.inl ⟨rfl, rfl, Or.inl rfl⟩, List.nodup_nil, fun i hi => (by cases hi), .refl⟩
  · rw [if_neg h0] at hk
    exact ⟨_, _, _, hk, rNew (b := H.length) (by simp), by simp, fun i hi => by rw [List.mem_singleton] at hi; omega, .app⟩
structure ChainIn (p lo : Nat) (a : ChainT) (H : Heap) (vS vD vU : GV) (RS RD RU : List Nat) : Prop where
  cell : H[p]? = some [vS, vD, vU]
  s : rServerS H [vS] a.1 RS
  d : rStringSS H [vD] a.2.1 RD
  u : rInt64SS H [vU] a.2.2 RU
  ns : RS.Nodup
  nd : RD.Nodup
  nu : RU.Nodup
  sd : ∀ i ∈ RS, i ∉ RD
  su : ∀ i ∈ RS, i ∉ RU
  du : ∀ i ∈ RD, i ∉ RU
  ls : ∀ i ∈ RS, lo ≤ i
  ld : ∀ i ∈ RD, lo ≤ i
  lu : ∀ i ∈ RU, lo ≤ i
  ps : p ∉ RS
  pd : p ∉ RD
  pu : p ∉ RU
theorem ChainIn.grow {p lo : Nat} {a : ChainT} {H H' : Heap} {vS vD vU : GV} {RS RD RU : List Nat} (h : ChainIn p lo a H vS vD vU RS RD RU) (f : Fr [] H H') : ChainIn p lo a H' vS vD vU RS RD RU :=
  { h with cell := f.blk h.cell no_nil, s := goodServerS.keep h.s f (fun _ _ => no_nil), d := goodStringSS.keep h.d f (fun _ _ => no_nil), u := goodInt64SS.keep h.u f (fun _ _ => no_nil) }
theorem ChainIn.pushS {p lo : Nat} {a : ChainT} {H : Heap} {vS vD vU : GV} {RS RD RU : List Nat} (h : ChainIn p lo a H vS vD vU RS RD RU) {cx : List GV} {x : List ByteArray × Int} {Rx : List Nat} {q : Nat} (hx : rServer H cx x Rx) (nx : Rx.Nodup) (hb : ∀ i ∈ Rx, q ≤ i) (hq : ∀ i, i ∈ RS ∨ i ∈ RD ∨ i ∈ RU → i < q) (hlq : lo ≤ q) (hpq : p < q) (hqH : q ≤ H.length) (hn : a.1.length ≤ 4194304) :
    ∃ v' H4 H5 RS', kapp [.nils, .int .i64 0] 2 32 vS (.sl H.length 0 1 1 2) (H ++ [cx]) = some (v', H4) ∧ kstore 1 H4 (.ptr p 0 3) v' = some H5 ∧ ChainIn p lo (a.1 ++ [x], a.2) H5 v' vD vU RS' RD RU ∧ Fr (p :: RS) H H5 ∧ (∀ i ∈ RS', i ∈ RS ∨ q ≤ i) := by
  have bx : ∀ i ∈ Rx, i ∉ RS := fun i hi h' => by have := hb i hi; have := hq i (Or.inl h'); omega
  have p1 := h.ps
  have p2 := h.pd
  have p3 := h.pu
  have p4 : p ∉ Rx := fun h' => by have := hb p h'; omega
  obtain ⟨v', H4, H5, R', a1, a2, a3, a4, a5, a6, a7⟩ := push goodServer (by omega) (z := [.nils, .int .i64 0]) (b := 32) rfl (by omega) h.s h.ns hn hx nx bx (p := p) (o := 0) (n := 3) (C := [vS, vD, vU]) h.cell rfl (by omega) p1 p4
  have k5 : ∀ i ∈ R', i ∈ RS ∨ q ≤ i := fun i hi => by
    rcases a5 i hi with h' | h' | h'
    · exact Or.inl h'
    · exact Or.inr (hb i h')
    · exact Or.inr (by omega)
  refine ⟨v', H4, H5, R', a1, a2, ⟨a6, a3, goodStringSS.keep h.d a7 (fun i hi h' => ?_), goodInt64SS.keep h.u a7 (fun i hi h' => ?_), a4, h.nd, h.nu, fun i hi h' => ?_, fun i hi h' => ?_, h.du, fun i hi => ?_, h.ld, h.lu, fun h' => (k5 p h').elim p1 (fun h2 => by omega), p2, p3⟩, a7, k5⟩
  · rcases List.mem_cons.1 h' with e | h'
    · exact p2 (e ▸ hi)
    · exact h.sd i h' hi
  · rcases List.mem_cons.1 h' with e | h'
    · exact p3 (e ▸ hi)
    · exact h.su i h' hi
  · rcases k5 i hi with h2 | h2
    · exact h.sd i h2 h'
    · have := hq i (Or.inr (Or.inl h')); omega
  · rcases k5 i hi with h2 | h2
    · exact h.su i h2 h'
    · have := hq i (Or.inr (Or.inr h')); omega
  · rcases k5 i hi with h2 | h2
    · exact h.ls i h2
    · omega
theorem ChainIn.pushD {p lo : Nat} {a : ChainT} {H : Heap} {vS vD vU : GV} {RS RD RU : List Nat} (h : ChainIn p lo a H vS vD vU RS RD RU) {cx : List GV} {x : List ByteArray} {Rx : List Nat} {q : Nat} (hx : rStringS H cx x Rx) (nx : Rx.Nodup) (hb : ∀ i ∈ Rx, q ≤ i) (hq : ∀ i, i ∈ RS ∨ i ∈ RD ∨ i ∈ RU → i < q) (hlq : lo ≤ q) (hpq : p < q) (hqH : q ≤ H.length) (hn : a.2.1.length ≤ 4194304) :
    ∃ v' H4 H5 RD', kapp [.nils] 1 24 vD (.sl H.length 0 1 1 1) (H ++ [cx]) = some (v', H4) ∧ kstore 1 H4 (.ptr p 1 3) v' = some H5 ∧ ChainIn p lo (a.1, a.2.1 ++ [x], a.2.2) H5 vS v' vU RS RD' RU ∧ Fr (p :: RD) H H5 ∧ (∀ i ∈ RD', i ∈ RD ∨ q ≤ i) := by
  have bx : ∀ i ∈ Rx, i ∉ RD := fun i hi h' => by have := hb i hi; have := hq i (Or.inr (Or.inl h')); omega
  have p1 := h.ps
  have p2 := h.pd
  have p3 := h.pu
  have p4 : p ∉ Rx := fun h' => by have := hb p h'; omega
  obtain ⟨v', H4, H5, R', a1, a2, a3, a4, a5, a6, a7⟩ := push goodStringS (by omega) (z := [.nils]) (b := 24) rfl (by omega) h.d h.nd hn hx nx bx (p := p) (o := 1) (n := 3) (C := [vS, vD, vU]) h.cell rfl (by omega) p2 p4
  have k5 : ∀ i ∈ R', i ∈ RD ∨ q ≤ i := fun i hi => by
    rcases a5 i hi with h' | h' | h'
    · exact Or.inl h'
    · exact Or.inr (hb i h')
    · exact Or.inr (by omega)
  refine ⟨v', H4, H5, R', a1, a2, ⟨a6, goodServerS.keep h.s a7 (fun i hi h' => ?_), a3, goodInt64SS.keep h.u a7 (fun i hi h' => ?_), h.ns, a4, h.nu, fun i hi h' => ?_, h.su, fun i hi h' => ?_, h.ls, fun i hi => ?_, h.lu, p1, fun h' => (k5 p h').elim p2 (fun h2 => by omega), p3⟩, a7, k5⟩
  · rcases List.mem_cons.1 h' with e | h'
    · exact p1 (e ▸ hi)
    · exact h.sd i hi h'
  · rcases List.mem_cons.1 h' with e | h'
    · exact p3 (e ▸ hi)
    · exact h.du i h' hi
  · rcases k5 i h' with h2 | h2
    · exact h.sd i hi h2
    · have := hq i (Or.inl hi); omega
  · rcases k5 i hi with h2 | h2
    · exact h.du i h2 h'
    · have := hq i (Or.inr (Or.inr h')); omega
  · rcases k5 i hi with h2 | h2
    · exact h.ld i h2
    · omega
theorem ChainIn.pushU {p lo : Nat} {a : ChainT} {H : Heap} {vS vD vU : GV} {RS RD RU : List Nat} (h : ChainIn p lo a H vS vD vU RS RD RU) {cx : List GV} {x : List Int} {Rx : List Nat} {q : Nat} (hx : rInt64S H cx x Rx) (nx : Rx.Nodup) (hb : ∀ i ∈ Rx, q ≤ i) (hq : ∀ i, i ∈ RS ∨ i ∈ RD ∨ i ∈ RU → i < q) (hlq : lo ≤ q) (hpq : p < q) (hqH : q ≤ H.length) (hn : a.2.2.length ≤ 4194304) :
    ∃ v' H4 H5 RU', kapp [.nils] 1 24 vU (.sl H.length 0 1 1 1) (H ++ [cx]) = some (v', H4) ∧ kstore 1 H4 (.ptr p 2 3) v' = some H5 ∧ ChainIn p lo (a.1, a.2.1, a.2.2 ++ [x]) H5 vS vD v' RS RD RU' ∧ Fr (p :: RU) H H5 ∧ (∀ i ∈ RU', i ∈ RU ∨ q ≤ i) := by
  have bx : ∀ i ∈ Rx, i ∉ RU := fun i hi h' => by have := hb i hi; have := hq i (Or.inr (Or.inr h')); omega
  have p1 := h.ps
  have p2 := h.pd
  have p3 := h.pu
  have p4 : p ∉ Rx := fun h' => by have := hb p h'; omega
  obtain ⟨v', H4, H5, R', a1, a2, a3, a4, a5, a6, a7⟩ := push goodInt64S (by omega) (z := [.nils]) (b := 24) rfl (by omega) h.u h.nu hn hx nx bx (p := p) (o := 2) (n := 3) (C := [vS, vD, vU]) h.cell rfl (by omega) p3 p4
  have k5 : ∀ i ∈ R', i ∈ RU ∨ q ≤ i := fun i hi => by
    rcases a5 i hi with h' | h' | h'
    · exact Or.inl h'
    · exact Or.inr (hb i h')
    · exact Or.inr (by omega)
  refine ⟨v', H4, H5, R', a1, a2, ⟨a6, goodServerS.keep h.s a7 (fun i hi h' => ?_), goodStringSS.keep h.d a7 (fun i hi h' => ?_), a3, h.ns, h.nd, a4, h.sd, fun i hi h' => ?_, fun i hi h' => ?_, h.ls, h.ld, fun i hi => ?_, p1, p2, fun h' => (k5 p h').elim p3 (fun h2 => by omega)⟩, a7, k5⟩
  · rcases List.mem_cons.1 h' with e | h'
    · exact p1 (e ▸ hi)
    · exact h.su i hi h'
  · rcases List.mem_cons.1 h' with e | h'
    · exact p2 (e ▸ hi)
    · exact h.du i hi h'
  · rcases k5 i h' with h2 | h2
    · exact h.su i hi h2
    · have := hq i (Or.inl hi); omega
  · rcases k5 i h' with h2 | h2
    · exact h.du i hi h2
    · have := hq i (Or.inr (Or.inl hi)); omega
  · rcases k5 i hi with h2 | h2
    · exact h.lu i h2
    · omega
theorem ChainIn.bd {p lo : Nat} {a : ChainT} {H : Heap} {vS vD vU : GV} {RS RD RU : List Nat} (h : ChainIn p lo a H vS vD vU RS RD RU) : ∀ i, i ∈ RS ∨ i ∈ RD ∨ i ∈ RU → i < H.length := fun i hi => by
  rcases hi with hi | hi | hi
  · exact goodServerS.mem h.s i hi
  · exact goodStringSS.mem h.d i hi
  · exact goodInt64SS.mem h.u i hi
def CI (M Z : List GV) (a : ChainT) (H : Heap) : Prop := H[0]? = some M ∧ H[1]? = some Z ∧ ∃ vS vD vU RS RD RU, ChainIn 2 3 a H vS vD vU RS RD RU
theorem take_succ' {α : Type} {xs : List α} {j : Nat} (hj : j < xs.length) : xs.take j ++ [xs[j]] = xs.take (j + 1) := by rw [List.take_add_one, get_of hj]; rfl
theorem copied_l21 (xs : CServers) (ds : List (List ByteArray)) (us : List (List Int)) (hm : okChain (xs, ds, us)) (Z : List GV) {Q : Type} (k : Nat) (H : Heap) (h0 : CI (ChainCells xs ds us) Z ([], [], []) H) (r : Nat) (hr : xs.length < r) :
    ∃ H', (∀ (G : GX → GV → GV → GV → Heap → Option Q), S.impl_Chain_copied.l21 k G r (.ptr 0 0 3) (.ptr 1 0 3) (.ptr 2 0 3) (fzl true 2 (mServer true) xs) (.int .i64 (xs.length : Int)) (.int .i64 0) H = G (.ext 0) (.ptr 0 0 3) (.ptr 1 0 3) (.ptr 2 0 3) H') ∧ CI (ChainCells xs ds us) Z (xs, [], []) H' := by
  obtain ⟨⟨hx, hx'⟩, _⟩ := hm
  simp only at hx hx'
  refine Exists.elim (loop_inv (Inv := fun j => CI (ChainCells xs ds us) Z (xs.take j, [], [])) (f := fun r j H => fun (G : GX → GV → GV → GV → Heap → Option Q) => S.impl_Chain_copied.l21 k G r (.ptr 0 0 3) (.ptr 1 0 3) (.ptr 2 0 3) (fzl true 2 (mServer true) xs) (.int .i64 (xs.length : Int)) (.int .i64 (j : Int)) H) (A := fun H => fun G => G (.ext 0) (.ptr 0 0 3) (.ptr 1 0 3) (.ptr 2 0 3) H) (n := xs.length) ?_ ?_ h0 hr) (fun H' h => ⟨H', fun G => congrFun h.1 G, by have := h.2; rwa [List.take_length] at this⟩)
  · rintro j r H hj ⟨I0, I1, vS, vD, vU, RS, RD, RU, C⟩
    have g1 : (j : Int) < xs.length := by omega
    have kj := kadd1 (n := j) (by omega)
    have w5 : ¬ (H.length + 1 ≤ H.length) := by omega
    obtain ⟨H1, hH1⟩ : ∃ H1, H ++ [[fzl true 1 cs xs[j].1, .int .i64 xs[j].2]] = H1 := ⟨_, rfl⟩
    have f1 : Fr [] H H1 := by rw [← hH1]; exact .app
    have l1 : H1.length = H.length + 1 := by rw [← hH1]; simp
    have X1 : H1[H.length]? = some [fzl true 1 cs xs[j].1, .int .i64 xs[j].2] := by rw [← hH1]; simp
    have st : kstore 2 (H ++ [[.nils, .int .i64 0]]) (.ptr H.length 0 2) (.agg [fzl true 1 cs xs[j].1, .int .i64 xs[j].2]) = some H1 := by
      rw [var_at (n := 2) (z := [.nils, .int .i64 0]) (c := [fzl true 1 cs xs[j].1, .int .i64 xs[j].2]) rfl rfl (by simp), hH1]
    obtain ⟨v, H2, RL, t2, r2, n2, b2, f2⟩ := clone_rel xs[j].1 (by have := (hx' _ (List.getElem_mem hj)).1; omega) H1
    have vc := cell_of r2
    have e2 : rServer H2 [v, .int .i64 xs[j].2] xs[j] RL := ⟨[v], [.int .i64 xs[j].2], RL, [], rfl, by simp, r2, ⟨rfl, rfl⟩⟩
    have hl1 := f2.1
    have hl3 := (List.getElem?_eq_some_iff.1 C.cell).1
    obtain ⟨v', H4, H5, RS', a1, a2, C', a7, _⟩ := ((C.grow f1).grow f2).pushS e2 n2 b2 (fun i hi => by have := C.bd i hi; omega) (by omega) (by omega) hl1 (by rw [List.length_take]; omega)
    have hno : ∀ i, i < 2 → i ∉ 2 :: RS := fun i hi h => by
      rcases List.mem_cons.1 h with h | h
      · omega
      · have := C.ls i h; omega
    rw [take_succ' hj] at C'
    refine ⟨H5, funext fun G => ?_, a7.blk (f2.blk (f1.blk I0 no_nil) no_nil) (hno 0 (by omega)), a7.blk (f2.blk (f1.blk I1 no_nil) no_nil) (hno 1 (by omega)), v', vD, vU, RS', RD, RU, C'⟩
    have q2 := kload1_at (o := 0) (tot := 2) X1 rfl
    have q3 := kload1_at (o := 1) (tot := 2) (f2.blk X1 no_nil) rfl
    have q4 := kload1_at (o := 0) (tot := 3) (f1.blk C.cell no_nil) rfl
    simp only [S.impl_Chain_copied.l21]
    simp [g1, kj, get_of hj, st, q2, q3, q4, t2, gfill, zeros, vc.1, kbs_at, a1, a2, chk, meets, touches, l1, w5, -kF_OO, -kstore_ptr, -kload1_ptr, -kbin_add, -Int.natCast_add]
  · rintro r H _
    funext G
    simp only [S.impl_Chain_copied.l21]
    simp
theorem copied_l7 (xs : CServers) (ds : List (List ByteArray)) (us : List (List Int)) (hm : okChain (xs, ds, us)) (hdu : ds.length = us.length) (Z : List GV) {Q : Type} (k : Nat) (H : Heap) (h0 : CI (ChainCells xs ds us) Z (xs, [], []) H) (r : Nat) (hr : ds.length < r) :
    ∃ H', (∀ (G : GX → GV → GV → Heap → Option Q), S.impl_Chain_copied.l7 k G r (.ptr 0 0 3) (.ptr 1 0 3) (.ptr 2 0 3) (.int .i64 (ds.length : Int)) (.int .i64 0) H = G (.ext 2) (.ptr 1 0 3) (.ptr 2 0 3) H') ∧ CI (ChainCells xs ds us) Z (xs, ds, us) H' := by
  obtain ⟨_, ⟨hd, hd'⟩, ⟨hu, hu'⟩⟩ := hm
  simp only at hd hd' hu hu'
  refine Exists.elim (loop_inv (Inv := fun j => CI (ChainCells xs ds us) Z (xs, ds.take j, us.take j)) (f := fun r j H => fun (G : GX → GV → GV → Heap → Option Q) => S.impl_Chain_copied.l7 k G r (.ptr 0 0 3) (.ptr 1 0 3) (.ptr 2 0 3) (.int .i64 (ds.length : Int)) (.int .i64 (j : Int)) H) (A := fun H => fun G => G (.ext 2) (.ptr 1 0 3) (.ptr 2 0 3) H) (n := ds.length) ?_ ?_ h0 hr) (fun H' h => ⟨H', fun G => congrFun h.1 G, by have := h.2; rwa [List.take_length, hdu, List.take_length] at this⟩)
  · rintro j r H hj ⟨I0, I1, vS, vD, vU, RS, RD, RU, C⟩
    have ju : j < us.length := by omega
    have g1 : (j : Int) < ds.length := by omega
    have g2 : (j : Int) < us.length := by omega
    have kj := kadd1 (n := j) (by omega)
    have hl3 := (List.getElem?_eq_some_iff.1 C.cell).1
    have bd := C.bd
    obtain ⟨v, H1, Rx, t1, r1, n1, b1, f1⟩ := clone_rel ds[j] (by have := (hd' _ (List.getElem_mem hj)).1; omega) H
    have vc := cell_of r1
    have C1 := C.grow f1
    have hl1 := f1.1
    obtain ⟨v', H4, RD', a1, a2, a3, a4, a5, a6, a7⟩ := app_sl goodStringS (by omega) (z := [.nils]) (b := 24) rfl (by omega) (H := H1 ++ [[v]]) (goodStringSS.grow C1.d) C.nd (by rw [List.length_take]; omega) (goodStringS.grow r1) n1 (fun i hi h' => by have := b1 i hi; have := bd i (Or.inr (Or.inl h')); omega) (q := H1.length) (by simp)
    have l1 : (H1 ++ [[v]]).length = H1.length + 1 := by simp
    have hl4 := a5.1
    have C4c := a5.blk ((Fr.app (R := []) (t := [[v]])).blk C1.cell no_nil) (fun h' => by have := C.ld 2 h'; omega)
    have C4s := goodServerS.keep (goodServerS.grow (t := [[v]]) C1.s) a5 C.sd
    have C4u := goodInt64SS.keep (goodInt64SS.grow (t := [[v]]) C1.u) a5 (fun i hi h' => C.du i h' hi)
    obtain ⟨w, H6, Ry, t6, r6, n6, b6, f6⟩ := cloneI_rel us[j] (by have := (hu' _ (List.getElem_mem ju)); unfold okInt64S at this; omega) H4
    have wc := cell_of r6
    have hl6 := f6.1
    obtain ⟨w', H7, RU', e1, e2, e3, e4, e5, e6, e7⟩ := app_sl goodInt64S (by omega) (z := [.nils]) (b := 24) rfl (by omega) (H := H6 ++ [[w]]) (goodInt64SS.grow (goodInt64SS.keep C4u f6 (fun _ _ => no_nil))) C.nu (by rw [List.length_take]; omega) (goodInt64S.grow r6) n6 (fun i hi h' => by have := b6 i hi; have := bd i (Or.inr (Or.inr h')); omega) (q := H6.length) (by simp)
    have l6 : (H6 ++ [[w]]).length = H6.length + 1 := by simp
    have C7c := e5.blk ((Fr.app (R := []) (t := [[w]])).blk (f6.blk C4c no_nil) no_nil) (fun h' => by have := C.lu 2 h'; omega)
    have C7s := goodServerS.keep (goodServerS.grow (t := [[w]]) (goodServerS.keep C4s f6 (fun _ _ => no_nil))) e5 C.su
    have hRD4 := goodStringSS.mem a2
    have kD : ∀ i ∈ RD', i ∈ RD ∨ H.length ≤ i := fun i hi => by
      rcases a4 i hi with h | h | h
      · exact Or.inl h
      · exact Or.inr (b1 i h)
      · exact Or.inr (by omega)
    have kU : ∀ i ∈ RU', i ∈ RU ∨ H4.length ≤ i := fun i hi => by
      rcases e4 i hi with h | h | h
      · exact Or.inl h
      · exact Or.inr (b6 i h)
      · exact Or.inr (by omega)
    have dU : ∀ i ∈ RD', i ∉ RU := fun i hi h' => by
      rcases kD i hi with h | h
      · exact C.du i h h'
      · have := bd i (Or.inr (Or.inr h')); omega
    have C7d := goodStringSS.keep (goodStringSS.grow (t := [[w]]) (goodStringSS.keep a2 f6 (fun _ _ => no_nil))) e5 dU
    have s8 := kstore_at (o := 1) (tot := 3) C7c rfl (by omega) a6.1 a6.2
    have hl7 := (List.getElem?_eq_some_iff.1 C7c).1
    obtain ⟨H8, hH8⟩ : ∃ H8, H7.set 2 ([vS, vD, vU].set 1 v') = H8 := ⟨_, rfl⟩
    have f8 : Fr [2] H7 H8 := by rw [← hH8]; exact .set (by simp)
    have c8 : H8[2]? = some [vS, v', vU] := by rw [← hH8, List.getElem?_set_self hl7]; rfl
    rw [hH8] at s8
    have s9 := kstore_at (o := 2) (tot := 3) c8 rfl (by omega) e6.1 e6.2
    have hl8 := (List.getElem?_eq_some_iff.1 c8).1
    obtain ⟨H9, hH9⟩ : ∃ H9, H8.set 2 ([vS, v', vU].set 2 w') = H9 := ⟨_, rfl⟩
    have f9 : Fr [2] H8 H9 := by rw [← hH9]; exact .set (by simp)
    have c9 : H9[2]? = some [vS, v', w'] := by rw [← hH9, List.getElem?_set_self hl8]; rfl
    rw [hH9] at s9
    have f79 : Fr [2] H7 H9 := f8.trans f9
    have n2 : ∀ (R : List Nat), (∀ i ∈ R, 3 ≤ i) → ∀ i ∈ R, i ∉ [2] := fun R hR i hi h => by have := hR i hi; rw [List.mem_singleton] at h; omega
    have lD : ∀ i ∈ RD', 3 ≤ i := fun i hi => by
      rcases kD i hi with h | h
      · exact C.ld i h
      · omega
    have lU : ∀ i ∈ RU', 3 ≤ i := fun i hi => by
      rcases kU i hi with h | h
      · exact C.lu i h
      · omega
    have i07 : ∀ (i : Nat) (M : List GV), i < 2 → H[i]? = some M → H9[i]? = some M := fun i M hi hM =>
      f79.blk (e5.blk ((Fr.app (R := []) (t := [[w]])).blk (f6.blk (a5.blk ((Fr.app (R := []) (t := [[v]])).blk (f1.blk hM no_nil) no_nil) (fun h => by have := C.ld i h; omega)) no_nil) no_nil) (fun h => by have := C.lu i h; omega)) (fun h => by rw [List.mem_singleton] at h; omega)
    refine ⟨H9, funext fun G => ?_, i07 0 _ (by omega) I0, i07 1 _ (by omega) I1, vS, v', w', RS, RD', RU', ⟨c9, goodServerS.keep C7s f79 (n2 RS C.ls), ?_, ?_, C.ns, a3, e3, fun i hi h => ?_, fun i hi h => ?_, fun i hi h => ?_, C.ls, lD, lU, C.ps, fun h => by have := lD 2 h; omega, fun h => by have := lU 2 h; omega⟩⟩
    · have m0 : ∀ i, i < 3 → i ∉ kblk vD := fun i hi h => by
        rcases a7 with ⟨x, _, hx, _, hk⟩ | ⟨hk, _⟩
        · rw [hk, List.mem_singleton] at h; have := C.ld x hx; omega
        · rw [hk] at h; cases h
      have m1 := m0 0 (by omega)
      have m2 := m0 2 (by omega)
      have q1 := kload1_at (o := 1) (tot := 3) C.cell rfl
      have q2 := kload1_at (o := 2) (tot := 3) C4c rfl
      have I04 := a5.blk ((Fr.app (R := []) (t := [[v]])).blk (f1.blk I0 no_nil) no_nil) (fun h => by have := C.ld 0 h; omega)
      have q0 := kload1_at (o := 1) (tot := 3) I0 rfl
      have q3 := kload1_at (o := 2) (tot := 3) I04 rfl
      have z1 : ¬ (H.length ≤ 0) := by omega
      have z2 : ¬ (H.length ≤ 2) := by omega
      have z3 : ¬ (H1.length ≤ 0) := by omega
      have z4 : ¬ (H1.length ≤ 2) := by omega
      have z5 : ¬ (H1.length + 1 ≤ 2) := by omega
      have z6 : ¬ (H1.length = 0) := by omega
      have z7 : ¬ (H1.length = 2) := by omega
      simp only [S.impl_Chain_copied.l7]
      simp [g1, g2, kj, get_of hj, get_of ju, q0, q1, q2, q3, t1, t6, gfill, zeros, vc.1, wc.1, kbs_at, a1, e1, s8, s9, -kF_OO, -kstore_ptr, -kload1_ptr, -kbin_add, -Int.natCast_add]
      have zn : ¬ (H = []) := fun h => by rw [h] at hl3; simp at hl3
      have zh : ¬ (H4.length ≤ H1.length) := by omega
      rcases a7 with ⟨x, _, hx, _, hk⟩ | ⟨hk, _⟩
      · have x0 : ¬ (x = 0) := fun h => by have := C.ld x hx; omega
        have x2 : ¬ (x = 2) := fun h => by have := C.ld x hx; omega
        have x0' : ¬ (0 = x) := fun h => x0 h.symm
        have x2' : ¬ (2 = x) := fun h => x2 h.symm
        have x4 : ¬ (H4.length ≤ x) := by have := bd x (Or.inr (Or.inl hx)); omega
        simp [chk, meets, touches, z1, z2, z3, z4, z5, z6, z7, hk, zn, zh, x0, x2, x4, x0', x2']
      · simp [chk, meets, touches, z1, z2, z3, z4, z5, z6, z7, hk, zn, zh]
    · have := goodStringSS.keep C7d f79 (n2 RD' lD)
      rwa [take_succ' hj] at this
    · have := goodInt64SS.keep e2 f79 (n2 RU' lU)
      rwa [take_succ' ju] at this
    · rcases kD i h with h2 | h2
      · exact C.sd i hi h2
      · have := bd i (Or.inl hi); omega
    · rcases kU i h with h2 | h2
      · exact C.su i hi h2
      · have := bd i (Or.inl hi); omega
    · rcases kU i h with h2 | h2
      · exact dU i hi h2
      · have := hRD4 i hi; omega
  · rintro r H _
    funext G
    simp only [S.impl_Chain_copied.l7]
    simp
theorem spec_copy_l28 (xs : CServers) (ds : List (List ByteArray)) (us : List (List Int)) (hm : okChain (xs, ds, us)) (Z : List GV) {Q : Type} (k : Nat) (H : Heap) (h0 : CI (ChainCells xs ds us) Z ([], [], []) H) (r : Nat) (hr : xs.length < r) :
    ∃ H', (∀ (G : GX → GV → GV → GV → Heap → Option Q), S.spec_l17Copy.l28 k G r (.ptr 0 0 3) (.ptr 1 0 3) (.ptr 2 0 3) (.int .i64 0) H = G (.ext 0) (.ptr 0 0 3) (.ptr 1 0 3) (.ptr 2 0 3) H') ∧ CI (ChainCells xs ds us) Z (xs, [], []) H' := by
  obtain ⟨⟨hx, hx'⟩, ⟨hd, hd'⟩, ⟨hu, hu'⟩⟩ := hm
  simp only at hx hx' hd hd' hu hu'
  refine Exists.elim (loop_inv (Inv := fun j => CI (ChainCells xs ds us) Z (xs.take j, [], [])) (f := fun r j H => fun (G : GX → GV → GV → GV → Heap → Option Q) => S.spec_l17Copy.l28 k G r (.ptr 0 0 3) (.ptr 1 0 3) (.ptr 2 0 3) (.int .i64 (j : Int)) H) (A := fun H => fun G => G (.ext 0) (.ptr 0 0 3) (.ptr 1 0 3) (.ptr 2 0 3) H) (n := xs.length) ?_ ?_ h0 hr) (fun H' h => ⟨H', fun G => congrFun h.1 G, by have := h.2; rwa [List.take_length] at this⟩)
  · rintro j r H hj ⟨I0, I1, vS, vD, vU, RS, RD, RU, C⟩
    have g1 : (j : Int) < xs.length := by omega
    have kj := kadd1 (n := j) (by omega)
    obtain ⟨v, H2, RL, t2, r2, n2, b2, f2⟩ := texts_rel xs[j].1 (by have := (hx' _ (List.getElem_mem hj)).1; omega) H
    have vc := cell_of r2
    have e2 : rServer H2 [v, .int .i64 xs[j].2] xs[j] RL := ⟨[v], [.int .i64 xs[j].2], RL, [], rfl, by simp, r2, ⟨rfl, rfl⟩⟩
    have hl2 := f2.1
    have hl3 := (List.getElem?_eq_some_iff.1 C.cell).1
    obtain ⟨v', H4, H5, R', a1, a2, C', a7, _⟩ := (C.grow f2).pushS e2 n2 b2 C.bd (by omega) (by omega) hl2 (by rw [List.length_take]; omega)
    have hno : ∀ i, i < 2 → i ∉ 2 :: RS := fun i hi h => by
      rcases List.mem_cons.1 h with h | h
      · omega
      · have := C.ls i h; omega
    rw [take_succ' hj] at C'
    refine ⟨H5, funext fun G => ?_, a7.blk (f2.blk I0 no_nil) (hno 0 (by omega)), a7.blk (f2.blk I1 no_nil) (hno 1 (by omega)), _, _, _, _, _, _, C'⟩
    have q0 := kload1_at (o := 0) (tot := 3) I0 rfl
    have q1 := kload1_at (o := 0) (tot := 3) (f2.blk I0 no_nil) rfl
    have q4 := kload1_at (o := 0) (tot := 3) C.cell rfl
    have z1 : ¬ (H.length ≤ 0) := by omega
    have z2 : ¬ (H.length ≤ 2) := by omega
    have zn : ¬ (H = []) := fun h => by rw [h] at hl3; simp at hl3
    simp only [S.spec_l17Copy.l28]
    simp [g1, kj, get_of hj, q0, q1, q4, t2, gfill, zeros, vc.1, kbs_at, a1, a2, chk, meets, touches, z1, z2, zn, -kF_OO, -kstore_ptr, -kload1_ptr, -kbin_add, -Int.natCast_add]
  · rintro r H ⟨I0, _⟩
    have q0 := kload1_at (o := 0) (tot := 3) I0 rfl
    funext G
    simp only [S.spec_l17Copy.l28]
    simp [q0, -kload1_ptr]
theorem spec_copy_l18 (xs : CServers) (ds : List (List ByteArray)) (us : List (List Int)) (hm : okChain (xs, ds, us)) (Z : List GV) {Q : Type} (k : Nat) (H : Heap) (h0 : CI (ChainCells xs ds us) Z (xs, [], []) H) (r : Nat) (hr : ds.length < r) :
    ∃ H', (∀ (G : GX → GV → GV → GV → Heap → Option Q), S.spec_l17Copy.l18 k G r (.ptr 0 0 3) (.ptr 1 0 3) (.ptr 2 0 3) (.int .i64 0) H = G (.ext 2) (.ptr 0 0 3) (.ptr 1 0 3) (.ptr 2 0 3) H') ∧ CI (ChainCells xs ds us) Z (xs, ds, []) H' := by
  obtain ⟨⟨hx, hx'⟩, ⟨hd, hd'⟩, ⟨hu, hu'⟩⟩ := hm
  simp only at hx hx' hd hd' hu hu'
  refine Exists.elim (loop_inv (Inv := fun j => CI (ChainCells xs ds us) Z (xs, ds.take j, [])) (f := fun r j H => fun (G : GX → GV → GV → GV → Heap → Option Q) => S.spec_l17Copy.l18 k G r (.ptr 0 0 3) (.ptr 1 0 3) (.ptr 2 0 3) (.int .i64 (j : Int)) H) (A := fun H => fun G => G (.ext 2) (.ptr 0 0 3) (.ptr 1 0 3) (.ptr 2 0 3) H) (n := ds.length) ?_ ?_ h0 hr) (fun H' h => ⟨H', fun G => congrFun h.1 G, by have := h.2; rwa [List.take_length] at this⟩)
  · rintro j r H hj ⟨I0, I1, vS, vD, vU, RS, RD, RU, C⟩
    have g1 : (j : Int) < ds.length := by omega
    have kj := kadd1 (n := j) (by omega)
    obtain ⟨v, H2, RL, t2, r2, n2, b2, f2⟩ := texts_rel ds[j] (by have := (hd' _ (List.getElem_mem hj)).1; omega) H
    have vc := cell_of r2
    have e2 := r2
    have hl2 := f2.1
    have hl3 := (List.getElem?_eq_some_iff.1 C.cell).1
    obtain ⟨v', H4, H5, R', a1, a2, C', a7, _⟩ := (C.grow f2).pushD e2 n2 b2 C.bd (by omega) (by omega) hl2 (by rw [List.length_take]; omega)
    have hno : ∀ i, i < 2 → i ∉ 2 :: RD := fun i hi h => by
      rcases List.mem_cons.1 h with h | h
      · omega
      · have := C.ld i h; omega
    rw [take_succ' hj] at C'
    refine ⟨H5, funext fun G => ?_, a7.blk (f2.blk I0 no_nil) (hno 0 (by omega)), a7.blk (f2.blk I1 no_nil) (hno 1 (by omega)), _, _, _, _, _, _, C'⟩
    have q0 := kload1_at (o := 1) (tot := 3) I0 rfl
    have q1 := kload1_at (o := 1) (tot := 3) (f2.blk I0 no_nil) rfl
    have q4 := kload1_at (o := 1) (tot := 3) C.cell rfl
    have z1 : ¬ (H.length ≤ 0) := by omega
    have z2 : ¬ (H.length ≤ 2) := by omega
    have zn : ¬ (H = []) := fun h => by rw [h] at hl3; simp at hl3
    simp only [S.spec_l17Copy.l18]
    simp [g1, kj, get_of hj, q0, q1, q4, t2, gfill, zeros, vc.1, kbs_at, a1, a2, chk, meets, touches, z1, z2, zn, -kF_OO, -kstore_ptr, -kload1_ptr, -kbin_add, -Int.natCast_add]
  · rintro r H ⟨I0, _⟩
    have q0 := kload1_at (o := 1) (tot := 3) I0 rfl
    funext G
    simp only [S.spec_l17Copy.l18]
    simp [q0, -kload1_ptr]
theorem spec_copy_l8 (xs : CServers) (ds : List (List ByteArray)) (us : List (List Int)) (hm : okChain (xs, ds, us)) (Z : List GV) {Q : Type} (k : Nat) (H : Heap) (h0 : CI (ChainCells xs ds us) Z (xs, ds, []) H) (r : Nat) (hr : us.length < r) :
    ∃ H', (∀ (G : GX → GV → GV → Heap → Option Q), S.spec_l17Copy.l8 k G r (.ptr 0 0 3) (.ptr 1 0 3) (.ptr 2 0 3) (.int .i64 0) H = G (.ext 4) (.ptr 1 0 3) (.ptr 2 0 3) H') ∧ CI (ChainCells xs ds us) Z (xs, ds, us) H' := by
  obtain ⟨⟨hx, hx'⟩, ⟨hd, hd'⟩, ⟨hu, hu'⟩⟩ := hm
  simp only at hx hx' hd hd' hu hu'
  refine Exists.elim (loop_inv (Inv := fun j => CI (ChainCells xs ds us) Z (xs, ds, us.take j)) (f := fun r j H => fun (G : GX → GV → GV → Heap → Option Q) => S.spec_l17Copy.l8 k G r (.ptr 0 0 3) (.ptr 1 0 3) (.ptr 2 0 3) (.int .i64 (j : Int)) H) (A := fun H => fun G => G (.ext 4) (.ptr 1 0 3) (.ptr 2 0 3) H) (n := us.length) ?_ ?_ h0 hr) (fun H' h => ⟨H', fun G => congrFun h.1 G, by have := h.2; rwa [List.take_length] at this⟩)
  · rintro j r H hj ⟨I0, I1, vS, vD, vU, RS, RD, RU, C⟩
    have g1 : (j : Int) < us.length := by omega
    have kj := kadd1 (n := j) (by omega)
    obtain ⟨v, H2, RL, t2, r2, n2, b2, f2⟩ := appI_rel us[j] (by have := (hu' _ (List.getElem_mem hj)); unfold okInt64S at this; omega) H
    have vc := cell_of r2
    have e2 := r2
    have hl2 := f2.1
    have hl3 := (List.getElem?_eq_some_iff.1 C.cell).1
    obtain ⟨v', H4, H5, R', a1, a2, C', a7, _⟩ := (C.grow f2).pushU e2 n2 b2 C.bd (by omega) (by omega) hl2 (by rw [List.length_take]; omega)
    have hno : ∀ i, i < 2 → i ∉ 2 :: RU := fun i hi h => by
      rcases List.mem_cons.1 h with h | h
      · omega
      · have := C.lu i h; omega
    rw [take_succ' hj] at C'
    refine ⟨H5, funext fun G => ?_, a7.blk (f2.blk I0 no_nil) (hno 0 (by omega)), a7.blk (f2.blk I1 no_nil) (hno 1 (by omega)), _, _, _, _, _, _, C'⟩
    have q0 := kload1_at (o := 2) (tot := 3) I0 rfl
    have q1 := kload1_at (o := 2) (tot := 3) (f2.blk I0 no_nil) rfl
    have q4 := kload1_at (o := 2) (tot := 3) C.cell rfl
    have z1 : ¬ (H.length ≤ 0) := by omega
    have z2 : ¬ (H.length ≤ 2) := by omega
    have zn : ¬ (H = []) := fun h => by rw [h] at hl3; simp at hl3
    simp only [S.spec_l17Copy.l8]
    simp [g1, kj, get_of hj, q0, q1, q4, t2, gfill, zeros, vc.1, kbs_at, a1, a2, chk, meets, touches, z1, z2, zn, -kF_OO, -kstore_ptr, -kload1_ptr, -kbin_add, -Int.natCast_add]
  · rintro r H ⟨I0, _⟩
    have q0 := kload1_at (o := 2) (tot := 3) I0 rfl
    funext G
    simp only [S.spec_l17Copy.l8]
    simp [q0, -kload1_ptr]
theorem ChainIn.fin {p lo : Nat} {a : ChainT} {H : Heap} {vS vD vU : GV} {RS RD RU : List Nat} (h : ChainIn p lo a H vS vD vU RS RD RU) : rChain H [vS, vD, vU] a (RS ++ (RD ++ RU)) ∧ (RS ++ (RD ++ RU)).Nodup := by
  refine ⟨⟨[vS], [vD, vU], RS, RD ++ RU, rfl, rfl, h.s, ⟨[vD], [vU], RD, RU, rfl, rfl, h.d, h.u⟩⟩, ?_⟩
  rw [List.nodup_append, List.nodup_append]
  refine ⟨h.ns, ⟨h.nd, h.nu, fun i hi j hj e => h.du i hi (e ▸ hj)⟩, fun i hi j hj e => ?_⟩
  subst e
  rcases List.mem_append.1 hj with hj | hj
  · exact h.sd i hi hj
  · exact h.su i hi hj
theorem rChain_in {p lo : Nat} {a : ChainT} {H : Heap} {c : List GV} {R : List Nat} (hp : H[p]? = some c) (hr : rChain H c a R) (nd : R.Nodup) (hl : ∀ i ∈ R, lo ≤ i) (pl : p ∉ R) : ∃ vS vD vU RS RD RU, c = [vS, vD, vU] ∧ ChainIn p lo a H vS vD vU RS RD RU ∧ ∀ i, i ∈ RS ∨ i ∈ RD ∨ i ∈ RU → i ∈ R := by
  obtain ⟨c1, c2, R1, R2, rfl, rfl, hS, c3, c4, R3, R4, rfl, rfl, hD, hU⟩ := hr
  obtain ⟨vS, rfl⟩ := List.length_eq_one_iff.1 (goodServerS.len hS)
  obtain ⟨vD, rfl⟩ := List.length_eq_one_iff.1 (goodStringSS.len hD)
  obtain ⟨vU, rfl⟩ := List.length_eq_one_iff.1 (goodInt64SS.len hU)
  rw [List.nodup_append, List.nodup_append] at nd
  refine ⟨vS, vD, vU, R1, R3, R4, rfl, ⟨hp, hS, hD, hU, nd.1, nd.2.1.1, nd.2.1.2.1, fun i h1 h2 => nd.2.2 i h1 i (List.mem_append_left _ h2) rfl, fun i h1 h2 => nd.2.2 i h1 i (List.mem_append_right _ h2) rfl, fun i h1 h2 => nd.2.1.2.2 i h1 i h2 rfl, fun i h => hl i (by simp [h]), fun i h => hl i (by simp [h]), fun i h => hl i (by simp [h]), fun h => pl (by simp [h]), fun h => pl (by simp [h]), fun h => pl (by simp [h])⟩, fun i h => ?_⟩
  rcases h with h | h | h <;> simp [h]
theorem impl_Chain_copied_spec (a : ChainT) (hm : okChain a) (hdu : a.2.1.length = a.2.2.length) (b : Nat) : ∃ c bl, OO fn.impl_Chain_copied [.agg (mChain true a)] b = some (.agg c, bl) ∧ ∀ H T, H.length = b → rChain (H ++ bl ++ T) c a (List.range' b bl.length) := by
  obtain ⟨xs, ds, us⟩ := a
  obtain ⟨k, hk⟩ : ∃ k, 1048576 < k := ⟨1048577, by omega⟩
  have h0 : CI (ChainCells xs ds us) [.nils, .nils, .nils] ([], [], []) [ChainCells xs ds us, [.nils, .nils, .nils], [.nils, .nils, .nils]] :=
    ⟨rfl, rfl, .nils, .nils, .nils, [], [], [], ⟨rfl, Or.inl ⟨rfl, rfl, Or.inr rfl⟩, Or.inl ⟨rfl, rfl, Or.inr rfl⟩, Or.inl ⟨rfl, rfl, Or.inr rfl⟩, List.nodup_nil, List.nodup_nil, List.nodup_nil, fun i h => (by cases h), fun i h => (by cases h), fun i h => (by cases h), fun i h => (by cases h), fun i h => (by cases h), fun i h => (by cases h), no_nil, no_nil, no_nil⟩⟩
  obtain ⟨H1, e1, I1⟩ := copied_l21 (Q := GV × List (List GV)) xs ds us hm _ k _ h0 k (by have := hm.1.1; simp only at this; omega)
  obtain ⟨H2, e2, I2⟩ := copied_l7 (Q := GV × List (List GV)) xs ds us hm hdu _ k _ I1 k (by have := hm.2.1.1; simp only at this; omega)
  obtain ⟨A1, A2, vS, vD, vU, RS, RD, RU, C⟩ := I2
  have D1 := kload1_at (o := 1) (tot := 3) I1.1 rfl
  have l3 := kloadA_at (n := 3) C.cell rfl
  have hc : [vS, vD, vU].all GV.isCell = true := by simp [(cell_of C.s).2, (cell_of C.d).2, (cell_of C.u).2]
  have s3 := kstoreA_at (n := 3) A2 rfl (c' := [vS, vD, vU]) rfl hc
  have hl2 := (List.getElem?_eq_some_iff.1 A2).1
  obtain ⟨H3, hH3⟩ : ∃ H3, H2.set 1 [vS, vD, vU] = H3 := ⟨_, rfl⟩
  have f3 : Fr [1] H2 H3 := by rw [← hH3]; exact .set (by simp)
  rw [hH3] at s3
  have A3 : H3[1]? = some [vS, vD, vU] := by rw [← hH3, List.getElem?_set_self hl2]
  have l4 := kloadA_at (n := 3) A3 rfl
  obtain ⟨hr, nd⟩ := C.fin
  have hr3 := goodChain.keep hr f3 (fun i hi h => by
    rw [List.mem_singleton] at h
    subst h
    simp only [List.mem_append] at hi
    rcases hi with h | h | h
    · have := C.ls 1 h; omega
    · have := C.ld 1 h; omega
    · have := C.lu 1 h; omega)
  obtain ⟨c, bl, f1, f2⟩ := goodChain.finS (by omega) hr3 nd b
  refine ⟨c, bl, S.impl_Chain_copied.gives (k := k) ?_, f2⟩
  have e0 : S.impl_Chain_copied.run k (.agg (mChain true (xs, ds, us))) [] (finO b) = S.impl_Chain_copied.l21 k (fun x v1 v2 v3 h => kb 0 x fun x => kx x (S.impl_Chain_copied.n3 k (fun x v2 h => kend x ((kloadA 3 h v2).bind fun w2 => finO b w2 h)) v1 v2 v3 h) (kend x ((kloadA 3 h v2).bind fun w2 => finO b w2 h))) k (.ptr 0 0 3) (.ptr 1 0 3) (.ptr 2 0 3) (fzl true 2 (mServer true) xs) (.int .i64 (xs.length : Int)) (.int .i64 0) [ChainCells xs ds us, [.nils, .nils, .nils], [.nils, .nils, .nils]] := by
    simp [S.impl_Chain_copied.run, gfill]
  rw [e0, e1]
  simp [D1, e2, l3, s3, l4, f1, -kloadA_ptr, -kstore_ptr, -kload1_ptr]
theorem spec_l17Copy_spec (a : ChainT) (hm : okChain a) (b : Nat) : ∃ c bl, OO fn.spec_l17Copy [.agg (mChain true a)] b = some (.agg c, bl) ∧ ∀ H T, H.length = b → rChain (H ++ bl ++ T) c a (List.range' b bl.length) := by
  obtain ⟨xs, ds, us⟩ := a
  obtain ⟨k, hk⟩ : ∃ k, 1048576 < k := ⟨1048577, by omega⟩
  have h0 : CI (ChainCells xs ds us) [.nils, .nils, .nils] ([], [], []) [ChainCells xs ds us, [.nils, .nils, .nils], [.nils, .nils, .nils]] :=
    ⟨rfl, rfl, .nils, .nils, .nils, [], [], [], ⟨rfl, Or.inl ⟨rfl, rfl, Or.inr rfl⟩, Or.inl ⟨rfl, rfl, Or.inr rfl⟩, Or.inl ⟨rfl, rfl, Or.inr rfl⟩, List.nodup_nil, List.nodup_nil, List.nodup_nil, fun i h => (by cases h), fun i h => (by cases h), fun i h => (by cases h), fun i h => (by cases h), fun i h => (by cases h), fun i h => (by cases h), no_nil, no_nil, no_nil⟩⟩
  obtain ⟨H1, e1, I1⟩ := spec_copy_l28 (Q := GV × List (List GV)) xs ds us hm _ k _ h0 k (by have := hm.1.1; simp only at this; omega)
  obtain ⟨H2, e2, I2⟩ := spec_copy_l18 (Q := GV × List (List GV)) xs ds us hm _ k _ I1 k (by have := hm.2.1.1; simp only at this; omega)
  obtain ⟨H2', e2', I2'⟩ := spec_copy_l8 (Q := GV × List (List GV)) xs ds us hm _ k _ I2 k (by have := hm.2.2.1; simp only at this; omega)
  obtain ⟨A1, A2, vS, vD, vU, RS, RD, RU, C⟩ := I2'
  have l3 := kloadA_at (n := 3) C.cell rfl
  have hc : [vS, vD, vU].all GV.isCell = true := by simp [(cell_of C.s).2, (cell_of C.d).2, (cell_of C.u).2]
  have s3 := kstoreA_at (n := 3) A2 rfl (c' := [vS, vD, vU]) rfl hc
  have hl2 := (List.getElem?_eq_some_iff.1 A2).1
  obtain ⟨H3, hH3⟩ : ∃ H3, H2'.set 1 [vS, vD, vU] = H3 := ⟨_, rfl⟩
  have f3 : Fr [1] H2' H3 := by rw [← hH3]; exact .set (by simp)
  rw [hH3] at s3
  have A3 : H3[1]? = some [vS, vD, vU] := by rw [← hH3, List.getElem?_set_self hl2]
  have l4 := kloadA_at (n := 3) A3 rfl
  obtain ⟨hr, nd⟩ := C.fin
  have hr3 := goodChain.keep hr f3 (fun i hi h => by
    rw [List.mem_singleton] at h
    subst h
    simp only [List.mem_append] at hi
    rcases hi with h | h | h
    · have := C.ls 1 h; omega
    · have := C.ld 1 h; omega
    · have := C.lu 1 h; omega)
  obtain ⟨c, bl, f1, f2⟩ := goodChain.finS (by omega) hr3 nd b
  refine ⟨c, bl, S.spec_l17Copy.gives (k := k) ?_, f2⟩
  have s0 : kstore 3 [mChain true (xs, ds, us), [.nils, .nils, .nils], [.nils, .nils, .nils]] (.ptr 2 0 3) (.agg [.nils, .nils, .nils]) = some [mChain true (xs, ds, us), [.nils, .nils, .nils], [.nils, .nils, .nils]] := by simp
  simp [S.spec_l17Copy.run, gfill, s0, e1, e2, e2', l3, s3, l4, f1, -kloadA_ptr, -kstore_ptr, -kload1_ptr]

theorem ChainIn.withS {p lo : Nat} {a : ChainT} {H H' : Heap} {vS vD vU : GV} {RS RD RU : List Nat} (h : ChainIn p lo a H vS vD vU RS RD RU) {xs' : CServers} {RS' : List Nat} {q : Nat} (hs : rServerS H' [vS] xs' RS') (ns : RS'.Nodup) (hk : ∀ i ∈ RS', i ∈ RS ∨ q ≤ i) (f : Fr RS H H') (hq : ∀ i, i ∈ RS ∨ i ∈ RD ∨ i ∈ RU → i < q) (hlq : lo ≤ q) (hpq : p < q) : ChainIn p lo (xs', a.2) H' vS vD vU RS' RD RU :=
  ⟨f.blk h.cell h.ps, hs, goodStringSS.keep h.d f (fun i hi h' => h.sd i h' hi), goodInt64SS.keep h.u f (fun i hi h' => h.su i h' hi), ns, h.nd, h.nu,
    fun i hi h' => (hk i hi).elim (fun h2 => h.sd i h2 h') (fun h2 => by have := hq i (Or.inr (Or.inl h')); omega), fun i hi h' => (hk i hi).elim (fun h2 => h.su i h2 h') (fun h2 => by have := hq i (Or.inr (Or.inr h')); omega), h.du,
    fun i hi => (hk i hi).elim (h.ls i) (fun h2 => by omega), h.ld, h.lu, fun h' => (hk p h').elim h.ps (fun h2 => by omega), h.pd, h.pu⟩
theorem ChainIn.withD {p lo : Nat} {a : ChainT} {H H' : Heap} {vS vD vU : GV} {RS RD RU : List Nat} (h : ChainIn p lo a H vS vD vU RS RD RU) {ds' : List (List ByteArray)} {RD' : List Nat} {q : Nat} (hs : rStringSS H' [vD] ds' RD') (nd : RD'.Nodup) (hk : ∀ i ∈ RD', i ∈ RD ∨ q ≤ i) (f : Fr RD H H') (hq : ∀ i, i ∈ RS ∨ i ∈ RD ∨ i ∈ RU → i < q) (hlq : lo ≤ q) (hpq : p < q) : ChainIn p lo (a.1, ds', a.2.2) H' vS vD vU RS RD' RU :=
  ⟨f.blk h.cell h.pd, goodServerS.keep h.s f (fun i hi h' => h.sd i hi h'), hs, goodInt64SS.keep h.u f (fun i hi h' => h.du i h' hi), h.ns, nd, h.nu,
    fun i hi h' => (hk i h').elim (fun h2 => h.sd i hi h2) (fun h2 => by have := hq i (Or.inl hi); omega), h.su, fun i hi h' => (hk i hi).elim (fun h2 => h.du i h2 h') (fun h2 => by have := hq i (Or.inr (Or.inr h')); omega),
    h.ls, fun i hi => (hk i hi).elim (h.ld i) (fun h2 => by omega), h.lu, h.ps, fun h' => (hk p h').elim h.pd (fun h2 => by omega), h.pu⟩
theorem ChainIn.withU {p lo : Nat} {a : ChainT} {H H' : Heap} {vS vD vU : GV} {RS RD RU : List Nat} (h : ChainIn p lo a H vS vD vU RS RD RU) {us' : List (List Int)} {RU' : List Nat} {q : Nat} (hs : rInt64SS H' [vU] us' RU') (nu : RU'.Nodup) (hk : ∀ i ∈ RU', i ∈ RU ∨ q ≤ i) (f : Fr RU H H') (hq : ∀ i, i ∈ RS ∨ i ∈ RD ∨ i ∈ RU → i < q) (hlq : lo ≤ q) (hpq : p < q) : ChainIn p lo (a.1, a.2.1, us') H' vS vD vU RS RD RU' :=
  ⟨f.blk h.cell h.pu, goodServerS.keep h.s f (fun i hi h' => h.su i hi h'), goodStringSS.keep h.d f (fun i hi h' => h.du i hi h'), hs, h.ns, h.nd, nu,
    h.sd, fun i hi h' => (hk i h').elim (fun h2 => h.su i hi h2) (fun h2 => by have := hq i (Or.inl hi); omega), fun i hi h' => (hk i h').elim (fun h2 => h.du i hi h2) (fun h2 => by have := hq i (Or.inr (Or.inl hi)); omega),
    h.ls, h.ld, fun i hi => (hk i hi).elim (h.lu i) (fun h2 => by omega), h.ps, h.pd, fun h' => (hk p h').elim h.pu (fun h2 => by omega)⟩
theorem ChainIn.server {p lo : Nat} {a : ChainT} {H : Heap} {vS vD vU : GV} {RS RD RU : List Nat} (h : ChainIn p lo a H vS vD vU RS RD RU) {i : Nat} (hi : i < a.1.length) : ∃ b vL, vS = .sl b 0 a.1.length a.1.length 2 ∧ b ∈ RS ∧ kload1 H (.ptr b (i * 2) (a.1.length * 2)) = some vL ∧ kload1 H (.ptr b (i * 2 + 1) (a.1.length * 2)) = some (.int .i64 a.1[i].2) ∧ (∃ r, rStringS H [vL] a.1[i].1 r) ∧ kloadA 2 H (.ptr b (i * 2) (a.1.length * 2)) = some (.agg [vL, .int .i64 a.1[i].2]) := by
  obtain ⟨b, css, c, r, hv, hb, hcn, hc, fe, hE, hbr, hbR, hrR, nd0, hup⟩ := RSl.focus2 goodServer h.s h.ns hi
  obtain ⟨c1, c2, R1, R2, rfl, rfl, E1, ⟨rfl, rfl⟩⟩ := hE
  obtain ⟨vL, rfl⟩ := List.length_eq_one_iff.1 (goodStringS.len E1)
  have hb0 : H[b]? = some (css.set i ([vL] ++ ci a.1[i].2)).flatten := by rw [set_get_self hc]; exact hb
  have l0 := ld_leaf (es := 2) (off := 0) (o := i * 2) (tot := a.1.length * 2) hb0 fe hcn hi rfl (by omega) (by omega) rfl
  have l1 := ld_leaf (es := 2) (off := 1) (o := i * 2 + 1) (tot := a.1.length * 2) hb0 fe hcn hi rfl (by omega) rfl rfl
  have fl : css.flatten.length = a.1.length * 2 := by
    have : ∀ l : List (List GV), (∀ c ∈ l, c.length = 2) → l.flatten.length = l.length * 2 := by
      intro l
      induction l with
      | nil => intro _; rfl
      | cons a l ih => intro h; rw [List.flatten_cons, List.length_append, h a (by simp), ih fun c hc => h c (by simp [hc]), List.length_cons, Nat.add_mul]; omega
    rw [this _ fe, hcn]
  refine ⟨b, vL, hv, hbR, l0, l1, ⟨_, E1⟩, ?_⟩
  have g0 := css_get (es := 2) (off := 0) fe hc (by omega)
  have g1 := css_get (es := 2) (off := 1) fe hc (by omega)
  rw [kloadA_ptr, cellsAt_if, hb]
  simp only [Option.bind_some, fl, if_true]
  rw [if_pos (by omega)]
  congr 2
  apply List.ext_getElem?
  intro k
  rw [List.getElem?_take, List.getElem?_drop]
  match k with
  | 0 => rw [if_pos (by omega)]; exact g0
  | 1 => rw [if_pos (by omega)]; exact g1
  | k + 2 => rw [if_neg (by omega)]; rfl
theorem ChainIn.sureSet {p lo : Nat} {a : ChainT} {H : Heap} {vS vD vU : GV} {RS RD RU : List Nat} (h : ChainIn p lo a H vS vD vU RS RD RU) {i : Nat} (hi : i < a.1.length) (z : Int) {q : Nat} (hq : ∀ i, i ∈ RS ∨ i ∈ RD ∨ i ∈ RU → i < q) (hlq : lo ≤ q) (hpq : p < q) :
    ∃ b H5 RS', vS = .sl b 0 a.1.length a.1.length 2 ∧ b ∈ RS ∧ kload1 H (.ptr b (i * 2 + 1) (a.1.length * 2)) = some (.int .i64 a.1[i].2) ∧ kstore 1 H (.ptr b (i * 2 + 1) (a.1.length * 2)) (.int .i64 z) = some H5 ∧ ChainIn p lo (a.1.set i (a.1[i].1, z), a.2) H5 vS vD vU RS' RD RU ∧ Fr RS H H5 ∧ (∀ i ∈ RS', i ∈ RS ∨ q ≤ i) ∧ H5.length = H.length := by
  obtain ⟨b, css, c, r, hv, hb, hcn, hc, fe, hE, hbr, hbR, hrR, nd0, hup⟩ := RSl.focus2 goodServer h.s h.ns hi
  obtain ⟨c1, c2, R1, R2, rfl, rfl, E1, ⟨rfl, rfl⟩⟩ := hE
  obtain ⟨vL, rfl⟩ := List.length_eq_one_iff.1 (goodStringS.len E1)
  rw [List.append_nil] at hbr hrR nd0 hup
  have hb0 : H[b]? = some (css.set i ([vL] ++ ci a.1[i].2)).flatten := by rw [set_get_self hc]; exact hb
  have l0 := ld_leaf (es := 2) (off := 1) (o := i * 2 + 1) (tot := a.1.length * 2) hb0 fe hcn hi rfl (by omega) rfl rfl
  have hbl := (List.getElem?_eq_some_iff.1 hb).1
  obtain ⟨H5, s5, hb5, f5⟩ := st_leaf (es := 2) (off := 1) (o := i * 2 + 1) (tot := a.1.length * 2) (x := .int .i64 z) hb0 fe hcn hi rfl (by omega) rfl rfl rfl rfl
  have hE' : rServer H5 (([vL] ++ ci a.1[i].2).set 1 (.int .i64 z)) (a.1[i].1, z) R1 := ⟨[vL], ci z, R1, [], rfl, by simp, goodStringS.keep E1 f5 (fun j hj h' => hbr (by rw [List.mem_singleton] at h'; rw [← h']; exact hj)), ⟨rfl, rfl⟩⟩
  obtain ⟨RS', q1, q2, q3⟩ := hup H5 _ _ R1 hb5 hE' nd0 (fun j hj => Or.inl hj) (fun j hj hjb hjr => f5.2 j (goodServerS.mem h.s j hj) (by simpa using hjb))
  have fr : Fr RS H H5 := f5.sub (fun j hj => by rw [List.mem_singleton] at hj; rw [hj]; exact hbR)
  have hk : ∀ j ∈ RS', j ∈ RS ∨ q ≤ j := fun j hj => (q3 j hj).elim Or.inl (fun h2 => Or.inl (hrR j h2))
  have hlen : H5.length = H.length := by
    have := s5
    rw [kstore_at hb0 (by
      have := l0
      rw [kload1_ptr, cellsAt_if, hb0] at this
      simp only [Option.bind_some] at this
      split at this
      · assumption
      · cases this) (by have : (i + 1) * 2 ≤ a.1.length * 2 := Nat.mul_le_mul_right 2 hi
                        omega) rfl rfl] at this
    rw [← Option.some.inj this, List.length_set]
  exact ⟨b, H5, RS', hv, hbR, l0, s5, h.withS q1 q2 hk fr hq hlq hpq, fr, hk, hlen⟩
theorem ChainIn.upApp {p lo : Nat} {a : ChainT} {H : Heap} {vS vD vU : GV} {RS RD RU : List Nat} (h : ChainIn p lo a H vS vD vU RS RD RU) {i : Nat} (hi : i < a.2.2.length) (z : Int) {q : Nat} (hq : ∀ i, i ∈ RS ∨ i ∈ RD ∨ i ∈ RU → i < q) (hlq : lo ≤ q) (hpq : p < q) (hqH : q ≤ H.length) (hn : a.2.2[i].length ≤ 4194304) :
    ∃ b vL v' H4 H5 RU', vU = .sl b 0 a.2.2.length a.2.2.length 1 ∧ b ∈ RU ∧ kload1 H (.ptr b i a.2.2.length) = some vL ∧ klen vL = some (.int .i64 a.2.2[i].length) ∧ kapp [.int .i64 0] 1 8 vL (.sl H.length 0 1 1 1) (H ++ [[.int .i64 z]]) = some (v', H4) ∧ kstore 1 H4 (.ptr b i a.2.2.length) v' = some H5 ∧ ChainIn p lo (a.1, a.2.1, a.2.2.set i (a.2.2[i] ++ [z])) H5 vS vD vU RS RD RU' ∧ Fr RU H H5 ∧ (∀ i ∈ RU', i ∈ RU ∨ q ≤ i) ∧ H.length + 1 ≤ H4.length ∧ (∀ k ∈ kblk vL, k ∈ RU ∧ k ≠ b) := by
  obtain ⟨b, css, c, R1, hv, hb, hcn, hc, fe, E1, hbr, hbR, hrR, nd0, hup⟩ := RSl.focus2 goodInt64S h.u h.nu hi
  obtain ⟨vL, rfl⟩ := List.length_eq_one_iff.1 (goodInt64S.len E1)
  have hb0 : H[b]? = some (css.set i [vL]).flatten := by rw [set_get_self hc]; exact hb
  have l0 := ld_leaf (es := 1) (off := 0) (o := i) (tot := a.2.2.length) hb0 fe hcn hi rfl (by omega) (by omega) (by omega)
  have gE : Good 1 1 ci (RFl ci) := RFl.good (es := 1) (mk := ci) (fun _ => rfl) (fun _ => rfl)
  have hxx : RFl ci (H ++ [[.int .i64 z]]) [.int .i64 z] z [] := ⟨rfl, rfl⟩
  obtain ⟨v', H4, R', a1, a2, a3, a4, a5, a6, a7⟩ := app_sl gE (by omega) (z := [.int .i64 0]) (b := 8) rfl (by omega) (H := H ++ [[.int .i64 z]]) (goodInt64S.grow E1) nd0 hn hxx List.nodup_nil (fun i hi => (by cases hi)) (q := H.length) (by simp)
  have hb4 := a5.blk ((Fr.app (R := []) (t := [[.int .i64 z]])).blk hb0 no_nil) hbr
  obtain ⟨H5, s5, hb5, f5⟩ := st_leaf (es := 1) (off := 0) (o := i) (tot := a.2.2.length) (x := v') hb4 fe hcn hi rfl (by omega) a6.1 a6.2 (by omega) (by omega)
  have hL : ∀ j ∈ R', j ∈ R1 ∨ H.length + 1 ≤ j := fun j hj => by
    rcases a4 j hj with h' | h' | h'
    · exact Or.inl h'
    · cases h'
    · rw [List.length_append] at h'; exact Or.inr (by simp at h'; omega)
  have hbq : b < q := hq b (Or.inr (Or.inr hbR))
  have a2' := goodInt64S.keep a2 f5 (fun j hj h' => by
    rw [List.mem_singleton] at h'
    rcases hL j hj with h2 | h2
    · exact hbr (h' ▸ h2)
    · omega)
  obtain ⟨RS', q1, q2, q3⟩ := hup H5 _ _ R' hb5 a2' a3 (fun j hj => (hL j hj).imp id (fun h2 h3 => by have := hq j (Or.inr (Or.inr h3)); omega)) (fun j hj hjb hjr => by
    have e1 : (H ++ [[GV.int .i64 z]])[j]? = H[j]? := List.getElem?_append_left (goodInt64SS.mem h.u j hj)
    have e2 := a5.2 j (by have := goodInt64SS.mem h.u j hj; simp; omega) hjr
    have e3 := f5.2 j (by have := goodInt64SS.mem h.u j hj; have := a5.1; simp at this; omega) (by simpa using hjb)
    rw [e3, e2, e1])
  have fr : Fr RU H H5 := (Fr.app (t := [[.int .i64 z]])).trans ((a5.sub hrR).trans (f5.sub (fun j hj => by rw [List.mem_singleton] at hj; rw [hj]; exact hbR)))
  have hk : ∀ j ∈ RS', j ∈ RU ∨ q ≤ j := fun j hj => (q3 j hj).elim Or.inl (fun h2 => (hL j h2).elim (fun h3 => Or.inl (hrR j h3)) (fun h3 => Or.inr (by omega)))
  refine ⟨b, vL, v', H4, H5, RS', hv, hbR, l0, E1.len, a1, s5, h.withU q1 q2 hk fr hq hlq hpq, fr, hk, by have := a5.1; simpa using this, fun k hk' => ?_⟩
  rcases a7 with ⟨x, _, hx, _, e⟩ | ⟨e, _⟩
  · rw [e, List.mem_singleton] at hk'
    rw [hk']
    exact ⟨hrR x hx, fun e2 => hbr (e2 ▸ hx)⟩
  · rw [e] at hk'; cases hk'
theorem any_no {l : List Nat} {p n : Nat} (h : p ∉ l) : l.any (fun i => decide (i = p) || decide (n ≤ i) && decide (i < n)) = false := by
  rw [List.any_eq_false]
  intro i hi h2
  rw [Bool.or_eq_true, Bool.and_eq_true, decide_eq_true_eq, decide_eq_true_eq, decide_eq_true_eq] at h2
  rcases h2 with h2 | h2
  · exact h (h2 ▸ hi)
  · omega
theorem any_no2 {l : List Nat} {n : Nat} : l.any (fun i => decide (n ≤ i) && decide (i < n)) = false := by
  rw [List.any_eq_false]
  intro i hi h2
  rw [Bool.and_eq_true, decide_eq_true_eq, decide_eq_true_eq] at h2
  omega
def OpR (f : FuncId) (args : List GV) (a : ChainT) (res : ChainT × Bool) : Prop := ∀ (p lo : Nat) (H : Heap) (vS vD vU : GV) (RS RD RU : List Nat), ChainIn p lo a H vS vD vU RS RD RU → lo ≤ H.length →
  ∃ H' vS' vD' vU' RS' RD' RU', HH f (.ptr p 0 3 :: args) H = some (.bool res.2, H') ∧ ChainIn p lo res.1 H' vS' vD' vU' RS' RD' RU' ∧ (∀ i, i < H.length → i ≠ p → i ∉ RS → i ∉ RD → i ∉ RU → H'[i]? = H[i]?)
@[simp] theorem knil_ptr {i o t : Nat} : knil (.ptr i o t) = some (.ptr i o t) := rfl
theorem impl_Chain_last_spec (a : ChainT) (hm : a.1.length ≤ 1048576) : NN fn.impl_Chain_last [.agg (mChain true a)] = some (.int .i64 ((a.1.length : Int) - 1)) := by
  apply S.impl_Chain_last.gives (k := 0)
  have w : IntKind.i64.wrap ((a.1.length : Int) - 1) = (a.1.length : Int) - 1 := by rw [wrap_id] <;> omega
  simp [S.impl_Chain_last.run, w]
end Go.Proofs.Ytlbnioapepelnaa.G

namespace Go.Proofs.Ytlbnioapepelnaa.G
open Go.RowKit

/-! Laid-in data handed back, told by what they hold. -/
theorem RFl.frz {α : Type} {mk : α → List GV} (hp : ∀ x, (mk x).all Pl = true) {d : Nat} {h : Heap} {c : List GV} {x : α} {R : List Nat} (he : RFl mk h c x R) : Frz (d + 1) h c (mk x) := by
  obtain ⟨rfl, rfl⟩ := he
  have := hp x
  generalize mk x = l at this
  induction l with
  | nil => exact .nil
  | cons g l ih =>
    rw [List.all_cons, Bool.and_eq_true] at this
    refine .cons (r := []) ?_ (ih this.2)
    cases g <;> first | rfl | cases this.1
theorem RSl.frz {α : Type} {es d : Nat} {mk mk' : α → List GV} {E : Rel α} (hG : Good es d mk E) {n : Nat} {h : Heap} (hE : ∀ c x R, E h c x R → Frz n h c (mk' x)) {v : GV} {xs : List α} {R : List Nat} (he : RSl es E h [v] xs R) : Frz (n + 1) h [v] [fzl false es mk' xs] := by
  rcases he with ⟨rfl, rfl, hc⟩ | ⟨b, css, Rs, hv, hb, ha, rfl⟩
  · rcases hc with hc | hc <;> (injection hc with hc; subst hc; exact .cons (r := []) rfl .nil)
  · injection hv with hv
    subst hv
    obtain ⟨fl, fe⟩ := All3.flen (fun h => hG.len h) ha
    have hf : Frz n h css.flatten (xs.flatMap mk') := by
      clear hb fl fe
      induction ha with
      | nil => exact .nil
      | cons a _ ih => exact .append (hE _ _ _ a) ih
    obtain ⟨ys, h1, h2⟩ := hf
    refine .cons (r := []) ?_ .nil
    simp only [Go.Proofs.Ytlbnioapepelnaa.G.frz, Option.bind_eq_bind, cellsAt_if, hb, Option.bind_some, Nat.zero_add, fl, if_true, List.drop_zero]
    rw [List.take_of_length_le (by omega), h1]
    simp only [Option.bind_some, Nat.le_refl, if_true]
    cases xs with
    | nil => rfl
    | cons x xs => simp [fzl, h2]
theorem rChain_frz {n : Nat} {h : Heap} {c : List GV} {a : ChainT} {R : List Nat} (he : rChain h c a R) : Frz (n + 3) h c (mChain false a) := by
  obtain ⟨c1, c2, R1, R2, rfl, rfl, hS, c3, c4, R3, R4, rfl, rfl, hD, hU⟩ := he
  obtain ⟨vS, rfl⟩ := List.length_eq_one_iff.1 (goodServerS.len hS)
  obtain ⟨vD, rfl⟩ := List.length_eq_one_iff.1 (goodStringSS.len hD)
  obtain ⟨vU, rfl⟩ := List.length_eq_one_iff.1 (goodInt64SS.len hU)
  have gS : ∀ (m : Nat) c x R, rStringS h c x R → Frz (m + 2) h c (mStringS false x) := fun m c x R hr => by
    obtain ⟨v, rfl⟩ := List.length_eq_one_iff.1 (goodStringS.len hr)
    exact RSl.frz (RFl.good (es := 1) (mk := cs) (fun _ => rfl) (fun _ => rfl)) (fun c x R hr => RFl.frz (fun _ => rfl) hr) hr
  have gI : ∀ (m : Nat) c x R, rInt64S h c x R → Frz (m + 2) h c (mInt64S false x) := fun m c x R hr => by
    obtain ⟨v, rfl⟩ := List.length_eq_one_iff.1 (goodInt64S.len hr)
    exact RSl.frz (RFl.good (es := 1) (mk := ci) (fun _ => rfl) (fun _ => rfl)) (fun c x R hr => RFl.frz (fun _ => rfl) hr) hr
  have h1 : Frz (n + 3) h [vS] [fzl false 2 (mServer false) a.1] := RSl.frz goodServer (fun c x R hr => by
    obtain ⟨c1, c2, R1, R2, rfl, rfl, hL, ⟨rfl, rfl⟩⟩ := hr
    exact .append (gS n _ _ _ hL) (.cons (r := []) rfl .nil)) hS
  have h2 : Frz (n + 3) h [vD] [fzl false 1 (mStringS false) a.2.1] := RSl.frz goodStringS (fun c x R hr => gS n c x R hr) hD
  have h3 : Frz (n + 3) h [vU] [fzl false 1 (mInt64S false) a.2.2] := RSl.frz goodInt64S (fun c x R hr => gI n c x R hr) hU
  exact .append h1 (.append h2 h3)
theorem finN_chain {h : Heap} {c : List GV} {a : ChainT} {R : List Nat} {t : Bool} (he : rChain h c a R) : finN (.tup [.agg c, .bool t]) h = some (.tup [.agg (mChain false a), .bool t]) := by
  have h1 := rChain_frz (n := 4) he
  exact finN_of (frz_tup (.cons (frz_agg h1) (.cons frz_bool .nil)))
theorem rChain_none {H : Heap} : rChain H [.nils, .nils, .nils] ([], [], []) [] := ⟨[.nils], [.nils, .nils], [], [], rfl, rfl, Or.inl ⟨rfl, rfl, Or.inr rfl⟩, ⟨[.nils], [.nils], [], [], rfl, rfl, Or.inl ⟨rfl, rfl, Or.inr rfl⟩, Or.inl ⟨rfl, rfl, Or.inr rfl⟩⟩⟩
open Classical in
noncomputable def onM (a : ChainT) (res : ChainT × Bool) : ChainT × Bool := if ChainP a.1 a.2.1 a.2.2 then res else (([], [], []), false)
theorem chain_len {a : ChainT} (h : ChainP a.1 a.2.1 a.2.2) : a.2.1.length = a.2.2.length := by have := h.2.1; have := h.2.2.1; omega
theorem ok_none : okChain ([], [], []) := ⟨⟨by simp, fun x h => (by cases h)⟩, ⟨by simp, fun x h => (by cases h)⟩, ⟨by simp, fun x h => (by cases h)⟩⟩
theorem onM_ok {a : ChainT} {res : ChainT × Bool} (h : ChainP a.1 a.2.1 a.2.2 → okChain res.1) : okChain (onM a res).1 := by
  unfold onM
  split
  · rename_i hp; exact h hp
  · exact ok_none
theorem mem_set_or {α : Type} {l : List α} {i : Nat} {x y : α} (h : y ∈ l.set i x) : y ∈ l ∨ y = x := List.mem_or_eq_of_mem_set h
end Go.Proofs.Ytlbnioapepelnaa.G

namespace Go.Proofs.Ytlbnioapepelnaa.G
open Go.RowKit

def ROff {α : Type} (mk : α → List GV) : Rel (List α) := fun h c xs R => RSl 1 (RFl mk) h c xs R ∨ ∃ b pre, c = [.sl b pre.length xs.length xs.length 1] ∧ h[b]? = some (pre ++ xs.flatMap mk) ∧ R = [b]
def OwnTo {α : Type} (d : Nat) (E E' : Rel α) : Prop := ∀ (h : Heap) (c : List GV) (x : α) (R : List Nat), E h c x R → ∀ D b, ∃ c' vis bl, ownL (own (D + d) h) b c = some (c', vis, bl) ∧ vis.map (·.1) = R ∧ ∀ H T, H.length = b → E' (H ++ bl ++ T) c' x (List.range' b bl.length)
theorem Good.ownTo {α : Type} {es d : Nat} {mk : α → List GV} {E : Rel α} (hE : Good es d mk E) : OwnTo d E E := fun _ _ _ _ h D b => hE.own h D b
theorem ROff.ownTo {α : Type} {mk : α → List GV} (hl : ∀ x, (mk x).length = 1) (hp : ∀ x, (mk x).all Pl = true) : OwnTo 2 (ROff mk) (RSl 1 (RFl mk)) := by
  intro h c xs R he D b
  rcases he with he | ⟨b0, pre, rfl, hb, rfl⟩
  · exact (RSl.good (RFl.good hl hp)).own he D b
  · have fl : (xs.flatMap mk).length = xs.length := by have := len_flat (es := 1) hl xs; omega
    have e : own (D + 2) h b (.sl b0 pre.length xs.length xs.length 1) = some (.sl b 0 xs.length xs.length 1, [(b0, pre.length, pre.length + xs.length * 1)], [xs.flatMap mk]) := by
      have e0 : own (D + 2) h b (.sl b0 pre.length xs.length xs.length 1) = (cellsAt h b0 (pre.length + xs.length * 1)).bind fun cs => if xs.length ≤ xs.length then (ownL (own (D + 1) h) (b + 1) ((cs.drop pre.length).take (xs.length * 1))).bind fun q => some (.sl b 0 xs.length xs.length 1, (b0, pre.length, pre.length + xs.length * 1) :: q.2.1, q.1 :: q.2.2) else none := rfl
      rw [e0, cellsAt_if, hb]
      simp only [Option.bind_some, List.length_append, fl, Nat.mul_one, if_true, Nat.le_refl, List.drop_left]
      rw [List.take_of_length_le (by omega), ownL_pl (all_flat hp xs)]
      rfl
    refine ⟨[.sl b 0 xs.length xs.length 1], [(b0, pre.length, pre.length + xs.length * 1)], [xs.flatMap mk], ?_, rfl, fun H T hH => ?_⟩
    · unfold ownL
      rw [e]
      rfl
    · exact rNew (b := b) (by rw [List.append_assoc, List.getElem?_append_right (by omega), hH, Nat.sub_self]; rfl)
theorem ROff.good {α : Type} {mk : α → List GV} (hl : ∀ x, (mk x).length = 1) (hp : ∀ x, (mk x).all Pl = true) : Good 1 2 (fun xs : List α => [fzl true 1 mk xs]) (ROff mk) where
  len := by
    rintro h c xs R (he | ⟨b0, pre, rfl, hb, rfl⟩)
    · exact (RSl.good (RFl.good hl hp)).len he
    · rfl
  mkl := fun _ => rfl
  brw := by
    rintro h c xs R (he | ⟨b0, pre, rfl, hb, rfl⟩) D
    · exact (RSl.good (RFl.good hl hp)).brw he D
    · have fl : (xs.flatMap mk).length = xs.length := by have := len_flat (es := 1) hl xs; omega
      obtain ⟨ys, a1, a2, a3⟩ := All3.brw (RFl.good hl hp) (h := h) D (css := xs.map mk) (xs := xs) (Rs := xs.map fun _ => []) (by
        clear fl hb
        induction xs with
        | nil => exact .nil
        | cons x xs ih => exact .cons ⟨rfl, rfl⟩ ih)
      have ef : (xs.map mk).flatten = xs.flatMap mk := by rw [List.flatMap_def]
      have er : (xs.map fun _ => ([] : List Nat)).flatten = [] := by
        clear a1 a2 a3 fl hb ef
        induction xs with
        | nil => rfl
        | cons x xs ih => rw [List.map_cons, List.flatten_cons, ih]; rfl
      rw [ef] at a1
      rw [er] at a3
      have e : bor (D + 2) h (.sl b0 pre.length xs.length xs.length 1) = some (fzl true 1 mk xs, [b0]) := by
        have e0 : bor (D + 2) h (.sl b0 pre.length xs.length xs.length 1) = (cellsAt h b0 (pre.length + xs.length * 1)).bind fun cs => (((cs.drop pre.length).take (xs.length * 1)).mapM (bor (D + 1) h)).bind fun ys => if xs.length ≤ xs.length then (match xs.length with | 0 => some (mt, [b0]) | n + 1 => some (.fz true (n + 1) 1 (ys.map (·.1)), b0 :: (ys.map (·.2)).flatten)) else none := rfl
        rw [e0, cellsAt_if, hb]
        simp only [Option.bind_some, List.length_append, fl, Nat.mul_one, if_true, List.drop_left]
        rw [List.take_of_length_le (by omega), a1]
        simp only [Option.bind_some, Nat.le_refl, if_true]
        cases xs with
        | nil => rfl
        | cons x xs => simp only [List.length_cons, fzl, a2, a3]
      exact ⟨[(fzl true 1 mk xs, [b0])], by rw [List.mapM_cons, e]; rfl, rfl, rfl⟩
  frame := by
    rintro h c xs R h' (he | ⟨b0, pre, rfl, hb, rfl⟩) hf
    · exact Or.inl ((RSl.good (RFl.good hl hp)).frame he hf)
    · exact Or.inr ⟨b0, pre, rfl, (hf b0 (by simp)).trans hb, rfl⟩
  mem := by
    rintro h c xs R (he | ⟨b0, pre, rfl, hb, rfl⟩)
    · exact (RSl.good (RFl.good hl hp)).mem he
    · intro i hi
      rw [List.mem_singleton] at hi
      rw [hi]
      exact (List.getElem?_eq_some_iff.1 hb).1
  own := fun he D b => by
    obtain ⟨c', vis, bl, a1, a2, a3⟩ := ROff.ownTo hl hp _ _ _ _ he D b
    exact ⟨c', vis, bl, a1, a2, fun H T hH => Or.inl (a3 H T hH)⟩
  cell := by
    rintro h c xs R (he | ⟨b0, pre, rfl, hb, rfl⟩)
    · exact (RSl.good (RFl.good hl hp)).cell he
    · rfl
theorem OwnTo.mono {α : Type} {d d' : Nat} {E E' : Rel α} (h : OwnTo d E E') (hd : d ≤ d') : OwnTo d' E E' := fun _ _ _ _ he D b => by
  have := h _ _ _ _ he (D + (d' - d)) b
  rwa [show D + (d' - d) + d = D + d' by omega] at this
theorem All3.ownTo {α : Type} {d : Nat} {E E' : Rel α} (hO : OwnTo d E E') {h : Heap} (D : Nat) {css : List (List GV)} {xs : List α} {Rs : List (List Nat)} (ha : All3 (E h) css xs Rs) : ∀ b, ∃ css' vis bl Rs', ownL (Go.Proofs.Ytlbnioapepelnaa.G.own (D + d) h) b css.flatten = some (css'.flatten, vis, bl) ∧ vis.map (·.1) = Rs.flatten ∧ Rs'.flatten = List.range' b bl.length ∧ ∀ H T, H.length = b → All3 (E' (H ++ bl ++ T)) css' xs Rs' := by
  induction ha with
  | nil => exact fun b => ⟨[], [], [], [], rfl, rfl, rfl, fun H T _ => .nil⟩
  | cons a _ ih =>
    intro b
    obtain ⟨c', v1, l1, a1, a2, a3⟩ := hO _ _ _ _ a D b
    obtain ⟨css', v2, l2, Rs', b1, b2, b3, b4⟩ := ih (b + l1.length)
    refine ⟨c' :: css', v1 ++ v2, l1 ++ l2, List.range' b l1.length :: Rs', ?_, by rw [List.map_append, a2, b2]; rfl, by rw [List.flatten_cons, b3, List.length_append, List.range'_append_1], fun H T hH => .cons ?_ ?_⟩
    · rw [List.flatten_cons, List.flatten_cons]; exact ownL_app a1 b1
    · have := a3 H (l2 ++ T) hH
      simpa only [List.append_assoc] using this
    · have := b4 (H ++ l1) T (by rw [List.length_append, hH])
      simpa only [List.append_assoc] using this
theorem RSl.ownTo {α : Type} {es d : Nat} {mk : α → List GV} {E E' : Rel α} (hE : Good es d mk E) (hO : OwnTo d E E') : OwnTo (d + 1) (RSl es E) (RSl es E') := by
  intro h c xs R he D b
  rcases he with ⟨rfl, rfl, hc⟩ | ⟨b0, css, Rs, rfl, hb, ha, rfl⟩
  · refine ⟨c, [], [], ?_, rfl, fun H T _ => Or.inl ⟨rfl, rfl, hc⟩⟩
    rcases hc with rfl | rfl <;> rfl
  · obtain ⟨css', vis, bl, Rs', a1, a2, a3, a4⟩ := All3.ownTo hO D ha (b + 1)
    obtain ⟨fl, _⟩ := All3.flen (fun h => hE.len h) ha
    have e : own (D + (d + 1)) h b (.sl b0 0 xs.length xs.length es) = some (.sl b 0 xs.length xs.length es, (b0, 0, 0 + xs.length * es) :: vis, css'.flatten :: bl) := by
      rw [← Nat.add_assoc]
      simp only [own, cellsAt_if, hb, Nat.zero_add, fl, if_true, Option.bind_some, List.drop_zero, Nat.le_refl]
      rw [List.take_of_length_le (by omega), a1]
      rfl
    refine ⟨[.sl b 0 xs.length xs.length es], (b0, 0, 0 + xs.length * es) :: vis, css'.flatten :: bl, ?_, ?_, fun H T hH => Or.inr ⟨b, css', Rs', rfl, ?_, ?_, ?_⟩⟩
    · unfold ownL
      rw [e]
      simp [ownL]
    · rw [List.map_cons, a2]
    · rw [List.append_assoc, List.getElem?_append_right (by omega), hH, Nat.sub_self]; rfl
    · have := a4 (H ++ [css'.flatten]) T (by rw [List.length_append, hH]; rfl)
      simpa only [List.append_assoc, List.cons_append, List.nil_append] using this
    · rw [a3, List.length_cons, List.range'_succ]
theorem RSeq.ownTo {α β : Type} {d : Nat} {E E' : Rel α} {F F' : Rel β} (hE : OwnTo d E E') (hF : OwnTo d F F') : OwnTo d (RSeq E F) (RSeq E' F') := by
  rintro h c x R ⟨c1, c2, R1, R2, rfl, rfl, h1, h2⟩ D b
  obtain ⟨c1', v1, l1, a1, a2, a3⟩ := hE _ _ _ _ h1 D b
  obtain ⟨c2', v2, l2, b1, b2, b3⟩ := hF _ _ _ _ h2 D (b + l1.length)
  refine ⟨c1' ++ c2', v1 ++ v2, l1 ++ l2, ownL_app a1 b1, by rw [List.map_append, a2, b2], fun H T hH => ?_⟩
  refine ⟨c1', c2', List.range' b l1.length, List.range' (b + l1.length) l2.length, rfl, by rw [List.length_append, List.range'_append_1], ?_, ?_⟩
  · have := a3 H (l2 ++ T) hH
    simpa only [List.append_assoc] using this
  · have := b3 (H ++ l1) T (by rw [List.length_append, hH])
    simpa only [List.append_assoc] using this

abbrev rSo : Rel (List ByteArray) := ROff cs
theorem goodSo : Good 1 2 (mStringS true) rSo := ROff.good (fun _ => rfl) (fun _ => rfl)
theorem All3.map {α : Type} {E E' : List GV → α → List Nat → Prop} (hE : ∀ {c x r}, E c x r → E' c x r) {css : List (List GV)} {xs : List α} {Rs : List (List Nat)} (h : All3 E css xs Rs) : All3 E' css xs Rs := by
  induction h with
  | nil => exact .nil
  | cons a _ ih => exact .cons (hE a) ih
theorem RSl.map {α : Type} {es : Nat} {E E' : Rel α} {h : Heap} (hE : ∀ {c x r}, E h c x r → E' h c x r) {c : List GV} {xs : List α} {R : List Nat} (he : RSl es E h c xs R) : RSl es E' h c xs R := by
  rcases he with h1 | ⟨b, css, Rs, h1, h2, h3, h4⟩
  · exact Or.inl h1
  · exact Or.inr ⟨b, css, Rs, h1, h2, All3.map hE h3, h4⟩
end Go.Proofs.Ytlbnioapepelnaa.G
