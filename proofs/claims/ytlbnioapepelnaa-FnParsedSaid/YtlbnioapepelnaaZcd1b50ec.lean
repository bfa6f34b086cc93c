/- A parser of runes: the program's Step and Parsed; the reference's step. A parser of runes: the reference's step. A parser of runes: the reference's St -/
import Derived.Test.YtlbnioapepelnaaZ8608c7de
import Derived.Test.YtlbnioapepelnaaZ98435b81
set_option linter.unusedSimpArgs false
set_option linter.unusedVariables false
set_option maxRecDepth 100000
namespace Go.Proofs.Ytlbnioapepelnaa.G
open Go.RowKit
def PairO (f : FuncId) (args : List GV) (b : Nat) (q : ParserT × List ActionT) : Prop :=
  ∃ c v bl n, OO f args b = some (.tup [.agg c, v], bl) ∧ n ≤ bl.length ∧ ∀ H T, H.length = b → rParser (H ++ bl ++ T) c q.1 (List.range' b n) ∧ rActionS (H ++ bl ++ T) [v] q.2 (List.range' (b + n) (bl.length - n))
abbrev zPars : List GV := [.int .i64 0, .nils, .int .i64 0, .nils]
theorem impl_Step_spec (p : ParserT) (hm : okParser p) (r : Int) (b : Nat) : PairO fn.impl_Step [.agg (mParser true p), .int .i64 r] b (parsedM p [r]) := by
  have hML : (mParser true p).length = 4 := rfl
  have bM : ∀ (H : Heap) (gs zs : List GV), bors H gs = some zs → bors H (.agg (mParser true p) :: gs) = some (.agg (mParser true p) :: zs) := fun H gs zs h => by
    rw [bors_cons, h]; simp
  have ip := fun H => fun v (hv : bors H [v] = some [fzl true 1 ci [r]]) => fresh_pair goodParser goodActionS (f := fn.impl_parsed) (args := [.agg (mParser true p), v]) (xs := [.agg (mParser true p), fzl true 1 ci [r]]) (H := H) (x := (parsedM p [r]).1) (y := (parsedM p [r]).2) (bM _ _ _ hv) (impl_parsed_spec p hm [r] (by simp) H.length)
  obtain ⟨M, hM⟩ : ∃ M, mParser true p = M := ⟨_, rfl⟩
  rw [hM] at hML ⊢
  simp only [hM] at bM ip
  obtain ⟨H0, hH0⟩ : ∃ H0 : Heap, [M, zPars, [.int .i64 r]] = H0 := ⟨_, rfl⟩
  have A0 : H0[0]? = some M := by rw [← hH0]; rfl
  have Z0 : H0[1]? = some zPars := by rw [← hH0]; rfl
  have I0 : H0[2]? = some ([r].flatMap ci) := by rw [← hH0]; rfl
  have l0 : H0.length = 3 := by rw [← hH0]; rfl
  have hbox : ∀ {Q : Type} (K : GV → Heap → Option Q), kbox (.agg M) [] K = K (.ptr 0 0 4) [M] := fun K => by rw [kbox_agg, hML]; rfl
  have hal : ∀ {Q : Type} (K : GV → Heap → Option Q), kalloc zPars [M] K = K (.ptr 1 0 4) [M, zPars] := fun K => rfl
  have a0 := kloadA_at (n := 4) (H := [M, zPars]) (p := 0) (c := M) rfl hML
  have kb0 : ∀ {Q : Type} (K : GV → Heap → Option Q), kbs 1 1 [.int .i64 r] [M, zPars] K = K (.sl 2 0 1 1 1) H0 := fun K => by rw [kbs_at, ← hH0]; rfl
  have rI : rInt64S H0 [.sl 2 0 1 1 1] [r] [2] := rNewI (xs := [r]) I0
  obtain ⟨c1, v1, R1, S1, H1, t1, r1, s1, n1, m1, ⟨m, d1, d2, d3, d4⟩, f1, l1⟩ := ip H0 (.sl 2 0 1 1 1) (bors_one (RFl.good (es := 1) (mk := ci) (fun _ => rfl) (fun _ => rfl)) (by omega) rI rfl)
  have Z1 := f1.blk Z0 no_nil
  have w1 := kstoreA_at (n := 4) Z1 rfl (c' := c1) (goodParser.len r1) (goodParser.cell r1)
  obtain ⟨H2, hH2⟩ : ∃ H2, H1.set 1 c1 = H2 := ⟨_, rfl⟩
  rw [hH2] at w1
  have hl1 := (List.getElem?_eq_some_iff.1 Z1).1
  have A2 : H2[1]? = some c1 := by rw [← hH2, List.getElem?_set_self hl1]
  have f2 : Fr [1] H1 H2 := by rw [← hH2]; exact .set (by simp)
  have a2 := kloadA_at (n := 4) A2 (goodParser.len r1)
  have r2 := goodParser.keep r1 f2 (fun i hi h => by have := d1 i hi; rw [List.mem_singleton] at h; omega)
  have s2 := goodActionS.keep s1 f2 (fun i hi h => by have := d2 i hi; rw [List.mem_singleton] at h; omega)
  obtain ⟨c, v, bl, n, o1, o2, o3⟩ := goodParser.finP goodActionS (by omega) (by omega) r2 s2 (by
    rw [List.nodup_append]
    exact ⟨n1, m1, fun i hi k hk e => by have := d1 i hi; have := d2 k hk; omega⟩) b
  refine ⟨c, v, bl, n, S.impl_Step.gives (k := 0) ?_, o2, o3⟩
  unfold S.impl_Step.run S.impl_Step.n0
  rw [hbox, hal, a0]
  simp only [Option.bind_some, gfill, zeros, List.append_nil, Nat.zero_mul, Nat.one_mul, List.length_cons, List.length_nil]
  simp [splice, kb0, t1, w1, a2, o1, -kF_OO, -kloadA_ptr, -kstore_ptr]
theorem impl_Parsed_spec (p : ParserT) (hm : okParser p) (l : List Int) (hl : l.length ≤ 1048576) (b : Nat) : PairO fn.impl_Parsed [.agg (mParser true p), fzl true 1 ci l] b (parsed2M p l) := by
  have hML : (mParser true p).length = 4 := rfl
  have bM : ∀ (H : Heap) (gs zs : List GV), bors H gs = some zs → bors H (.agg (mParser true p) :: gs) = some (.agg (mParser true p) :: zs) := fun H gs zs h => by
    rw [bors_cons, h]; simp
  have ip := fun H => fresh_pair goodParser goodActionS (f := fn.impl_parsed) (args := [.agg (mParser true p), fzl true 1 ci l]) (xs := [.agg (mParser true p), fzl true 1 ci l]) (H := H) (x := (parsedM p l).1) (y := (parsedM p l).2) (bM _ _ _ (by simp)) (impl_parsed_spec p hm l hl H.length)
  obtain ⟨M, hM⟩ : ∃ M, mParser true p = M := ⟨_, rfl⟩
  rw [hM] at hML ⊢
  simp only [hM] at bM ip
  obtain ⟨H0, hH0⟩ : ∃ H0 : Heap, [M, zPars] = H0 := ⟨_, rfl⟩
  have A0 : H0[0]? = some M := by rw [← hH0]; rfl
  have Z0 : H0[1]? = some zPars := by rw [← hH0]; rfl
  have l0 : H0.length = 2 := by rw [← hH0]; rfl
  have hbox : ∀ {Q : Type} (K : GV → Heap → Option Q), kbox (.agg M) [] K = K (.ptr 0 0 4) [M] := fun K => by rw [kbox_agg, hML]; rfl
  have hal : ∀ {Q : Type} (K : GV → Heap → Option Q), kalloc zPars [M] K = K (.ptr 1 0 4) H0 := fun K => by rw [kalloc_eq, ← hH0]; rfl
  have a0 := kloadA_at (n := 4) A0 hML
  have g : kbin .gtr (.int .i64 (l.length : Int)) (.int .i64 2000) = some (.bool (!decide (l.length ≤ 2000))) := by rw [kbin_gtr]; congr 2; rw [Bool.eq_iff_iff]; simp; omega
  unfold parsed2M
  by_cases h2 : l.length ≤ 2000
  · rw [if_pos h2]
    rw [decide_eq_true h2] at g
    obtain ⟨c1, v1, R1, S1, H1, t1, r1, s1, n1, m1, ⟨m, d1, d2, d3, d4⟩, f1, l1⟩ := ip H0
    have Z1 := f1.blk Z0 no_nil
    have w1 := kstoreA_at (n := 4) Z1 rfl (c' := c1) (goodParser.len r1) (goodParser.cell r1)
    obtain ⟨H2, hH2⟩ : ∃ H2, H1.set 1 c1 = H2 := ⟨_, rfl⟩
    rw [hH2] at w1
    have hl1 := (List.getElem?_eq_some_iff.1 Z1).1
    have A2 : H2[1]? = some c1 := by rw [← hH2, List.getElem?_set_self hl1]
    have f2 : Fr [1] H1 H2 := by rw [← hH2]; exact .set (by simp)
    have a2 := kloadA_at (n := 4) A2 (goodParser.len r1)
    have r2 := goodParser.keep r1 f2 (fun i hi h => by have := d1 i hi; rw [List.mem_singleton] at h; omega)
    have s2 := goodActionS.keep s1 f2 (fun i hi h => by have := d2 i hi; rw [List.mem_singleton] at h; omega)
    obtain ⟨c, v, bl, n, o1, o2, o3⟩ := goodParser.finP goodActionS (by omega) (by omega) r2 s2 (by
      rw [List.nodup_append]
      exact ⟨n1, m1, fun i hi k hk e => by have := d1 i hi; have := d2 k hk; omega⟩) b
    refine ⟨c, v, bl, n, S.impl_Parsed.gives (k := 0) ?_, o2, o3⟩
    unfold S.impl_Parsed.run S.impl_Parsed.n0
    rw [hbox, hal]
    simp [g, a0, t1, w1, a2, o1, -kF_OO, -kloadA_ptr, -kstore_ptr, -kbin_gtr]
  · rw [if_neg h2]
    rw [decide_eq_false h2] at g
    have s1 := kstoreA_at (n := 4) Z0 rfl (c' := zPars) rfl (by simp)
    have e1 : H0.set 1 zPars = H0 := by rw [← hH0]; rfl
    rw [e1] at s1
    have a1 := kloadA_at (n := 4) Z0 rfl
    obtain ⟨c, v, bl, n, o1, o2, o3⟩ := goodParser.finP goodActionS (by omega) (by omega) (parser_rel (s := 0) (m := 0) (H := H0) no_ints no_ints) (no_act (H := H0)) List.nodup_nil b
    refine ⟨c, v, bl, n, S.impl_Parsed.gives (k := 0) ?_, o2, o3⟩
    unfold S.impl_Parsed.run S.impl_Parsed.n0
    rw [hbox, hal]
    simp [g, gfill, s1, a1, o1, -kloadA_ptr, -kstore_ptr, -kbin_gtr]

/-! The reference. -/
theorem l6State_call (s : Int) (H : Heap) : kF false HH fn.spec_l6State [.int .i64 s] H = some (.agg [.int .i64 s, .nils, .int .i64 0, .nils], H) := by
  have : OO fn.spec_l6State [.int .i64 s] H.length = some (.agg [.int .i64 s, .nils, .int .i64 0, .nils], []) := by
    apply S.spec_l6State.gives (k := 0)
    simp [S.spec_l6State.run, gfill, finO, ownOk, Go.Proofs.Ytlbnioapepelnaa.G.own, ownL, nodupB]
  rw [kF_OO]
  simp [this]
structure PV (p : ParserT) (H : Heap) (vP vT : GV) (RP RT : List Nat) : Prop where
  ps : rInt64S H [vP] p.2.1 RP
  tx : rInt64S H [vT] p.2.2.2 RT
  np : RP.Nodup
  nt : RT.Nodup
  dj : ∀ i ∈ RP, i ∉ RT
abbrev parC (p : ParserT) (vP vT : GV) : List GV := [.int .i64 p.1, vP, .int .i64 p.2.2.1, vT]
def Stv (q : ParserT × List ActionT) (H H' : Heap) (c : List GV) (v : GV) (RP RT : List Nat) : Prop :=
  ∃ vP vT RP' RT' RA, c = parC q.1 vP vT ∧ PV q.1 H' vP vT RP' RT' ∧ rActionS H' [v] q.2 RA ∧ RA.Nodup ∧ (∀ i ∈ RA, i ∉ RP' ∧ i ∉ RT') ∧ (∀ i, i ∈ RP' ∨ i ∈ RT' ∨ i ∈ RA → i ∈ RP ∨ i ∈ RT ∨ H.length ≤ i) ∧ Fr (RP ++ RT) H H'
theorem PV.box {p : ParserT} {H : Heap} {vP vT : GV} {RP RT : List Nat} (h : PV p H vP vT RP RT) : PIn H.length p (H ++ [parC p vP vT] ++ [zPars]) vP vT RP RT := by
  have f : Fr [] H (H ++ [parC p vP vT] ++ [zPars]) := Fr.app.trans .app
  exact ⟨by simp, goodInt64S.keep h.ps f (fun _ _ => no_nil), goodInt64S.keep h.tx f (fun _ _ => no_nil), h.np, h.nt, h.dj, fun hi => by have := goodInt64S.mem h.ps _ hi; omega, fun hi => by have := goodInt64S.mem h.tx _ hi; omega⟩
theorem spec_out {p : ParserT} {q : ParserT × List ActionT} {H H2 : Heap} {vP vT v : GV} {RP RT : List Nat} (h : PV p H vP vT RP RT) (s : Stp H.length q (H ++ [parC p vP vT] ++ [zPars]) H2 v RP RT) :
    ∃ c' H3, kloadA 4 H2 (.ptr H.length 0 4) = some (.agg c') ∧ kstore 4 H2 (.ptr (H.length + 1) 0 4) (.agg c') = some H3 ∧ kloadA 4 H3 (.ptr (H.length + 1) 0 4) = some (.agg c') ∧ Stv q H H3 c' v RP RT := by
  obtain ⟨wP, wT, SP, ST, SA, b1, b2, b3, b4, b5, b6⟩ := s
  have hP := goodInt64S.mem h.ps
  have hT := goodInt64S.mem h.tx
  have hl : (H ++ [parC p vP vT] ++ [zPars]).length = H.length + 2 := by simp
  have Z : (H ++ [parC p vP vT] ++ [zPars])[H.length + 1]? = some zPars := by simp
  have out : ∀ i, i ∈ SP ∨ i ∈ ST ∨ i ∈ SA → i ≠ H.length + 1 := fun i hi e => by
    rcases b5 i hi with h' | h' | h'
    · have := hP i h'; omega
    · have := hT i h'; omega
    · omega
  have Z2 := b6.blk Z (fun h' => by
    rcases List.mem_cons.1 h' with h' | h'
    · omega
    · rcases List.mem_append.1 h' with h' | h'
      · have := hP _ h'; omega
      · have := hT _ h'; omega)
  have cP := cells1 b1.ps
  have cT := cells1 b1.tx
  have s2 := kstoreA_at (n := 4) Z2 rfl (c' := parC q.1 wP wT) rfl (by simp [cP.2, cT.2])
  have hl2 := (List.getElem?_eq_some_iff.1 Z2).1
  have f3 : Fr [H.length + 1] H2 (H2.set (H.length + 1) (parC q.1 wP wT)) := .set (by simp)
  have no : ∀ i, i ∈ SP ∨ i ∈ ST ∨ i ∈ SA → i ∉ [H.length + 1] := fun i hi h' => out i hi (by simpa using h')
  refine ⟨parC q.1 wP wT, _, kloadA_at (n := 4) b1.cell rfl, s2, kloadA_at (n := 4) (List.getElem?_set_self hl2) rfl, wP, wT, SP, ST, SA, rfl, ⟨goodInt64S.keep b1.ps f3 (fun i hi => no i (Or.inl hi)), goodInt64S.keep b1.tx f3 (fun i hi => no i (Or.inr (Or.inl hi))), b1.np, b1.nt, b1.dj⟩, goodActionS.keep b2 f3 (fun i hi => no i (Or.inr (Or.inr hi))), b3, fun i hi => ⟨(b4 i hi).1, (b4 i hi).2.1⟩, fun i hi => ?_, ?_⟩
  · rcases b5 i hi with h' | h' | h'
    · exact Or.inl h'
    · exact Or.inr (Or.inl h')
    · exact Or.inr (Or.inr (by omega))
  · have l2 := b6.1
    refine ⟨by rw [List.length_set]; omega, fun i hi hn => ?_⟩
    rw [List.mem_append] at hn
    rw [List.getElem?_set_ne (by omega), b6.2 i (by omega) (fun h' => ?_), List.append_assoc, List.getElem?_append_left hi]
    rcases List.mem_cons.1 h' with h' | h'
    · omega
    · exact hn (List.mem_append.1 h')
theorem spec_out2 {p : ParserT} {l : List ActionT} {H H2 : Heap} {vP vT v : GV} {RP RT RA : List Nat} (h : PV p H vP vT RP RT) (s : Int) (f : Fr [] (H ++ [parC p vP vT] ++ [zPars]) H2) (ha : rActionS H2 [v] l RA) (nd : RA.Nodup) (hr : ∀ i ∈ RA, i ∈ RP ∨ i ∈ RT ∨ H.length + 2 ≤ i) :
    ∃ H3, kstore 4 H2 (.ptr (H.length + 1) 0 4) (.agg [.int .i64 s, .nils, .int .i64 0, .nils]) = some H3 ∧ kloadA 4 H3 (.ptr (H.length + 1) 0 4) = some (.agg [.int .i64 s, .nils, .int .i64 0, .nils]) ∧ Stv (st0 s, l) H H3 [.int .i64 s, .nils, .int .i64 0, .nils] v RP RT := by
  have hP := goodInt64S.mem h.ps
  have hT := goodInt64S.mem h.tx
  have Z : (H ++ [parC p vP vT] ++ [zPars])[H.length + 1]? = some zPars := by simp
  have Z2 := f.blk Z no_nil
  have s2 := kstoreA_at (n := 4) Z2 rfl (c' := [.int .i64 s, .nils, .int .i64 0, .nils]) rfl (by simp)
  have hl2 := (List.getElem?_eq_some_iff.1 Z2).1
  have f3 : Fr [H.length + 1] H2 (H2.set (H.length + 1) [.int .i64 s, .nils, .int .i64 0, .nils]) := .set (by simp)
  refine ⟨_, s2, kloadA_at (n := 4) (List.getElem?_set_self hl2) rfl, .nils, .nils, [], [], RA, rfl, ⟨no_ints, no_ints, List.nodup_nil, List.nodup_nil, fun i hi => by (cases hi)⟩, goodActionS.keep ha f3 (fun i hi h' => ?_), nd, fun i hi => ⟨no_nil, no_nil⟩, fun i hi => ?_, ?_⟩
  · rw [List.mem_singleton] at h'
    rcases hr i hi with h'' | h'' | h''
    · have := hP i h''; omega
    · have := hT i h''; omega
    · omega
  · rcases hi with hi | hi | hi
    · cases hi
    · cases hi
    · rcases hr i hi with h'' | h'' | h''
      · exact Or.inl h''
      · exact Or.inr (Or.inl h'')
      · exact Or.inr (Or.inr (by omega))
  · have l2 := f.1
    simp only [List.length_append, List.length_cons, List.length_nil] at l2
    refine ⟨by rw [List.length_set]; omega, fun i hi hn => ?_⟩
    rw [List.getElem?_set_ne (by omega), f.2 i (by simp; omega) no_nil, List.append_assoc, List.getElem?_append_left hi]
end Go.Proofs.Ytlbnioapepelnaa.G

namespace Go.Proofs.Ytlbnioapepelnaa.G
open Go.RowKit
theorem Stp.emp {b : Nat} {q : ParserT} {H H' : Heap} {v : GV} {RP RT : List Nat} (h : Stp b (q, []) H H' v RP RT) : Stp b (q, []) H H' .emp RP RT := by
  obtain ⟨vP, vT, RP', RT', RA, a1, a2, a3, a4, a5, a6⟩ := h
  exact ⟨vP, vT, RP', RT', [], a1, no_act', List.nodup_nil, fun i hi => (by cases hi), fun i hi => a5 i (hi.elim Or.inl fun h => Or.inr (h.elim Or.inl fun h => by cases h)), a6⟩
theorem Stp.split {b : Nat} {p : ParserT} {H H' : Heap} {v0 : GV} {RP RT : List Nat} (h1 : Stp b (p, []) H H' v0 RP RT) : ∃ vP vT RP' RT', PIn b p H' vP vT RP' RT' ∧ ∀ {q : ParserT} {l : List ActionT} {H'' : Heap} {v : GV}, Stp b (q, l) H' H'' v RP' RT' → Stp b (q, l) H H'' v RP RT := by
  obtain ⟨vP, vT, RP', RT', RA, a1, a2, a3, a4, a5, a6⟩ := h1
  refine ⟨vP, vT, RP', RT', a1, fun {q l H'' v} h2 => ?_⟩
  obtain ⟨wP, wT, SP, ST, SA, b1, b2, b3, b4, b5, b6⟩ := h2
  have hl := a6.1
  refine ⟨wP, wT, SP, ST, SA, b1, b2, b3, b4, fun i hi => ?_, ?_⟩
  · rcases b5 i hi with h | h | h
    · exact a5 i (Or.inl h)
    · exact a5 i (Or.inr (Or.inl h))
    · exact Or.inr (Or.inr (by omega))
  · refine ⟨Nat.le_trans a6.1 b6.1, fun i hi hn => ?_⟩
    rw [← a6.2 i hi hn]
    refine b6.2 i (by omega) fun h => ?_
    rw [List.mem_cons, List.mem_append] at h hn
    rcases h with h | h | h
    · exact hn (Or.inl h)
    · rcases a5 i (Or.inl h) with h | h | h
      · exact hn (Or.inr (Or.inl h))
      · exact hn (Or.inr (Or.inr h))
      · omega
    · rcases a5 i (Or.inr (Or.inl h)) with h | h | h
      · exact hn (Or.inr (Or.inl h))
      · exact hn (Or.inr (Or.inr h))
      · omega
theorem spec_l1Min_spec (a b : Int) : NN fn.spec_l1Min [.int .i64 a, .int .i64 b] = some (.int .i64 (if a < b then a else b)) := by
  apply S.spec_l1Min.gives (k := 0)
  have g : kbin .lss (.int .i64 a) (.int .i64 b) = some (.bool (decide (a < b))) := kbin_lss
  by_cases h : a < b
  · rw [decide_eq_true h] at g; rw [if_pos h]; simp [S.spec_l1Min.run, g, -kbin_lss]
  · rw [decide_eq_false h] at g; rw [if_neg h]; simp [S.spec_l1Min.run, g, -kbin_lss]
theorem l6List_op {p : ParserT} {H : Heap} {vP vT : GV} {RP RT : List Nat} (h : PV p H vP vT RP RT) (hp : p.2.1.length ≤ 16 ∧ ∀ n ∈ p.2.1, 0 ≤ n ∧ n ≤ 9999) (r : Int) : ∃ c v H', HH fn.spec_l6List [.agg (parC p vP vT), .int .i64 r] H = some (.tup [.agg c, v], H') ∧ Stv (moreM p r) H H' c v RP RT := by
  have hb := h.box
  have hbox : ∀ {Q : Type} (K : GV → Heap → Option Q), kbox (.agg (parC p vP vT)) H K = K (.ptr H.length 0 4) (H ++ [parC p vP vT]) := fun K => rfl
  have hal : ∀ {Q : Type} (K : GV → Heap → Option Q), kalloc [.int .i64 0, .nils, .int .i64 0, .nils] (H ++ [parC p vP vT]) K = K (.ptr (H.length + 1) 0 4) (H ++ [parC p vP vT] ++ [zPars]) := fun K => by rw [kalloc_eq]; simp
  have so : ∀ {q : ParserT × List ActionT} {H2 : Heap} {v : GV}, Stp H.length q (H ++ [parC p vP vT] ++ [zPars]) H2 v RP RT → _ := fun s => spec_out h s
  have so2 : ∀ {l : List ActionT} {H2 : Heap} {v : GV} {RA : List Nat} (s : Int) (f : Fr [] (H ++ [parC p vP vT] ++ [zPars]) H2), _ → _ → _ → _ := fun {l H2 v RA} s f a b c => spec_out2 (l := l) (v := v) (RA := RA) h s f a b c
  have cP := cells1 h.ps
  have mP := goodInt64S.mem h.ps
  have tP := goodInt64S.keep h.ps (h' := H ++ [parC p vP vT] ++ [zPars]) (Fr.app.trans .app) (fun _ _ => no_nil)
  have hl1 : (H ++ [parC p vP vT] ++ [zPars]).length = H.length + 2 := by simp
  obtain ⟨H1, hH1⟩ : ∃ H1, H ++ [parC p vP vT] ++ [zPars] = H1 := ⟨_, rfl⟩
  simp only [hH1] at hb hal so so2 tP hl1
  obtain ⟨b, hbe⟩ : ∃ b, H.length = b := ⟨_, rfl⟩
  have l1 := kload1_at (o := 1) (tot := 4) hb.cell rfl
  have l2 := kload1_at (o := 2) (tot := 4) hb.cell rfl
  simp only [List.getElem?_cons_succ, List.getElem?_cons_zero] at l1 l2
  have ln := RSl.len h.ps
  have g1 : kbin .eql (.int .i64 r) (.int .i64 63) = some (.bool (decide (r = 63))) := kbin_eql
  have g2 := klen0 (n := p.2.1.length)
  have g3 : kbin .eql (.int .i64 p.2.2.1) (.int .i64 0) = some (.bool (decide (p.2.2.1 = 0))) := kbin_eql
  have g4 := k_l1In r 48 57
  have g5 : kbin .eql (.int .i64 r) (.int .i64 59) = some (.bool (decide (r = 59))) := kbin_eql
  have g6 := k_l1In r 64 126
  have run0 : ∀ {c : List GV} {v : GV} {H' : Heap}, S.spec_l6List.n5 0 (fun x v4 v5 v6 h => kx x (S.spec_l6List.n4 0 (fun x v4 v5 h => kend x ((kloadA 4 h v4).bind fun w4 => finH (.tup [w4, v5]) h)) v4 v6 h) (kend x ((kloadA 4 h v4).bind fun w4 => finH (.tup [w4, v5]) h))) (.int .i64 r) (.ptr H.length 0 4) (.ptr (H.length + 1) 0 4) .nils .emp (.int .i64 (p.2.1.length : Int)) H1 = some (.tup [.agg c, v], H') → HH fn.spec_l6List [.agg (parC p vP vT), .int .i64 r] H = some (.tup [.agg c, v], H') := by
    intro c v H' e
    apply S.spec_l6List.gives (k := 0)
    unfold S.spec_l6List.run S.spec_l6List.n0
    rw [hbox, hal]
    unfold S.spec_l6List.n1 S.spec_l6List.n2
    rw [kfa_ptr, Option.bind_some, l1, Option.bind_some, ln, Option.bind_some]
    unfold S.spec_l6List.n3
    exact e
  unfold moreM
  by_cases hc : r = 63 ∧ p.2.1.length = 0 ∧ p.2.2.1 = 0
  · rw [if_pos hc]
    obtain ⟨c1, c2, c3⟩ := hc
    rw [decide_eq_true c1] at g1
    rw [decide_eq_true c2] at g2
    rw [decide_eq_true c3] at g3
    obtain ⟨H2, a1, a2⟩ := hb.setM 63
    obtain ⟨c, H3, o1, o2, o3, o4⟩ := so a2.emp
    exact ⟨c, .emp, H3, run0 (by simp [g1, g2, g3, l2, a1, o1, o2, o3, -kbin_eql, -kload1_ptr, -kstore_ptr, -kloadA_ptr]), o4⟩
  rw [if_neg hc]
  have head : ∀ {Q : Type} (G : GX → GV → GV → GV → Heap → Option Q), S.spec_l6List.n6 0 G (.int .i64 r) (.ptr H.length 0 4) (.ptr (H.length + 1) 0 4) .nils .emp (.int .i64 (p.2.1.length : Int)) H1 = S.spec_l6List.n9 0 G (.int .i64 r) (.ptr H.length 0 4) (.ptr (H.length + 1) 0 4) .nils .emp (.int .i64 (p.2.1.length : Int)) H1 := by
    intro Q G
    by_cases c1 : r = 63
    · rw [decide_eq_true c1] at g1
      by_cases c2 : p.2.1.length = 0
      · have c3 : ¬ p.2.2.1 = 0 := fun c3 => hc ⟨c1, c2, c3⟩
        rw [decide_eq_true c2] at g2
        rw [decide_eq_false c3] at g3
        simp [g1, g2, g3, l2, -kbin_eql, -kload1_ptr, -kstore_ptr, -S.spec_l6List.n9]
      · rw [decide_eq_false c2] at g2
        simp [g1, g2, -kbin_eql, -kload1_ptr, -kstore_ptr, -S.spec_l6List.n9]
    · rw [decide_eq_false c1] at g1
      simp [g1, -kbin_eql, -kload1_ptr, -kstore_ptr, -S.spec_l6List.n9]
  have run : ∀ {c : List GV} {v : GV} {H' : Heap}, S.spec_l6List.n9 0 (fun x v4 v5 v6 h => kb 0 x fun x => kx x (S.spec_l6List.n4 0 (fun x v4 v5 h => kend x ((kloadA 4 h v4).bind fun w4 => finH (.tup [w4, v5]) h)) v4 v6 h) (kend x ((kloadA 4 h v4).bind fun w4 => finH (.tup [w4, v5]) h))) (.int .i64 r) (.ptr H.length 0 4) (.ptr (H.length + 1) 0 4) .nils .emp (.int .i64 (p.2.1.length : Int)) H1 = some (.tup [.agg c, v], H') → HH fn.spec_l6List [.agg (parC p vP vT), .int .i64 r] H = some (.tup [.agg c, v], H') := by
    intro c v H' e
    refine run0 ?_
    unfold S.spec_l6List.n5
    rw [head]
    exact e
  by_cases hd : inB r 48 57 = true
  · rw [if_pos hd]
    rw [hd] at g4
    rw [inB_iff] at hd
    have dig : ∀ {H2 : Heap} {wP wT : GV} {SP ST : List Nat}, PIn H.length (p.1, nz p.2.1, p.2.2.1, p.2.2.2) H2 wP wT SP ST → ∃ H3, (∀ {Q : Type} (G : GX → GV → GV → GV → Heap → Option Q), S.spec_l6List.n12 0 G (.int .i64 r) (.ptr H.length 0 4) (.ptr (H.length + 1) 0 4) .nils .emp (.int .i64 ((nz p.2.1).length : Int)) H2 = (kloadA 4 H3 (.ptr H.length 0 4)).bind fun v53 => (kstore 4 H3 (.ptr (H.length + 1) 0 4) v53).bind fun h => G .ret (.ptr (H.length + 1) 0 4) .emp .emp h) ∧ Stp H.length (digM p r, []) H2 H3 .nils SP ST := by
      intro H2 wP wT SP ST h1
      have lz := nz_len p.2.1
      have lb := nz_last hp.2
      obtain ⟨i, e1, e2, H3, e3, e4⟩ := h1.setP lz.1 (min ((nz p.2.1)[(nz p.2.1).length - 1]?.getD 0 * 10 + r - 48) 9999)
      have m1 := kload1_at (o := 1) (tot := 4) h1.cell rfl
      simp only [List.getElem?_cons_succ, List.getElem?_cons_zero] at m1 e2 e3
      simp only at e1
      obtain ⟨n, hn⟩ : ∃ n, (nz p.2.1).length = n := ⟨_, rfl⟩
      obtain ⟨x, hx⟩ : ∃ x, (nz p.2.1)[(nz p.2.1).length - 1]?.getD 0 = x := ⟨_, rfl⟩
      rw [hx] at e2 e3 lb
      rw [hn] at e1 e2 e3 lz ⊢
      have ks : kbin .sub (.int .i64 (n : Int)) (.int .i64 1) = some (.int .i64 ((n - 1 : Nat) : Int)) := by
        rw [kbin_sub, wrap_id (by omega) (by omega)]; congr 2; omega
      have ki : kia 1 wP (.int .i64 ((n - 1 : Nat) : Int)) = some (.ptr i (n - 1) n) := by rw [e1]; exact kia_at (by omega) (by omega) (by omega)
      have k1 : kbin .mul (.int .i64 10) (.int .i64 x) = some (.int .i64 (x * 10)) := by rw [kbin_mul, wrap_id (by omega) (by omega)]; congr 2; omega
      have k2 : kbin .add (.int .i64 (x * 10)) (.int .i64 r) = some (.int .i64 (x * 10 + r)) := by rw [kbin_add, wrap_id (by omega) (by omega)]
      have k3 : kbin .sub (.int .i64 (x * 10 + r)) (.int .i64 48) = some (.int .i64 (x * 10 + r - 48)) := by rw [kbin_sub, wrap_id (by omega) (by omega)]
      have k4 : kN NN fn.spec_l1Min [.int .i64 9999, .int .i64 (x * 10 + r - 48)] H2 = some (.int .i64 (min (x * 10 + r - 48) 9999)) := by
        rw [kN_at (xs := [.int .i64 9999, .int .i64 (x * 10 + r - 48)]) (by simp) (spec_l1Min_spec _ _)]
        congr 2; rw [Int.min_def]; split <;> split <;> omega
      refine ⟨H3, fun G => ?_, ?_⟩
      · simp [m1, ks, ki, e2, k1, k2, k3, k4, e3, -kN_eq, -kbin_sub, -kbin_mul, -kbin_add, -kload1_ptr, -kstore_ptr, -kloadA_ptr]
      · unfold digM
        exact e4
    by_cases h0 : p.2.1.length = 0
    · rw [decide_eq_true h0] at g2
      obtain ⟨v', H4, H5, a1, a2, a3⟩ := hb.nzP h0
      have e1 : (nz p.2.1).length = 1 := by unfold nz; rw [if_pos h0]; rfl
      obtain ⟨wP, wT, SP, ST, b1, comb⟩ := a3.split
      obtain ⟨H3, d1, d2⟩ := dig b1
      obtain ⟨c, H6, o1, o2, o3, o4⟩ := so (comb d2).emp
      refine ⟨c, .emp, H6, run ?_, o4⟩
      simp only [e1, show ((1 : Nat) : Int) = 1 from rfl] at d1
      simp [g4, g2, l1, gfill, zeros, kbs_at, a1, a2, d1, o1, o2, o3, -kN_eq, -kbin_eql, -kload1_ptr, -kstore_ptr, -kloadA_ptr, -S.spec_l6List.n12, -S.spec_l6List.n4]
    · rw [decide_eq_false h0] at g2
      have e : nz p.2.1 = p.2.1 := by unfold nz; rw [if_neg h0]
      obtain ⟨H3, d1, d2⟩ := dig (by rw [e]; exact hb)
      rw [e] at d1
      obtain ⟨c, H6, o1, o2, o3, o4⟩ := so d2.emp
      refine ⟨c, .emp, H6, run ?_, o4⟩
      simp [g4, g2, d1, o1, o2, o3, -kN_eq, -kbin_eql, -kload1_ptr, -kstore_ptr, -kloadA_ptr, -S.spec_l6List.n12, -S.spec_l6List.n4]
  rw [if_neg hd]
  simp only [Bool.not_eq_true] at hd
  rw [hd] at g4
  by_cases h59 : r = 59
  · rw [if_pos h59]
    rw [decide_eq_true h59] at g5
    have sep : ∀ {H2 : Heap} {wP wT : GV} {SP ST : List Nat}, PIn H.length (p.1, nz p.2.1, p.2.2.1, p.2.2.2) H2 wP wT SP ST → ∃ H3, (∀ {Q : Type} (G : GX → GV → GV → GV → Heap → Option Q), S.spec_l6List.n17 0 G (.ptr H.length 0 4) (.ptr (H.length + 1) 0 4) .nils .emp H2 = (kloadA 4 H3 (.ptr H.length 0 4)).bind fun v53 => (kstore 4 H3 (.ptr (H.length + 1) 0 4) v53).bind fun h => G .ret (.ptr (H.length + 1) 0 4) .emp .emp h) ∧ Stp H.length (sepM p, []) H2 H3 .nils SP ST := by
      intro H2 wP wT SP ST h1
      have lz := nz_len p.2.1
      have m1 := kload1_at (o := 1) (tot := 4) h1.cell rfl
      simp only [List.getElem?_cons_succ, List.getElem?_cons_zero] at m1
      have mn := RSl.len h1.ps
      have g16 : kbin .lss (.int .i64 ((nz p.2.1).length : Int)) (.int .i64 16) = some (.bool (decide ((nz p.2.1).length < 16))) := by rw [kbin_lss]; congr 2; rw [Bool.eq_iff_iff]; simp; omega
      unfold sepM
      by_cases h16 : (nz p.2.1).length < 16
      · rw [decide_eq_true h16] at g16
        obtain ⟨v', H4, H5, a1, a2, a3⟩ := h1.pushP (by simp only; omega) 0
        rw [if_pos h16]
        refine ⟨H5, fun G => ?_, a3⟩
        simp [m1, mn, g16, gfill, zeros, kbs_at, a1, a2, -kbin_lss, -kload1_ptr, -kstore_ptr, -kloadA_ptr]
      · rw [decide_eq_false h16] at g16
        rw [if_neg h16]
        refine ⟨H2, fun G => ?_, .same h1⟩
        simp [m1, mn, g16, -kbin_lss, -kload1_ptr, -kstore_ptr, -kloadA_ptr]
    by_cases h0 : p.2.1.length = 0
    · rw [decide_eq_true h0] at g2
      obtain ⟨v', H4, H5, a1, a2, a3⟩ := hb.nzP h0
      obtain ⟨wP, wT, SP, ST, b1, comb⟩ := a3.split
      obtain ⟨H3, d1, d2⟩ := sep b1
      obtain ⟨c, H6, o1, o2, o3, o4⟩ := so (comb d2).emp
      refine ⟨c, .emp, H6, run ?_, o4⟩
      simp [g4, g5, g2, l1, gfill, zeros, kbs_at, a1, a2, d1, o1, o2, o3, -kN_eq, -kbin_eql, -kload1_ptr, -kstore_ptr, -kloadA_ptr, -S.spec_l6List.n17, -S.spec_l6List.n4]
    · rw [decide_eq_false h0] at g2
      have e : nz p.2.1 = p.2.1 := by unfold nz; rw [if_neg h0]
      obtain ⟨H3, d1, d2⟩ := sep (by rw [e]; exact hb)
      obtain ⟨c, H6, o1, o2, o3, o4⟩ := so d2.emp
      refine ⟨c, .emp, H6, run ?_, o4⟩
      simp [g4, g5, g2, d1, o1, o2, o3, -kN_eq, -kbin_eql, -kload1_ptr, -kstore_ptr, -kloadA_ptr, -S.spec_l6List.n17, -S.spec_l6List.n4]
  rw [if_neg h59]
  rw [decide_eq_false h59] at g5
  have ls := l6State_call 1
  cases h64 : inB r 64 126
  · rw [h64] at g6
    obtain ⟨H3, o2, o3, o4⟩ := so2 (l := []) (v := .emp) (RA := []) (H2 := H1) 1 .refl no_act' List.nodup_nil (fun i hi => by (cases hi))
    refine ⟨_, .emp, H3, run ?_, by simpa using o4⟩
    simp [g4, g5, g6, ls, o2, o3, -kN_eq, -kF_OO, -kbin_eql, -kload1_ptr, -kstore_ptr, -kloadA_ptr]
  · rw [h64] at g6
    have f2 : Fr [] H1 (H1 ++ [actC 4 r vP p.2.2.1 .nils]) := .app
    obtain ⟨H3, o2, o3, o4⟩ := so2 (l := [(4, r, p.2.1, p.2.2.1, [])]) (v := .sl H1.length 0 1 1 5) (RA := H1.length :: (RP ++ [])) (H2 := H1 ++ [actC 4 r vP p.2.2.1 .nils]) 1 f2 (act_one (by simp) (act_rel (goodInt64S.keep tP f2 (fun _ _ => no_nil)) no_ints)) (by
      rw [List.append_nil, List.nodup_cons]
      exact ⟨fun h' => by have := mP _ h'; omega, h.np⟩) (fun i hi => by
      rcases List.mem_cons.1 hi with rfl | hi
      · exact Or.inr (Or.inr (by omega))
      · exact Or.inl (by simpa using hi))
    refine ⟨_, .sl H1.length 0 1 1 5, H3, run ?_, by simpa using o4⟩
    have y1 : ¬ (H.length + 1 = H.length) := by omega
    have y2 : ¬ (H1.length ≤ H.length + 1) := by omega
    have y3 : ¬ (H1.length ≤ H.length) := by omega
    have y4 : ¬ (H1.length + 1 ≤ H.length) := by omega
    simp [g4, g5, g6, ls, l1, l2, gfill, zeros, cP.1, cP.2, kbs_at, o2, o3, -kN_eq, -kF_OO, -kbin_eql, -kload1_ptr, -kstore_ptr, -kloadA_ptr]
    simp [chk, meets, touches, kborr, y1, y2, y3, y4]
theorem l6Escape_op (r : Int) (H : Heap) : ∃ c v H' RA, HH fn.spec_l6Escape [.int .i64 r] H = some (.tup [.agg c, v], H') ∧ c = parC (escM r).1 .nils .nils ∧ (escM r).1.2.1 = [] ∧ (escM r).1.2.2.2 = [] ∧ rActionS H' [v] (escM r).2 RA ∧ RA.Nodup ∧ (∀ i ∈ RA, H.length ≤ i) ∧ Fr [] H H' := by
  have g1 : kbin .eql (.int .i64 r) (.int .i64 91) = some (.bool (decide (r = 91))) := kbin_eql
  have g2 : kbin .eql (.int .i64 r) (.int .i64 93) = some (.bool (decide (r = 93))) := kbin_eql
  have g3 := k_l1In r 48 126
  have hal : ∀ {Q : Type} (K : GV → Heap → Option Q), kalloc zPars H K = K (.ptr H.length 0 4) (H ++ [zPars]) := fun K => rfl
  have Z : (H ++ [zPars])[H.length]? = some zPars := by simp
  have f1 : Fr [] H (H ++ [zPars]) := .app
  have hl : (H ++ [zPars]).length = H.length + 1 := by simp
  obtain ⟨H1, hH1⟩ : ∃ H1, H ++ [zPars] = H1 := ⟨_, rfl⟩
  simp only [hH1] at hal Z f1 hl
  have fin : ∀ (s : Int) (H2 : Heap), Fr [] H1 H2 → ∃ H3, kstore 4 H2 (.ptr H.length 0 4) (.agg [.int .i64 s, .nils, .int .i64 0, .nils]) = some H3 ∧ kloadA 4 H3 (.ptr H.length 0 4) = some (.agg [.int .i64 s, .nils, .int .i64 0, .nils]) ∧ Fr [] H H3 ∧ ∀ i, i ≠ H.length → H3[i]? = H2[i]? := fun s H2 f2 => by
    have hz := f2.blk Z no_nil
    have hl2 := (List.getElem?_eq_some_iff.1 hz).1
    refine ⟨_, kstoreA_at (n := 4) hz rfl rfl (by simp), kloadA_at (n := 4) (List.getElem?_set_self hl2) rfl, ⟨by rw [List.length_set]; omega, fun i hi _ => ?_⟩, fun i hi => List.getElem?_set_ne (Ne.symm hi)⟩
    rw [List.getElem?_set_ne (by omega), f2.2 i (by omega) no_nil, f1.2 i hi no_nil]
  have ls := l6State_call
  have run : ∀ {c : List GV} {v : GV} {H' : Heap}, S.spec_l6Escape.n1 0 (fun x v2 v3 h => kend x ((kloadA 4 h v2).bind fun w2 => finH (.tup [w2, v3]) h)) (.int .i64 r) (.ptr H.length 0 4) .nils H1 = some (.tup [.agg c, v], H') → HH fn.spec_l6Escape [.int .i64 r] H = some (.tup [.agg c, v], H') := by
    intro c v H' e
    apply S.spec_l6Escape.gives (k := 0)
    unfold S.spec_l6Escape.run S.spec_l6Escape.n0
    rw [hal]
    exact e
  unfold escM
  by_cases h1 : r = 91
  · rw [if_pos h1]
    rw [decide_eq_true h1] at g1
    obtain ⟨H3, a1, a2, a3, a4⟩ := fin 3 _ .refl
    refine ⟨_, .emp, H3, [], run ?_, rfl, rfl, rfl, no_act', List.nodup_nil, fun i hi => (by cases hi), a3⟩
    simp [g1, ls, a1, a2, -kF_OO, -kbin_eql, -kstore_ptr, -kloadA_ptr]
  rw [if_neg h1]
  rw [decide_eq_false h1] at g1
  by_cases h2 : r = 93
  · rw [if_pos h2]
    rw [decide_eq_true h2] at g2
    obtain ⟨H3, a1, a2, a3, a4⟩ := fin 4 _ .refl
    refine ⟨_, .emp, H3, [], run ?_, rfl, rfl, rfl, no_act', List.nodup_nil, fun i hi => (by cases hi), a3⟩
    simp [g1, g2, ls, a1, a2, -kF_OO, -kbin_eql, -kstore_ptr, -kloadA_ptr]
  rw [if_neg h2]
  rw [decide_eq_false h2] at g2
  cases h3 : inB r 48 126
  · rw [h3] at g3
    obtain ⟨H3, a1, a2, a3, a4⟩ := fin 1 _ .refl
    refine ⟨_, .emp, H3, [], run ?_, rfl, rfl, rfl, no_act', List.nodup_nil, fun i hi => (by cases hi), a3⟩
    simp [g1, g2, g3, ls, a1, a2, -kN_eq, -kF_OO, -kbin_eql, -kstore_ptr, -kloadA_ptr]
  · rw [h3] at g3
    obtain ⟨H3, a1, a2, a3, a4⟩ := fin 1 (H1 ++ [actC 3 r .nils 0 .nils]) .app
    have B : H3[H1.length]? = some (actC 3 r .nils 0 .nils) := by
      rw [a4 _ (by omega)]; simp
    refine ⟨_, .sl H1.length 0 1 1 5, H3, [H1.length], run ?_, rfl, rfl, rfl, act_one B (act_rel no_ints no_ints), by simp, fun i hi => by rw [List.mem_singleton] at hi; omega, a3⟩
    simp [g1, g2, g3, ls, gfill, zeros, kbs_at, a1, a2, -kN_eq, -kF_OO, -kbin_eql, -kstore_ptr, -kloadA_ptr]
theorem l6Step_op {p : ParserT} {H : Heap} {vP vT : GV} {RP RT : List Nat} (h : PV p H vP vT RP RT) (hp : parserB p = true) (r : Int) : ∃ c v H', HH fn.spec_l6Step [.agg (parC p vP vT), .int .i64 r] H = some (.tup [.agg c, v], H') ∧ Stv (stepM p r) H H' c v RP RT := by
  obtain ⟨p1, p2, p3, p4, p5, p6⟩ := parserB_iff.1 hp
  have hb := h.box
  have hbox : ∀ {Q : Type} (K : GV → Heap → Option Q), kbox (.agg (parC p vP vT)) H K = K (.ptr H.length 0 4) (H ++ [parC p vP vT]) := fun K => rfl
  have hal : ∀ {Q : Type} (K : GV → Heap → Option Q), kalloc [.int .i64 0, .nils, .int .i64 0, .nils] (H ++ [parC p vP vT]) K = K (.ptr (H.length + 1) 0 4) (H ++ [parC p vP vT] ++ [zPars]) := fun K => by rw [kalloc_eq]; simp
  have so : ∀ {q : ParserT × List ActionT} {H2 : Heap} {v : GV}, Stp H.length q (H ++ [parC p vP vT] ++ [zPars]) H2 v RP RT → _ := fun s => spec_out h s
  have so2 : ∀ {l : List ActionT} {H2 : Heap} {v : GV} {RA : List Nat} (s : Int) (f : Fr [] (H ++ [parC p vP vT] ++ [zPars]) H2), _ → _ → _ → _ := fun {l H2 v RA} s f a b c => spec_out2 (l := l) (v := v) (RA := RA) h s f a b c
  have cT := cells1 h.tx
  have cP := cells1 h.ps
  have mT := goodInt64S.mem h.tx
  have mP := goodInt64S.mem h.ps
  have f01 : Fr [] H (H ++ [parC p vP vT] ++ [zPars]) := Fr.app.trans .app
  have tP := goodInt64S.keep h.ps f01 (fun _ _ => no_nil)
  have tT := goodInt64S.keep h.tx f01 (fun _ _ => no_nil)
  have hl1 : (H ++ [parC p vP vT] ++ [zPars]).length = H.length + 2 := by simp
  have Z1 : (H ++ [parC p vP vT] ++ [zPars])[H.length + 1]? = some zPars := by simp
  obtain ⟨H1, hH1⟩ : ∃ H1, H ++ [parC p vP vT] ++ [zPars] = H1 := ⟨_, rfl⟩
  simp only [hH1] at hb hal so so2 tP tT hl1 Z1 f01
  have hV1 : PV p H1 vP vT RP RT := ⟨tP, tT, h.np, h.nt, h.dj⟩
  have l0 := kload1_at (o := 0) (tot := 4) hb.cell rfl
  have l3 := kload1_at (o := 3) (tot := 4) hb.cell rfl
  have lA := kloadA_at (n := 4) hb.cell rfl
  simp only [List.getElem?_cons_succ, List.getElem?_cons_zero] at l0 l3
  have g4 : kbin .eql (.int .i64 p.1) (.int .i64 4) = some (.bool (decide (p.1 = 4))) := kbin_eql
  have g5 : kbin .eql (.int .i64 p.1) (.int .i64 5) = some (.bool (decide (p.1 = 5))) := kbin_eql
  have g2 : kbin .eql (.int .i64 p.1) (.int .i64 2) = some (.bool (decide (p.1 = 2))) := kbin_eql
  have g3 : kbin .eql (.int .i64 p.1) (.int .i64 3) = some (.bool (decide (p.1 = 3))) := kbin_eql
  have r7 : kbin .eql (.int .i64 r) (.int .i64 7) = some (.bool (decide (r = 7))) := kbin_eql
  have r92 : kbin .eql (.int .i64 r) (.int .i64 92) = some (.bool (decide (r = 92))) := kbin_eql
  have r27 : kbin .eql (.int .i64 r) (.int .i64 27) = some (.bool (decide (r = 27))) := kbin_eql
  have r24 : kbin .eql (.int .i64 r) (.int .i64 24) = some (.bool (decide (r = 24))) := kbin_eql
  have r26 : kbin .eql (.int .i64 r) (.int .i64 26) = some (.bool (decide (r = 26))) := kbin_eql
  have r32 : kbin .lss (.int .i64 r) (.int .i64 32) = some (.bool (decide (r < 32))) := kbin_lss
  have r127 : kbin .eql (.int .i64 r) (.int .i64 127) = some (.bool (decide (r = 127))) := kbin_eql
  have rw' := k_swidth r
  have gw : kbin .gtr (.int .i64 (widthM r)) (.int .i64 0) = some (.bool (decide (0 < widthM r))) := kbin_gtr
  have ls := l6State_call
  -- a title is told
  have tell : ∃ H3, kstore 4 (H1 ++ [actC 5 0 .nils 0 vT]) (.ptr (H.length + 1) 0 4) (.agg [.int .i64 1, .nils, .int .i64 0, .nils]) = some H3 ∧ kloadA 4 H3 (.ptr (H.length + 1) 0 4) = some (.agg [.int .i64 1, .nils, .int .i64 0, .nils]) ∧ Stv (st0 1, [(5, 0, [], 0, p.2.2.2)]) H H3 [.int .i64 1, .nils, .int .i64 0, .nils] (.sl H1.length 0 1 1 5) RP RT := by
    have f2 : Fr [] H1 (H1 ++ [actC 5 0 .nils 0 vT]) := .app
    exact so2 (RA := H1.length :: ([] ++ RT)) 1 f2 (act_one (by simp) (act_rel no_ints (goodInt64S.keep tT f2 (fun _ _ => no_nil)))) (by
      rw [List.nil_append, List.nodup_cons]
      exact ⟨fun h' => by have := mT _ h'; omega, h.nt⟩) (fun i hi => by
      rcases List.mem_cons.1 hi with rfl | hi
      · exact Or.inr (Or.inr (by omega))
      · exact Or.inr (Or.inl (by simpa using hi)))
  have y1 : ¬ (H.length + 1 = H.length) := by omega
  have y2 : ¬ (H1.length ≤ H.length + 1) := by omega
  have y3 : ¬ (H1.length ≤ H.length) := by omega
  have y4 : ¬ (H1.length + 1 ≤ H.length) := by omega
  have run : ∀ {c : List GV} {v : GV} {H' : Heap}, S.spec_l6Step.n5 0 (fun x v2 v4 v5 v6 h => kb 0 x fun x => kx x (S.spec_l6Step.n3 0 (fun x v4 v5 h => kend x ((kloadA 4 h v4).bind fun w4 => finH (.tup [w4, v5]) h)) v2 v4 v6 h) (kend x ((kloadA 4 h v4).bind fun w4 => finH (.tup [w4, v5]) h))) (.int .i64 r) (.ptr H.length 0 4) (.ptr (H.length + 1) 0 4) .nils .emp H1 = some (.tup [.agg c, v], H') → HH fn.spec_l6Step [.agg (parC p vP vT), .int .i64 r] H = some (.tup [.agg c, v], H') := by
    intro c v H' e
    apply S.spec_l6Step.gives (k := 0)
    unfold S.spec_l6Step.run S.spec_l6Step.n0
    rw [hbox, hal]
    exact e
  unfold stepM
  by_cases c4 : p.1 = 4
  · rw [if_pos c4]
    rw [decide_eq_true c4] at g4
    unfold titleM endedM
    by_cases h7 : r = 7
    · rw [if_pos h7]
      rw [decide_eq_true h7] at r7
      obtain ⟨H3, o1, o2, o3⟩ := tell
      refine ⟨_, .sl H1.length 0 1 1 5, H3, run ?_, by simpa using o3⟩
      simp [l0, g4, r7, ls, l3, gfill, zeros, cT.1, cT.2, kbs_at, o1, o2, -kN_eq, -kF_OO, -kbin_eql, -kload1_ptr, -kstore_ptr, -kloadA_ptr]
      simp [chk, meets, touches, kborr, y1, y2, y3, y4]
    rw [if_neg h7]
    rw [decide_eq_false h7] at r7
    by_cases h27 : r = 27
    · rw [if_pos h27]
      rw [decide_eq_true h27] at r27
      obtain ⟨H2, a1, a2⟩ := hb.setS 5
      obtain ⟨c, H3, o1, o2, o3, o4⟩ := so a2.emp
      refine ⟨c, .emp, H3, run ?_, o4⟩
      simp [l0, g4, r7, r27, a1, o1, o2, o3, -kbin_eql, -kload1_ptr, -kstore_ptr, -kloadA_ptr]
    rw [if_neg h27]
    rw [decide_eq_false h27] at r27
    have ln := RSl.len h.tx
    have g40 : kbin .lss (.int .i64 (p.2.2.2.length : Int)) (.int .i64 40) = some (.bool (decide (p.2.2.2.length < 40))) := by rw [kbin_lss]; congr 2; rw [Bool.eq_iff_iff]; simp; omega
    by_cases h40 : p.2.2.2.length < 40
    · rw [if_pos h40]
      rw [decide_eq_true h40] at g40
      obtain ⟨v', H4, H5, a1, a2, a3⟩ := hb.pushT (by omega) r
      obtain ⟨c, H3, o1, o2, o3, o4⟩ := so a3.emp
      refine ⟨c, .emp, H3, run ?_, o4⟩
      simp [l0, g4, r7, r27, l3, ln, g40, gfill, zeros, kbs_at, a1, a2, o1, o2, o3, -kbin_eql, -kbin_lss, -kload1_ptr, -kstore_ptr, -kloadA_ptr]
    · rw [if_neg h40]
      rw [decide_eq_false h40] at g40
      obtain ⟨c, H3, o1, o2, o3, o4⟩ := so (Stp.same hb).emp
      refine ⟨c, .emp, H3, run ?_, o4⟩
      simp [l0, g4, r7, r27, l3, ln, g40, o1, o2, o3, -kbin_eql, -kbin_lss, -kload1_ptr, -kstore_ptr, -kloadA_ptr]
  rw [if_neg c4]
  rw [decide_eq_false c4] at g4
  by_cases c5 : p.1 = 5
  · rw [if_pos c5]
    rw [decide_eq_true c5] at g5
    unfold endedM
    by_cases h92 : r = 92
    · rw [if_pos h92]
      rw [decide_eq_true h92] at r92
      obtain ⟨H3, o1, o2, o3⟩ := tell
      refine ⟨_, .sl H1.length 0 1 1 5, H3, run ?_, o3⟩
      simp [l0, g4, g5, r92, ls, l3, gfill, zeros, cT.1, cT.2, kbs_at, o1, o2, -kN_eq, -kF_OO, -kbin_eql, -kload1_ptr, -kstore_ptr, -kloadA_ptr]
      simp [chk, meets, touches, kborr, y1, y2, y3, y4]
    · rw [if_neg h92]
      rw [decide_eq_false h92] at r92
      obtain ⟨H3, o2, o3, o4⟩ := so2 (l := []) (v := .emp) (RA := []) (H2 := H1) 1 .refl no_act' List.nodup_nil (fun i hi => by (cases hi))
      refine ⟨_, .emp, H3, run ?_, o4⟩
      simp [l0, g4, g5, r92, ls, o2, o3, -kF_OO, -kbin_eql, -kload1_ptr, -kstore_ptr, -kloadA_ptr]
  rw [if_neg c5]
  rw [decide_eq_false c5] at g5
  by_cases c27 : r = 27
  · rw [if_pos c27]
    rw [decide_eq_true c27] at r27
    obtain ⟨H3, o2, o3, o4⟩ := so2 (l := []) (v := .emp) (RA := []) (H2 := H1) 2 .refl no_act' List.nodup_nil (fun i hi => by (cases hi))
    refine ⟨_, .emp, H3, run ?_, o4⟩
    simp [l0, g4, g5, r27, ls, o2, o3, -kF_OO, -kbin_eql, -kload1_ptr, -kstore_ptr, -kloadA_ptr]
  rw [if_neg c27]
  rw [decide_eq_false c27] at r27
  by_cases c24 : r = 24 ∨ r = 26
  · rw [if_pos c24]
    obtain ⟨H3, o2, o3, o4⟩ := so2 (l := []) (v := .emp) (RA := []) (H2 := H1) 1 .refl no_act' List.nodup_nil (fun i hi => by (cases hi))
    refine ⟨_, .emp, H3, run ?_, o4⟩
    by_cases c : r = 24
    · rw [decide_eq_true c] at r24
      simp [l0, g4, g5, r27, r24, ls, o2, o3, -kF_OO, -kbin_eql, -kload1_ptr, -kstore_ptr, -kloadA_ptr]
    · have c26 := c24.resolve_left c
      rw [decide_eq_false c] at r24
      rw [decide_eq_true c26] at r26
      simp [l0, g4, g5, r27, r24, r26, ls, o2, o3, -kF_OO, -kbin_eql, -kload1_ptr, -kstore_ptr, -kloadA_ptr]
  rw [if_neg c24]
  rw [decide_eq_false (fun c => c24 (Or.inl c))] at r24
  rw [decide_eq_false (fun c => c24 (Or.inr c))] at r26
  have emit : ∀ k : Int, ∃ H3, kstore 4 (H1 ++ [actC k r .nils 0 .nils]) (.ptr (H.length + 1) 0 4) (.agg (parC p vP vT)) = some H3 ∧ kloadA 4 H3 (.ptr (H.length + 1) 0 4) = some (.agg (parC p vP vT)) ∧ Stv (p, [(k, r, [], 0, [])]) H H3 (parC p vP vT) (.sl H1.length 0 1 1 5) RP RT := fun k => by
    have s := Stp.emit hb k r
    obtain ⟨c, H3, o1, o2, o3, o4⟩ := so s
    have e : kloadA 4 (H1 ++ [actC k r .nils 0 .nils]) (.ptr H.length 0 4) = some (.agg (parC p vP vT)) := kloadA_at (n := 4) (by rw [List.getElem?_append_left (by omega)]; exact hb.cell) rfl
    rw [e] at o1
    cases o1
    exact ⟨H3, o2, o3, o4⟩
  by_cases cc : r < 32 ∨ r = 127
  · rw [if_pos cc]
    obtain ⟨H3, o1, o2, o3⟩ := emit 2
    refine ⟨_, _, H3, run ?_, o3⟩
    by_cases c : r < 32
    · rw [decide_eq_true c] at r32
      simp [l0, g4, g5, r27, r24, r26, r32, lA, gfill, zeros, kbs_at, o1, o2, -kN_eq, -kbin_eql, -kbin_lss, -kload1_ptr, -kstore_ptr, -kloadA_ptr]
    · rw [decide_eq_false c] at r32
      rw [decide_eq_true (cc.resolve_left c)] at r127
      simp [l0, g4, g5, r27, r24, r26, r32, r127, lA, gfill, zeros, kbs_at, o1, o2, -kN_eq, -kbin_eql, -kbin_lss, -kload1_ptr, -kstore_ptr, -kloadA_ptr]
  rw [if_neg cc]
  rw [decide_eq_false (fun c => cc (Or.inl c))] at r32
  rw [decide_eq_false (fun c => cc (Or.inr c))] at r127
  by_cases c2 : p.1 = 2
  · rw [if_pos c2]
    rw [decide_eq_true c2] at g2
    obtain ⟨c, v, H2, RA, e1, rfl, e3, e4, e5, e6, e7, e8⟩ := l6Escape_op r H1
    have Z2 := e8.blk Z1 no_nil
    have s2 := kstoreA_at (n := 4) Z2 rfl (c' := parC (escM r).1 .nils .nils) rfl (by simp)
    have hl2 := (List.getElem?_eq_some_iff.1 Z2).1
    have a3 := kloadA_at (n := 4) (H := H2.set (H.length + 1) (parC (escM r).1 .nils .nils)) (p := H.length + 1) (c := parC (escM r).1 .nils .nils) (List.getElem?_set_self hl2) rfl
    have f3 : Fr [H.length + 1] H2 (H2.set (H.length + 1) (parC (escM r).1 .nils .nils)) := .set (by simp)
    refine ⟨parC (escM r).1 .nils .nils, v, _, run ?_, .nils, .nils, [], [], RA, rfl, ⟨by rw [e3]; exact no_ints, by rw [e4]; exact no_ints, List.nodup_nil, List.nodup_nil, fun i hi => by (cases hi)⟩, goodActionS.keep e5 f3 (fun i hi h' => by rw [List.mem_singleton] at h'; have := e7 i hi; omega), e6, fun i hi => ⟨no_nil, no_nil⟩, fun i hi => ?_, ?_⟩
    · simp [l0, g4, g5, r27, r24, r26, r32, r127, g2, e1, s2, a3, -kN_eq, -kbin_eql, -kbin_lss, -kload1_ptr, -kstore_ptr, -kloadA_ptr]
    · rcases hi with hi | hi | hi
      · cases hi
      · cases hi
      · have := e7 i hi; exact Or.inr (Or.inr (by omega))
    · have := (f01.trans e8).1
      refine ⟨by rw [List.length_set]; omega, fun i hi hn => ?_⟩
      rw [List.getElem?_set_ne (by omega), (f01.trans e8).2 i hi no_nil]
  rw [if_neg c2]
  rw [decide_eq_false c2] at g2
  by_cases c3 : p.1 = 3
  · rw [if_pos c3]
    rw [decide_eq_true c3] at g3
    obtain ⟨c, v, H2, e1, wP, wT, SP, ST, SA, rfl, b1, b2, b3, b4, b5, b6⟩ := l6List_op hV1 p2 r
    have Z2 := b6.blk Z1 (fun h' => by
      rcases List.mem_append.1 h' with h' | h'
      · have := mP _ h'; omega
      · have := mT _ h'; omega)
    have kP := cells1 b1.ps
    have kT := cells1 b1.tx
    have s2 := kstoreA_at (n := 4) Z2 rfl (c' := parC (moreM p r).1 wP wT) rfl (by simp [kP.2, kT.2])
    have hl2 := (List.getElem?_eq_some_iff.1 Z2).1
    have a3 := kloadA_at (n := 4) (H := H2.set (H.length + 1) (parC (moreM p r).1 wP wT)) (p := H.length + 1) (c := parC (moreM p r).1 wP wT) (List.getElem?_set_self hl2) rfl
    have f3 : Fr [H.length + 1] H2 (H2.set (H.length + 1) (parC (moreM p r).1 wP wT)) := .set (by simp)
    have no : ∀ i, i ∈ SP ∨ i ∈ ST ∨ i ∈ SA → i ∉ [H.length + 1] := fun i hi h' => by
      rw [List.mem_singleton] at h'
      rcases b5 i hi with h'' | h'' | h''
      · have := mP i h''; omega
      · have := mT i h''; omega
      · omega
    refine ⟨parC (moreM p r).1 wP wT, v, _, run ?_, wP, wT, SP, ST, SA, rfl, ⟨goodInt64S.keep b1.ps f3 (fun i hi => no i (Or.inl hi)), goodInt64S.keep b1.tx f3 (fun i hi => no i (Or.inr (Or.inl hi))), b1.np, b1.nt, b1.dj⟩, goodActionS.keep b2 f3 (fun i hi => no i (Or.inr (Or.inr hi))), b3, b4, fun i hi => ?_, ?_⟩
    · simp [l0, g4, g5, r27, r24, r26, r32, r127, g2, g3, lA, e1, s2, a3, -kN_eq, -kbin_eql, -kbin_lss, -kload1_ptr, -kstore_ptr, -kloadA_ptr]
    · rcases b5 i hi with h'' | h'' | h''
      · exact Or.inl h''
      · exact Or.inr (Or.inl h'')
      · exact Or.inr (Or.inr (by omega))
    · have l2 := b6.1
      refine ⟨by rw [List.length_set]; omega, fun i hi hn => ?_⟩
      rw [List.getElem?_set_ne (by omega), b6.2 i (by omega) hn, f01.2 i hi no_nil]
  rw [if_neg c3]
  rw [decide_eq_false c3] at g3
  by_cases cw : 0 < widthM r
  · rw [if_pos cw]
    rw [decide_eq_true cw] at gw
    obtain ⟨H3, o1, o2, o3⟩ := emit 1
    refine ⟨_, _, H3, run ?_, o3⟩
    simp [l0, g4, g5, r27, r24, r26, r32, r127, g2, g3, rw', gw, lA, gfill, zeros, kbs_at, o1, o2, -kN_eq, -kbin_eql, -kbin_lss, -kbin_gtr, -kload1_ptr, -kstore_ptr, -kloadA_ptr]
  · rw [if_neg cw]
    rw [decide_eq_false cw] at gw
    obtain ⟨c, H3, o1, o2, o3, o4⟩ := so (Stp.same hb).emp
    rw [lA] at o1
    cases o1
    refine ⟨_, .emp, H3, run ?_, o4⟩
    simp [l0, g4, g5, r27, r24, r26, r32, r127, g2, g3, rw', gw, lA, o2, o3, -kN_eq, -kbin_eql, -kbin_lss, -kbin_gtr, -kload1_ptr, -kstore_ptr, -kloadA_ptr]
end Go.Proofs.Ytlbnioapepelnaa.G

namespace Go.Proofs.Ytlbnioapepelnaa.G
open Go.RowKit
theorem rInt_frz {d : Nat} {h : Heap} : ∀ c x R, rInt64S h c x R → Frz (d + 2) h c [fzl false 1 ci x] := RSl.frz' (RFl.good (es := 1) (mk := ci) (fun _ => rfl) (fun _ => rfl)) (flat_frz (fun _ => rfl))
theorem rParser_frz {d : Nat} {h : Heap} : ∀ c x R, rParser h c x R → Frz (d + 2) h c (mParser false x) :=
  RSeq.frz (flat_frz (fun _ => rfl)) (RSeq.frz rInt_frz (RSeq.frz (flat_frz (fun _ => rfl)) rInt_frz))
theorem rAction_frz {d : Nat} {h : Heap} : ∀ c x R, rAction h c x R → Frz (d + 2) h c (mAction false x) :=
  RSeq.frz (flat_frz (fun _ => rfl)) (RSeq.frz (flat_frz (fun _ => rfl)) (RSeq.frz rInt_frz (RSeq.frz (flat_frz (fun _ => rfl)) rInt_frz)))
theorem rActionS_frz {d : Nat} {h : Heap} : ∀ c x R, rActionS h c x R → Frz (d + 3) h c [fzl false 5 (mAction false) x] := RSl.frz' goodAction rAction_frz
theorem fin_pair {h : Heap} {c : List GV} {v : GV} {p : ParserT} {l : List ActionT} {R S : List Nat} (hp : rParser h c p R) (hl : rActionS h [v] l S) : finN (.tup [.agg c, v]) h = some (.tup [.agg (mParser false p), fzl false 5 (mAction false) l]) := by
  obtain ⟨ys, a1, a2⟩ := rActionS_frz (d := 5) _ _ _ hl
  have e : ∃ r, frz 8 h v = some (fzl false 5 (mAction false) l, r) := by
    rw [List.mapM_cons] at a1
    obtain ⟨y, b1, b2⟩ := obsi.1 a1
    simp only [List.mapM_nil, Option.pure_def, Option.bind_some, Option.bind_eq_bind, Option.some.injEq] at b2
    subst b2
    simp only [List.map_cons, List.map_nil, List.cons.injEq, and_true] at a2
    exact ⟨y.2, by rw [b1, ← a2]⟩
  obtain ⟨r, e⟩ := e
  exact finN_of (frz_tup (.cons (frz_agg (rParser_frz (d := 5) _ _ _ hp)) (.cons e .nil)))
theorem copyI {xs : List Int} (hm : xs.length ≤ 1048576) (H : Heap) : ∃ v H' R, kapp [.int .i64 0] 1 8 .emp (fzl true 1 ci xs) H = some (v, H') ∧ rInt64S H' [v] xs R ∧ R.Nodup ∧ (∀ i ∈ R, H.length ≤ i) ∧ Fr [] H H' := by
  have hk := kapp_emp (mk := ci) (es := 1) (b := 8) (z := [.int .i64 0]) (t := true) (xs := xs) (h := H) (fun _ => rfl) (fun _ => rfl) rfl (by omega) (by omega)
  by_cases h0 : xs.length = 0
  · rw [if_pos h0] at hk
    have hz := List.eq_nil_of_length_eq_zero h0
    subst hz
    exact ⟨_, _, [], hk, Or.inl ⟨rfl, rfl, Or.inl rfl⟩, List.nodup_nil, fun i hi => (by cases hi), .refl⟩
  · rw [if_neg h0] at hk
    exact ⟨_, _, _, hk, rNewI (by simp), by simp, fun i hi => by rw [List.mem_singleton] at hi; omega, .app⟩
theorem spec_l6Copy_spec (p : ParserT) (hm : okParser p) (b : Nat) : ∃ c bl, OO fn.spec_l6Copy [.agg (mParser true p)] b = some (.agg c, bl) ∧ ∀ H T, H.length = b → rParser (H ++ bl ++ T) c p (List.range' b bl.length) := by
  obtain ⟨s, ps, m, tx⟩ := p
  obtain ⟨hp, ht⟩ : ps.length ≤ 1048576 ∧ tx.length ≤ 1048576 := hm
  obtain ⟨H0, hH0⟩ : ∃ H0 : Heap, [mParser true (s, ps, m, tx), zPars] = H0 := ⟨_, rfl⟩
  have A0 : H0[0]? = some [.int .i64 s, fzl true 1 ci ps, .int .i64 m, fzl true 1 ci tx] := by rw [← hH0]; rfl
  have Z0 : H0[1]? = some zPars := by rw [← hH0]; rfl
  have l0 : H0.length = 2 := by rw [← hH0]; rfl
  have q1 := kload1_at (o := 1) (tot := 4) A0 rfl
  obtain ⟨v5, H1, R5, c1, r1, n1, b1, f1⟩ := copyI hp H0
  have A1 := f1.blk A0 no_nil
  have Z1 := f1.blk Z0 no_nil
  have e5 := cells1 r1
  have l1 := f1.1
  have s1 := kstore_at (o := 1) (x := v5) A1 rfl (tot := 4) (by omega) e5.1 e5.2
  obtain ⟨H3, hH3⟩ : ∃ H3, H1.set 0 ([GV.int .i64 s, fzl true 1 ci ps, .int .i64 m, fzl true 1 ci tx].set 1 v5) = H3 := ⟨_, rfl⟩
  rw [hH3] at s1
  have hl1 := (List.getElem?_eq_some_iff.1 A1).1
  have A3 : H3[0]? = some [.int .i64 s, v5, .int .i64 m, fzl true 1 ci tx] := by rw [← hH3, List.getElem?_set_self hl1]; rfl
  have f3 : Fr [0] H1 H3 := by rw [← hH3]; exact .set (by simp)
  have Z3 := f3.blk Z1 (by simp)
  have l3 := f3.1
  have q3 := kload1_at (o := 3) (tot := 4) A3 rfl
  obtain ⟨v8, H4, R8, c2, r2, n2, b2, f4⟩ := copyI ht H3
  have A4 := f4.blk A3 no_nil
  have Z4 := f4.blk Z3 no_nil
  have e8 := cells1 r2
  have l4 := f4.1
  have s2 := kstore_at (o := 3) (x := v8) A4 rfl (tot := 4) (by omega) e8.1 e8.2
  obtain ⟨H5, hH5⟩ : ∃ H5, H4.set 0 ([GV.int .i64 s, v5, .int .i64 m, fzl true 1 ci tx].set 3 v8) = H5 := ⟨_, rfl⟩
  rw [hH5] at s2
  have hl4 := (List.getElem?_eq_some_iff.1 A4).1
  have A5 : H5[0]? = some [.int .i64 s, v5, .int .i64 m, v8] := by rw [← hH5, List.getElem?_set_self hl4]; rfl
  have f5 : Fr [0] H4 H5 := by rw [← hH5]; exact .set (by simp)
  have Z5 := f5.blk Z4 (by simp)
  have a1 := kloadA_at (n := 4) A5 rfl
  have s3 := kstoreA_at (n := 4) Z5 rfl (c' := [.int .i64 s, v5, .int .i64 m, v8]) rfl (by simp [e5.2, e8.2])
  obtain ⟨H6, hH6⟩ : ∃ H6, H5.set 1 [.int .i64 s, v5, .int .i64 m, v8] = H6 := ⟨_, rfl⟩
  rw [hH6] at s3
  have hl5 := (List.getElem?_eq_some_iff.1 Z5).1
  have A6 : H6[1]? = some [.int .i64 s, v5, .int .i64 m, v8] := by rw [← hH6, List.getElem?_set_self hl5]
  have f6 : Fr [1] H5 H6 := by rw [← hH6]; exact .set (by simp)
  have a2 := kloadA_at (n := 4) A6 rfl
  have fr1 : Fr [0, 1] H1 H6 := (f3.sub (by simp)).trans ((f4.sub (fun _ h => by cases h)).trans ((f5.sub (by simp)).trans (f6.sub (by simp))))
  have fr2 : Fr [0, 1] H4 H6 := (f5.sub (by simp)).trans (f6.sub (by simp))
  have r16 := goodInt64S.keep r1 fr1 (fun i hi h => by have := b1 i hi; simp at h; omega)
  have r26 := goodInt64S.keep r2 fr2 (fun i hi h => by have := b2 i hi; simp at h; omega)
  have nd : (R5 ++ R8).Nodup := by
    rw [List.nodup_append]
    exact ⟨n1, n2, fun i hi k hk e => by have := goodInt64S.mem r1 i hi; have := b2 k hk; omega⟩
  obtain ⟨c, bl, o1, o2⟩ := goodParser.finS (by omega) (parser_rel (s := s) (m := m) r16 r26) nd b
  refine ⟨c, bl, S.spec_l6Copy.gives (k := 0) ?_, o2⟩
  have hbox : ∀ {Q : Type} (K : GV → Heap → Option Q), kbox (.agg (mParser true (s, ps, m, tx))) [] K = K (.ptr 0 0 4) [mParser true (s, ps, m, tx)] := fun K => rfl
  have hal : ∀ {Q : Type} (K : GV → Heap → Option Q), kalloc [.int .i64 0, .nils, .int .i64 0, .nils] [mParser true (s, ps, m, tx)] K = K (.ptr 1 0 4) H0 := fun K => by rw [kalloc_eq, ← hH0]; rfl
  unfold S.spec_l6Copy.run S.spec_l6Copy.n0
  rw [hbox, hal]
  simp only [List.getElem?_cons_succ, List.getElem?_cons_zero] at q1 q3
  simp [q1, c1, s1, q3, c2, s2, a1, s3, a2, o1, -kload1_ptr, -kstore_ptr, -kloadA_ptr]
theorem par_open {H : Heap} {c : List GV} {p : ParserT} {R : List Nat} (h : rParser H c p R) (nd : R.Nodup) : ∃ vP vT RP RT, c = parC p vP vT ∧ PV p H vP vT RP RT ∧ R = RP ++ RT := by
  obtain ⟨x1, y1, S1, S2, e1, e2, ⟨rfl, rfl⟩, x2, y2, S3, S4, rfl, rfl, i1, x3, y3, S5, S6, rfl, rfl, ⟨rfl, rfl⟩, i2⟩ := h
  obtain ⟨vP, rfl⟩ := List.length_eq_one_iff.1 (goodInt64S.len i1)
  obtain ⟨vT, rfl⟩ := List.length_eq_one_iff.1 (goodInt64S.len i2)
  have e3 : R = S3 ++ S6 := by rw [e2]; rfl
  rw [e3, List.nodup_append] at nd
  exact ⟨vP, vT, S3, S6, by rw [e1]; rfl, ⟨i1, i2, nd.1, nd.2.1, fun i hi hj => nd.2.2 i hi i hj rfl⟩, e3⟩
theorem PV.rel {H : Heap} {p : ParserT} {vP vT : GV} {RP RT : List Nat} (h : PV p H vP vT RP RT) : rParser H (parC p vP vT) p (RP ++ RT) := parser_rel h.ps h.tx
theorem spec_Step_spec (p : ParserT) (hm : okParser p) (r : Int) : NN fn.spec_Step [.agg (mParser true p), .int .i64 r] = some (.tup [.agg (mParser false (parsedM p [r]).1), fzl false 5 (mAction false) (parsedM p [r]).2]) := by
  have hML : (mParser true p).length = 4 := rfl
  have bM : ∀ (H : Heap) (gs zs : List GV), bors H gs = some zs → bors H (.agg (mParser true p) :: gs) = some (.agg (mParser true p) :: zs) := fun H gs zs h => by
    rw [bors_cons, h]; simp
  have ko := spec_ParserOk_spec p hm
  have cp := fun H => fresh_agg goodParser (f := fn.spec_l6Copy) (args := [.agg (mParser true p)]) (xs := [.agg (mParser true p)]) (H := H) (x := p) (bM _ _ _ (by simp)) (spec_l6Copy_spec p hm H.length)
  obtain ⟨M, hM⟩ : ∃ M, mParser true p = M := ⟨_, rfl⟩
  rw [hM] at hML ko ⊢
  simp only [hM] at bM cp
  obtain ⟨H0, hH0⟩ : ∃ H0 : Heap, [M, zPars] = H0 := ⟨_, rfl⟩
  have A0 : H0[0]? = some M := by rw [← hH0]; rfl
  have Z0 : H0[1]? = some zPars := by rw [← hH0]; rfl
  have l0 : H0.length = 2 := by rw [← hH0]; rfl
  have hbox : ∀ {Q : Type} (K : GV → Heap → Option Q), kbox (.agg M) [] K = K (.ptr 0 0 4) [M] := fun K => by rw [kbox_agg, hML]; rfl
  have hal : ∀ {Q : Type} (K : GV → Heap → Option Q), kalloc zPars [M] K = K (.ptr 1 0 4) H0 := fun K => by rw [kalloc_eq, ← hH0]; rfl
  have ko' : kN NN fn.spec_ParserOk [.agg M] H0 = some (.bool (parserB p)) := kN_at (bM _ _ _ (by simp)) ko
  have kr' := k_srune r H0
  have a0 := kloadA_at (n := 4) A0 hML
  have bad : ∀ (hb : (parserB p && [r].all runeB) = false), NN fn.spec_Step [.agg M, .int .i64 r] = some (.tup [.agg (mParser false (parsedM p [r]).1), fzl false 5 (mAction false) (parsedM p [r]).2]) := fun hb => by
    have e : parsedM p [r] = ((0, [], 0, []), []) := by unfold parsedM; rw [hb]; rfl
    rw [e]
    have s1 := kstoreA_at (n := 4) Z0 rfl (c' := zPars) rfl (by simp)
    have e1 : H0.set 1 zPars = H0 := by rw [← hH0]; rfl
    rw [e1] at s1
    have a1 := kloadA_at (n := 4) Z0 rfl
    have o1 := fin_pair (parser_rel (s := 0) (m := 0) (H := H0) no_ints no_ints) (no_act' (H := H0))
    apply S.spec_Step.gives (k := 0)
    unfold S.spec_Step.run S.spec_Step.n0
    rw [hbox, hal]
    cases hp : parserB p
    · rw [hp] at ko'
      simp [a0, ko', gfill, s1, a1, o1, -kN_eq, -kloadA_ptr, -kstore_ptr]
    · rw [hp] at hb ko'
      have hr : runeB r = false := by simpa using hb
      rw [hr] at kr'
      simp [a0, ko', kr', gfill, s1, a1, o1, -kN_eq, -kloadA_ptr, -kstore_ptr]
  cases hb : (parserB p && [r].all runeB)
  · exact bad hb
  have e : parsedM p [r] = stepM p r := by unfold parsedM; rw [if_pos hb]; simp [runM]
  rw [e]
  simp only [List.all_cons, List.all_nil, Bool.and_true, Bool.and_eq_true] at hb
  rw [hb.1] at ko'
  rw [hb.2] at kr'
  obtain ⟨c1, R1, H1, t1, r1, n1, b1, f1, l1⟩ := cp H0
  obtain ⟨vP, vT, RP, RT, rfl, pv, rfl⟩ := par_open r1 n1
  obtain ⟨c2, v, H2, e1, wP, wT, SP, ST, SA, rfl, k1, k2, k3, k4, k5, k6⟩ := l6Step_op pv hb.1 r
  have Z1 := f1.blk Z0 no_nil
  have Z2 := k6.blk Z1 (b1.no (by omega))
  have cP := cells1 k1.ps
  have cT := cells1 k1.tx
  have s2 := kstoreA_at (n := 4) Z2 rfl (c' := parC (stepM p r).1 wP wT) rfl (by simp [cP.2, cT.2])
  obtain ⟨H3, hH3⟩ : ∃ H3, H2.set 1 (parC (stepM p r).1 wP wT) = H3 := ⟨_, rfl⟩
  rw [hH3] at s2
  have hl2 := (List.getElem?_eq_some_iff.1 Z2).1
  have A3 : H3[1]? = some (parC (stepM p r).1 wP wT) := by rw [← hH3, List.getElem?_set_self hl2]
  have f3 : Fr [1] H2 H3 := by rw [← hH3]; exact .set (by simp)
  have a3 := kloadA_at (n := 4) A3 rfl
  have lo : ∀ i, i ∈ SP ∨ i ∈ ST ∨ i ∈ SA → i ∉ [1] := fun i hi h => by
    rw [List.mem_singleton] at h
    rcases k5 i hi with h' | h' | h'
    · have := b1 i (List.mem_append_left _ h'); omega
    · have := b1 i (List.mem_append_right _ h'); omega
    · omega
  have o1 := fin_pair (parser_rel (s := (stepM p r).1.1) (m := (stepM p r).1.2.2.1) (goodInt64S.keep k1.ps f3 (fun i hi => lo i (Or.inl hi))) (goodInt64S.keep k1.tx f3 (fun i hi => lo i (Or.inr (Or.inl hi))))) (goodActionS.keep k2 f3 (fun i hi => lo i (Or.inr (Or.inr hi))))
  apply S.spec_Step.gives (k := 0)
  unfold S.spec_Step.run S.spec_Step.n0
  rw [hbox, hal]
  simp [a0, ko', kr', t1, e1, s2, a3, o1, -kN_eq, -kF_OO, -kloadA_ptr, -kstore_ptr]
end Go.Proofs.Ytlbnioapepelnaa.G

namespace Go.Proofs.Ytlbnioapepelnaa.G
open Go.RowKit
theorem stepM_acts {p : ParserT} {r : Int} (h : parserB p = true) : ∀ a ∈ (stepM p r).2, a.2.2.1.length ≤ 16 ∧ a.2.2.2.2.length ≤ 40 := by
  obtain ⟨a1, ⟨a2, a3⟩, a4, a5, a6, a7⟩ := parserB_iff.1 h
  have one : ∀ (q : ParserT) (c : Prop) [Decidable c] (x : ActionT), (x.2.2.1.length ≤ 16 ∧ x.2.2.2.2.length ≤ 40) → ∀ a ∈ ((q, if c then [x] else []) : ParserT × List ActionT).2, a.2.2.1.length ≤ 16 ∧ a.2.2.2.2.length ≤ 40 := fun q c _ x hx a ha => by
    simp only at ha
    split at ha
    · rw [List.mem_singleton] at ha; rw [ha]; exact hx
    · cases ha
  have no : ∀ a ∈ ([] : List ActionT), a.2.2.1.length ≤ 16 ∧ a.2.2.2.2.length ≤ 40 := fun a ha => by cases ha
  unfold stepM
  split
  · unfold titleM endedM
    split
    · refine one _ _ _ ?_; exact ⟨Nat.zero_le _, a5.1⟩
    · split
      · exact no
      · split <;> exact no
  · split
    · refine one _ _ _ ?_; exact ⟨Nat.zero_le _, a5.1⟩
    · split
      · exact no
      · split
        · exact no
        · split
          · intro a ha; simp only [List.mem_singleton] at ha; rw [ha]; simp
          · split
            · unfold escM
              split
              · exact no
              · split
                · exact no
                · refine one _ _ _ ?_; exact ⟨Nat.zero_le _, Nat.zero_le _⟩
            · split
              · unfold moreM
                split
                · exact no
                · split
                  · exact no
                  · split
                    · exact no
                    · refine one _ _ _ ?_; exact ⟨a2, Nat.zero_le _⟩
              · refine one _ _ _ ?_; exact ⟨Nat.zero_le _, Nat.zero_le _⟩
theorem runM_acts : ∀ (l : List Int) {p : ParserT}, parserB p = true → l.all runeB = true → ∀ a ∈ (runM l p).2, a.2.2.1.length ≤ 16 ∧ a.2.2.2.2.length ≤ 40
  | [], p, _, _ => fun a ha => by cases ha
  | r :: l, p, h, hl => fun a ha => by
    rw [List.all_cons, Bool.and_eq_true] at hl
    rcases List.mem_append.1 ha with ha | ha
    · exact stepM_acts h a ha
    · exact runM_acts l (stepM_ok h hl.1) hl.2 a ha
theorem parsedM_acts (p : ParserT) (l : List Int) (hl : l.length ≤ 1048576) : okActionS (parsedM p l).2 := by
  unfold parsedM
  split
  · rename_i h
    rw [Bool.and_eq_true] at h
    refine ⟨Nat.le_trans (runM_len l p) hl, fun a ha => ?_⟩
    have := runM_acts l h.1 h.2 a ha
    exact ⟨by show a.2.2.1.length ≤ 1048576; omega, by show a.2.2.2.2.length ≤ 1048576; omega⟩
  · exact ⟨Nat.zero_le _, fun a ha => by cases ha⟩
def stepL (p : ParserT) (r : Int) : ParserT × List ActionT := parsedM p [r]
theorem stepL_ok (p : ParserT) (hm : okParser p) (r : Int) : okParser (stepL p r).1 ∧ okActionS (stepL p r).2 := ⟨pairM_ok, parsedM_acts p [r] (by simp)⟩
theorem parsed2M_ok (p : ParserT) (hm : okParser p) (l : List Int) (hl : okInt64S l) : okParser (parsed2M p l).1 ∧ okActionS (parsed2M p l).2 := by
  unfold parsed2M
  split
  · exact ⟨pairM_ok, parsedM_acts p l hl⟩
  · exact ⟨⟨Nat.zero_le _, Nat.zero_le _⟩, Nat.zero_le _, fun a ha => by cases ha⟩
theorem spec_StepL (p : ParserT) (hm : okParser p) (r : Int) : NN fn.spec_Step [.agg (mParser true p), .int .i64 r] = some (.tup [.agg (mParser false (stepL p r).1), fzl false 5 (mAction false) (stepL p r).2]) := spec_Step_spec p hm r
theorem impl_StepL (p : ParserT) (hm : okParser p) (r : Int) (b : Nat) : ∃ c v bl n, OO fn.impl_Step [.agg (mParser true p), .int .i64 r] b = some (.tup [.agg c, v], bl) ∧ n ≤ bl.length ∧ ∀ H T, H.length = b → rParser (H ++ bl ++ T) c (stepL p r).1 (List.range' b n) ∧ rActionS (H ++ bl ++ T) [v] (stepL p r).2 (List.range' (b + n) (bl.length - n)) := impl_Step_spec p hm r b
end Go.Proofs.Ytlbnioapepelnaa.G

namespace Go.Proofs.Ytlbnioapepelnaa.G
open Go.RowKit
theorem clParser : Cl 2 rParser := RSeq.cl (RFl.cl (fun _ => rfl)) (RSeq.cl (RSl.cl (RFl.cl (fun _ => rfl))) (RSeq.cl (RFl.cl (fun _ => rfl)) (RSl.cl (RFl.cl (fun _ => rfl)))))
theorem any_lt {l : List Nat} {n : Nat} (h : ∀ i ∈ l, i < n) : l.any (fun i => decide (n ≤ i) && decide (i < n + 1)) = false := by
  rw [List.any_eq_false]
  intro i hi h2
  rw [Bool.and_eq_true, decide_eq_true_eq, decide_eq_true_eq] at h2
  have := h i hi
  omega
theorem PLoop.stepS {q : ParserT × List ActionT} {o : GV} {H : Heap} (h : PLoop 0 2 q (o, H)) (hp : parserB q.1 = true) (hl : 2 ≤ H.length) (hn : q.2.length ≤ 4194000) (Z : H[1]? = some zPars) (r : Int) :
    ∃ w c v H1 H3 H4 o' H5, kloadA 4 H (.ptr 0 0 4) = some (.agg w) ∧ kflat H [.agg w, .int .i64 r] = true ∧ (∀ i ∈ kreach H [.agg w, .int .i64 r], i < H1.length) ∧ HH fn.spec_l6Step [.agg w, .int .i64 r] H = some (.tup [.agg c, v], H1) ∧ kstore 4 (H1 ++ [zPars]) (.ptr H1.length 0 4) (.agg c) = some H3 ∧ kloadA 4 H3 (.ptr H1.length 0 4) = some (.agg c) ∧ kstore 4 H3 (.ptr 0 0 4) (.agg c) = some H4 ∧
      kapp actZ 5 72 o v H4 = some (o', H5) ∧ PLoop 0 2 ((stepM q.1 r).1, q.2 ++ (stepM q.1 r).2) (o', H5) ∧ 2 ≤ H5.length ∧ H5[1]? = some zPars := by
  obtain ⟨vP, vT, RP, RT, RA, h1, h2, h3, h4, h5⟩ := h
  try simp only at h1 h2
  have pv : PV q.1 H vP vT RP RT := ⟨h1.ps, h1.tx, h1.np, h1.nt, h1.dj⟩
  obtain ⟨c, v, H1, e1, wP, wT, SP, ST, SA, rfl, k1, k2, k3, k4, k5, k6⟩ := l6Step_op pv hp r
  have hm := goodActionS.mem h2
  have hP := goodInt64S.mem h1.ps
  have hT := goodInt64S.mem h1.tx
  have lo1 : ∀ i, i ∈ SP ∨ i ∈ ST ∨ i ∈ SA → 2 ≤ i := fun i hi => by
    rcases k5 i hi with h' | h' | h'
    · exact h5 i (Or.inl h')
    · exact h5 i (Or.inr (Or.inl h'))
    · omega
  have ka := goodActionS.keep h2 k6 (fun i hi h' => by
    rcases List.mem_append.1 h' with h' | h'
    · exact (h4 i hi).1 h'
    · exact (h4 i hi).2.1 h')
  have cl : kcl 9 H (.agg (parC q.1 vP vT)) = some (RP ++ RT) := clParser.agg (by omega) pv.rel
  have cl2 : kcll (kcl 9 H) [.agg (parC q.1 vP vT), .int .i64 r] = some (RP ++ RT) := by
    simp only [kcll, cl, Option.bind_some]
    show some ((RP ++ RT) ++ ([] ++ [])) = _
    simp
  have l1 := k6.1
  have lo2 : ∀ i ∈ RP ++ RT, 2 ≤ i := fun i hi => by
    rcases List.mem_append.1 hi with hi | hi
    · exact h5 i (Or.inl hi)
    · exact h5 i (Or.inr (Or.inl hi))
  have C1 := k6.blk h1.cell (fun h' => by have := lo2 0 h'; omega)
  have Z1 := k6.blk Z (fun h' => by have := lo2 1 h'; omega)
  have cP := cells1 k1.ps
  have cT := cells1 k1.tx
  have v1 := var_at (H := H1) (z := zPars) (c := parC (stepM q.1 r).1 wP wT) (n := 4) rfl rfl (by simp [cP.2, cT.2])
  obtain ⟨H3, hH3⟩ : ∃ H3, H1 ++ [parC (stepM q.1 r).1 wP wT] = H3 := ⟨_, rfl⟩
  rw [hH3] at v1
  have f3 : Fr [] H1 H3 := by rw [← hH3]; exact .app
  have X3 : H3[H1.length]? = some (parC (stepM q.1 r).1 wP wT) := by rw [← hH3]; simp
  have C3 := f3.blk C1 no_nil
  have s4 := kstoreA_at (n := 4) C3 rfl (c' := parC (stepM q.1 r).1 wP wT) rfl (by simp [cP.2, cT.2])
  obtain ⟨H4, hH4⟩ : ∃ H4, H3.set 0 (parC (stepM q.1 r).1 wP wT) = H4 := ⟨_, rfl⟩
  rw [hH4] at s4
  have hl3 := (List.getElem?_eq_some_iff.1 C3).1
  have C4 : H4[0]? = some (parC (stepM q.1 r).1 wP wT) := by rw [← hH4, List.getElem?_set_self hl3]
  have f4 : Fr [0] H3 H4 := by rw [← hH4]; exact .set (by simp)
  have f34 : Fr [0] H1 H4 := (f3.sub (fun _ h => by cases h)).trans f4
  have Z4 := f34.blk Z1 (by simp)
  have no0 : ∀ i, i ∈ SP ∨ i ∈ ST ∨ i ∈ SA → i ∉ [0] := fun i hi h' => by rw [List.mem_singleton] at h'; have := lo1 i hi; omega
  have p4 : PIn 0 (stepM q.1 r).1 H4 wP wT SP ST := ⟨C4, goodInt64S.keep k1.ps f34 (fun i hi => no0 i (Or.inl hi)), goodInt64S.keep k1.tx f34 (fun i hi => no0 i (Or.inr (Or.inl hi))), k1.np, k1.nt, k1.dj, fun h' => by have := lo1 0 (Or.inl h'); omega, fun h' => by have := lo1 0 (Or.inr (Or.inl h')); omega⟩
  have a4 := goodActionS.keep k2 f34 (fun i hi => no0 i (Or.inr (Or.inr hi)))
  have b4 := goodActionS.keep ka f34 (fun i hi h' => by rw [List.mem_singleton] at h'; exact (h4 i hi).2.2 h')
  have one := stepM_one q.1 r
  have rest : ∀ i, i ∈ SP ∨ i ∈ ST ∨ i ∈ SA → i ∉ RA := fun i hi h' => by
    rcases k5 i hi with h'' | h'' | h''
    · exact (h4 i h').1 h''
    · exact (h4 i h').2.1 h''
    · have := hm i h'; omega
  obtain ⟨o', H5, R', c1, c2, c3, c4, c5⟩ := app_sls (b := 72) goodAction (by omega) (z := actZ) rfl (by omega) b4 h3 a4 k3 (fun i hi => rest i (Or.inr (Or.inr hi))) (by omega)
  have hmP := goodInt64S.mem p4.ps
  have hmT := goodInt64S.mem p4.tx
  have l34 := f34.1
  refine ⟨parC q.1 vP vT, _, v, H1, H3, H4, o', H5, kloadA_at (n := 4) h1.cell rfl, by unfold kflat; rw [cl2]; rfl, fun i hi => ?_, e1, v1, kloadA_at (n := 4) X3 rfl, s4, c1, ⟨wP, wT, SP, ST, R', p4.keep c5 (fun h' => (h4 0 h').2.2 rfl) (fun i hi => rest i (Or.inl hi)) (fun i hi => rest i (Or.inr (Or.inl hi))), c2, c3, fun i hi => ?_, fun i hi => ?_⟩, by have := c5.1; omega, c5.blk Z4 (fun h' => by have := h5 1 (Or.inr (Or.inr h')); omega)⟩
  · unfold kreach at hi
    rw [cl2] at hi
    have hi : i ∈ RP ++ RT := hi
    rcases List.mem_append.1 hi with hi | hi
    · have := hP i hi; omega
    · have := hT i hi; omega
  · rcases c4 i hi with h' | h' | h'
    · exact ⟨fun h'' => rest i (Or.inl h'') h', fun h'' => rest i (Or.inr (Or.inl h'')) h', (h4 i h').2.2⟩
    · exact ⟨(k4 i h').1, (k4 i h').2, fun e => by have := lo1 i (Or.inr (Or.inr h')); omega⟩
    · exact ⟨fun h'' => by have := hmP i h''; omega, fun h'' => by have := hmT i h''; omega, by omega⟩
  · rcases hi with hi | hi | hi
    · exact lo1 i (Or.inl hi)
    · exact lo1 i (Or.inr (Or.inl hi))
    · rcases c4 i hi with h' | h' | h'
      · exact h5 i (Or.inr (Or.inr h'))
      · exact lo1 i (Or.inr (Or.inr h'))
      · omega
theorem spec_Parsed_spec (p : ParserT) (hm : okParser p) (l : List Int) (hl : l.length ≤ 1048576) (b : Nat) : ∃ c v bl n, OO fn.spec_Parsed [.agg (mParser true p), fzl true 1 ci l] b = some (.tup [.agg c, v], bl) ∧ n ≤ bl.length ∧ ∀ H T, H.length = b → rParser (H ++ bl ++ T) c (parsed2M p l).1 (List.range' b n) ∧ rActionS (H ++ bl ++ T) [v] (parsed2M p l).2 (List.range' (b + n) (bl.length - n)) := by
  have hML : (mParser true p).length = 4 := rfl
  have bM : ∀ (H : Heap) (gs zs : List GV), bors H gs = some zs → bors H (.agg (mParser true p) :: gs) = some (.agg (mParser true p) :: zs) := fun H gs zs h => by
    rw [bors_cons, h]; simp
  have ko := spec_ParserOk_spec p hm
  have cp := fun H => fresh_agg goodParser (f := fn.spec_l6Copy) (args := [.agg (mParser true p)]) (xs := [.agg (mParser true p)]) (H := H) (x := p) (bM _ _ _ (by simp)) (spec_l6Copy_spec p hm H.length)
  have hMc : (mParser true p).all GV.isCell = true := by simp
  obtain ⟨M, hM⟩ : ∃ M, mParser true p = M := ⟨_, rfl⟩
  rw [hM] at hML ko hMc ⊢
  simp only [hM] at bM cp
  obtain ⟨H0, hH0⟩ : ∃ H0 : Heap, [M, zPars] = H0 := ⟨_, rfl⟩
  have A0 : H0[0]? = some M := by rw [← hH0]; rfl
  have Z0 : H0[1]? = some zPars := by rw [← hH0]; rfl
  have l0 : H0.length = 2 := by rw [← hH0]; rfl
  have hbox : ∀ {Q : Type} (K : GV → Heap → Option Q), kbox (.agg M) [] K = K (.ptr 0 0 4) [M] := fun K => by rw [kbox_agg, hML]; rfl
  have hal : ∀ {Q : Type} (K : GV → Heap → Option Q), kalloc zPars [M] K = K (.ptr 1 0 4) H0 := fun K => by rw [kalloc_eq, ← hH0]; rfl
  have ko' : kN NN fn.spec_ParserOk [.agg M] H0 = some (.bool (parserB p)) := kN_at (bM _ _ _ (by simp)) ko
  have kr' : kN NN fn.spec_l6Runes [fzl true 1 ci l, .int .i64 2000] H0 = some (.bool (decide (l.length ≤ 2000) && l.all runeB)) := kN_at (xs := [fzl true 1 ci l, .int .i64 2000]) (by simp) (spec_l6Runes_spec l 2000 hl)
  have a0 := kloadA_at (n := 4) A0 hML
  have e2 : parsed2M p l = if (parserB p && (decide (l.length ≤ 2000) && l.all runeB)) = true then runM l p else ((0, [], 0, []), []) := by
    unfold parsed2M parsedM
    by_cases h : l.length ≤ 2000
    · rw [if_pos h, decide_eq_true h]; simp
    · rw [if_neg h, decide_eq_false h]; simp
  rw [e2]
  cases hb : (parserB p && (decide (l.length ≤ 2000) && l.all runeB))
  · rw [if_neg (by simp)]
    have s1 := kstoreA_at (n := 4) Z0 rfl (c' := zPars) rfl (by simp)
    have e1 : H0.set 1 zPars = H0 := by rw [← hH0]; rfl
    rw [e1] at s1
    have a1 := kloadA_at (n := 4) Z0 rfl
    obtain ⟨c, v, bl, n, o1, o2, o3⟩ := goodParser.finP goodActionS (by omega) (by omega) (parser_rel (s := 0) (m := 0) (H := H0) no_ints no_ints) (no_act' (H := H0)) List.nodup_nil b
    refine ⟨c, v, bl, n, S.spec_Parsed.gives (k := 0) ?_, o2, o3⟩
    unfold S.spec_Parsed.run S.spec_Parsed.n0
    rw [hbox, hal]
    cases hp : parserB p
    · rw [hp] at ko'
      simp [a0, ko', gfill, s1, a1, o1, -kN_eq, -kloadA_ptr, -kstore_ptr]
    · rw [hp] at hb ko'
      rw [Bool.true_and] at hb
      rw [hb] at kr'
      simp [a0, ko', kr', gfill, s1, a1, o1, -kN_eq, -kloadA_ptr, -kstore_ptr]
  rw [if_pos rfl]
  rw [Bool.and_eq_true] at hb
  obtain ⟨hp, hb⟩ := hb
  rw [hp] at ko'
  rw [hb] at kr'
  have hr : l.all runeB = true := by rw [Bool.and_eq_true] at hb; exact hb.2
  have h2000 : l.length ≤ 2000 := by rw [Bool.and_eq_true, decide_eq_true_eq] at hb; exact hb.1
  obtain ⟨c1, R1, H1, t1, r1, n1, b1, f1, l1⟩ := cp H0
  have A1 := f1.blk A0 no_nil
  have Z1 := f1.blk Z0 no_nil
  have s1 := kstoreA_at (n := 4) A1 hML (c' := c1) (goodParser.len r1) (goodParser.cell r1)
  obtain ⟨H2, hH2⟩ : ∃ H2, H1.set 0 c1 = H2 := ⟨_, rfl⟩
  rw [hH2] at s1
  have hl1 := (List.getElem?_eq_some_iff.1 A1).1
  have f2 : Fr [0] H1 H2 := by rw [← hH2]; exact .set (by simp)
  have C2 : H2[0]? = some c1 := by rw [← hH2, List.getElem?_set_self hl1]
  have Z2 := f2.blk Z1 (by simp)
  have l2 := f2.1
  have start : PLoop 0 2 (p, []) (.emp, H2) := by
    obtain ⟨vP, vT, RP, RT, rfl, pv, rfl⟩ := par_open r1 n1
    refine ⟨vP, vT, RP, RT, [], ⟨C2, goodInt64S.keep pv.ps f2 (fun i hi h => ?_), goodInt64S.keep pv.tx f2 (fun i hi h => ?_), pv.np, pv.nt, pv.dj, fun h => ?_, fun h => ?_⟩, no_act', List.nodup_nil, fun i hi => by (cases hi), fun i hi => ?_⟩
    · have := b1 i (List.mem_append_left _ hi); rw [List.mem_singleton] at h; omega
    · have := b1 i (List.mem_append_right _ hi); rw [List.mem_singleton] at h; omega
    · have := b1 0 (List.mem_append_left _ h); omega
    · have := b1 0 (List.mem_append_right _ h); omega
    · rcases hi with hi | hi | hi
      · have := b1 i (List.mem_append_left _ hi); omega
      · have := b1 i (List.mem_append_right _ hi); omega
      · cases hi
  refine Exists.elim (loop_inv (n := l.length) (T := GV × Heap) (Inv := fun j x => PLoop 0 2 (runM (l.take j) p) x ∧ 2 ≤ x.2.length ∧ x.2[1]? = some zPars)
    (f := fun r j x => fun (G : GX → GV → GV → GV → GV → Heap → Option (GV × List (List GV))) => S.spec_Parsed.l8 (l.length + 1) G r (fzl true 1 ci l) (.ptr 0 0 4) (.ptr 1 0 4) .nils x.1 (.int .i64 (j : Int)) x.2)
    (A := fun x => fun G => G (.ext 0) (.ptr 0 0 4) (.ptr 1 0 4) .nils x.1 x.2) (s := (.emp, H2)) ?_ ?_ ⟨start, by show 2 ≤ H2.length; omega, Z2⟩ (m := l.length + 1) (by omega)) ?_
  · rintro j r ⟨o, H⟩ hj ⟨i1, i2, i3⟩
    have hpj : parserB (runM (l.take j) p).1 = true := runM_ok _ hp (by rw [List.all_eq_true] at hr ⊢; exact fun x hx => hr x (List.mem_of_mem_take hx))
    have hlen := runM_len (l.take j) p
    rw [List.length_take] at hlen
    obtain ⟨w, c, v, H3, H4, H5, o', H6, e1, e2, e3, e4, e5, e6, e7, e8, e9, e10, e11⟩ := i1.stepS hpj i2 (by omega) i3 l[j]
    have et : l.take (j + 1) = l.take j ++ [l[j]] := by rw [List.take_add_one, List.getElem?_eq_getElem hj]; rfl
    refine ⟨(o', H6), funext fun G => ?_, by rw [et, runM_snoc]; exact e9, e10, e11⟩
    have g1 : kbin .lss (.int .i64 (j : Int)) (.int .i64 (l.length : Int)) = some (.bool true) := by rw [klt, decide_eq_true hj]
    have kj := kadd1 (n := j) (by omega)
    have k0 : kia 1 (fzl true 1 ci l) (.int .i64 (j : Int)) = some (elp true ci l j) := by rw [kia_fzl (es := 1) (fun _ => rfl), if_pos (by omega)]; rfl
    have ke : kload1 H (elp true ci l j) = some (.int .i64 l[j]) := by rw [kload1_ci, get_of hj]; rfl
    have al := any_lt e3
    simp only [S.spec_Parsed.l8]
    simp [g1, k0, ke, e1, e2, e4, kalloc_at, e5, e6, e7, e8, kj, kchk, -kbin_lss, -kbin_add, -kload1_ci, -kloadA_ptr, -kstore_ptr]
    simp [chk, meets, touches, al, -List.any_eq_true, -List.any_eq_false]
  · rintro r ⟨o, H⟩ _
    funext G
    have g1 : kbin .lss (.int .i64 (l.length : Int)) (.int .i64 (l.length : Int)) = some (.bool false) := by rw [klt, decide_eq_false (by omega)]
    simp only [S.spec_Parsed.l8]
    simp [g1, -kbin_lss]
  · rintro ⟨o, H3⟩ ⟨k1, ⟨vP, vT, RP, RT, RA, g1, g2, g3, g4, g5⟩, k3, Z3⟩
    try simp only at g1 g2 k3 Z3 k1
    rw [List.take_length] at g1 g2
    have a3 := kloadA_at (n := 4) g1.cell rfl
    have cP := cells1 g1.ps
    have cT := cells1 g1.tx
    have s4 := kstoreA_at (n := 4) Z3 rfl (c' := parC (runM l p).1 vP vT) rfl (by simp [cP.2, cT.2])
    obtain ⟨H4, hH4⟩ : ∃ H4, H3.set 1 (parC (runM l p).1 vP vT) = H4 := ⟨_, rfl⟩
    rw [hH4] at s4
    have hl3 := (List.getElem?_eq_some_iff.1 Z3).1
    have A4 : H4[1]? = some (parC (runM l p).1 vP vT) := by rw [← hH4, List.getElem?_set_self hl3]
    have f4 : Fr [1] H3 H4 := by rw [← hH4]; exact .set (by simp)
    have a4 := kloadA_at (n := 4) A4 rfl
    have no : ∀ i, i ∈ RP ∨ i ∈ RT ∨ i ∈ RA → i ∉ [1] := fun i hi h => by rw [List.mem_singleton] at h; have := g5 i hi; omega
    obtain ⟨c, v, bl, n, o1, o2, o3⟩ := goodParser.finP goodActionS (by omega) (by omega) (parser_rel (s := (runM l p).1.1) (m := (runM l p).1.2.2.1) (goodInt64S.keep g1.ps f4 (fun i hi => no i (Or.inl hi))) (goodInt64S.keep g1.tx f4 (fun i hi => no i (Or.inr (Or.inl hi))))) (goodActionS.keep g2 f4 (fun i hi => no i (Or.inr (Or.inr hi)))) (by
      rw [List.nodup_append, List.nodup_append]
      exact ⟨⟨g1.np, g1.nt, fun i hi k hk e => g1.dj i hi (e ▸ hk)⟩, g3, fun i hi k hk e => by
        rcases List.mem_append.1 hi with hi | hi
        · exact (g4 k hk).1 (e ▸ hi)
        · exact (g4 k hk).2.1 (e ▸ hi)⟩) b
    refine ⟨c, v, bl, n, S.spec_Parsed.gives (k := l.length + 1) ?_, o2, o3⟩
    unfold S.spec_Parsed.run S.spec_Parsed.n0
    rw [hbox, hal]
    have k1' := fun G => congrFun k1 G
    simp only [show ((0 : Nat) : Int) = 0 from rfl] at k1'
    simp [a0, ko', kr', t1, s1, k1', a3, s4, a4, o1, -kN_eq, -kF_OO, -kloadA_ptr, -kstore_ptr]
end Go.Proofs.Ytlbnioapepelnaa.G

namespace Go.Proofs.Ytlbnioapepelnaa.G
open Go.RowKit
def shortB : GV → Bool
  | .str s => decide (s.size ≤ 11)
  | _ => false
theorem shortB_str {g : GV} (h : shortB g = true) : ∃ l : List UInt8, g = .str (bs l) ∧ l.length ≤ 11 := by
  cases g with
  | str s =>
    refine ⟨s.data.toList, rfl, ?_⟩
    have := of_decide_eq_true h
    rw [bs_eta s, bs_size] at this
    exact this
  | _ => cases h
def tab45 : List GV := [(GV.str { data := #[97, 98] }), (GV.str { data := #[120] }), (GV.str { data := #[195, 169] }), (GV.str { data := #[228, 184, 128] }), (GV.str { data := #[13, 10] }), (GV.str { data := #[10] }), (GV.str { data := #[9] }), (GV.str { data := #[8] }), (GV.str { data := #[27, 91, 50, 59, 51, 72] }), (GV.str { data := #[27, 91, 65] }), (GV.str { data := #[27, 91, 51, 66] }), (GV.str { data := #[27, 91, 50, 67] }), (GV.str { data := #[27, 91, 68] }), (GV.str { data := #[27, 91, 74] }), (GV.str { data := #[27, 91, 49, 75] }), (GV.str { data := #[27, 91, 50, 74] }), (GV.str { data := #[27, 91, 75] }), (GV.str { data := #[27, 91, 76] }), (GV.str { data := #[27, 91, 50, 77] }), (GV.str { data := #[27, 91, 64] }), (GV.str { data := #[27, 91, 50, 80] }), (GV.str { data := #[27, 91, 51, 88] }), (GV.str { data := #[27, 91, 83] }), (GV.str { data := #[27, 91, 84] }), (GV.str { data := #[27, 91, 49, 59, 51, 49, 109] }), (GV.str { data := #[27, 91, 48, 109] }), (GV.str { data := #[27, 91, 52, 52, 59, 55, 109] }), (GV.str { data := #[27, 91, 50, 59, 51, 114] }), (GV.str { data := #[27, 91, 114] }), (GV.str { data := #[27, 91, 63, 55, 108] }), (GV.str { data := #[27, 91, 63, 55, 104] }), (GV.str { data := #[27, 91, 63, 50, 53, 108] }), (GV.str { data := #[27, 91, 63, 49, 48, 52, 57, 104] }), (GV.str { data := #[27, 91, 63, 49, 48, 52, 57, 108] }), (GV.str { data := #[27, 68] }), (GV.str { data := #[27, 77] }), (GV.str { data := #[27, 69] }), (GV.str { data := #[27, 55] }), (GV.str { data := #[27, 56] }), (GV.str { data := #[27, 99] }), (GV.str { data := #[27, 93, 48, 59, 104, 105, 7] }), (GV.str { data := #[27, 93, 116, 27, 92] }), (GV.str { data := #[27, 91, 53, 71] }), (GV.str { data := #[27, 91, 50, 100] }), (GV.str { data := #[104, 101, 108, 108, 111, 32, 119, 111, 114, 108, 100] })]
def tab7 : List GV := [(GV.str { data := #[] }), (GV.str { data := #[27] }), (GV.str { data := #[27, 91] }), (GV.str { data := #[27, 91, 49, 50, 59] }), (GV.str { data := #[27, 91, 63, 51] }), (GV.str { data := #[27, 93, 97, 98] }), (GV.str { data := #[27, 93, 97, 27] })]
theorem tab45_gf : gfill (fun i => some (i, 1)) (zeros [(.str { data := #[] })] 45) [(0, (.str { data := #[97, 98] })), (1, (.str { data := #[120] })), (2, (.str { data := #[195, 169] })), (3, (.str { data := #[228, 184, 128] })), (4, (.str { data := #[13, 10] })), (5, (.str { data := #[10] })), (6, (.str { data := #[9] })), (7, (.str { data := #[8] })), (8, (.str { data := #[27, 91, 50, 59, 51, 72] })), (9, (.str { data := #[27, 91, 65] })), (10, (.str { data := #[27, 91, 51, 66] })), (11, (.str { data := #[27, 91, 50, 67] })), (12, (.str { data := #[27, 91, 68] })), (13, (.str { data := #[27, 91, 74] })), (14, (.str { data := #[27, 91, 49, 75] })), (15, (.str { data := #[27, 91, 50, 74] })), (16, (.str { data := #[27, 91, 75] })), (17, (.str { data := #[27, 91, 76] })), (18, (.str { data := #[27, 91, 50, 77] })), (19, (.str { data := #[27, 91, 64] })), (20, (.str { data := #[27, 91, 50, 80] })), (21, (.str { data := #[27, 91, 51, 88] })), (22, (.str { data := #[27, 91, 83] })), (23, (.str { data := #[27, 91, 84] })), (24, (.str { data := #[27, 91, 49, 59, 51, 49, 109] })), (25, (.str { data := #[27, 91, 48, 109] })), (26, (.str { data := #[27, 91, 52, 52, 59, 55, 109] })), (27, (.str { data := #[27, 91, 50, 59, 51, 114] })), (28, (.str { data := #[27, 91, 114] })), (29, (.str { data := #[27, 91, 63, 55, 108] })), (30, (.str { data := #[27, 91, 63, 55, 104] })), (31, (.str { data := #[27, 91, 63, 50, 53, 108] })), (32, (.str { data := #[27, 91, 63, 49, 48, 52, 57, 104] })), (33, (.str { data := #[27, 91, 63, 49, 48, 52, 57, 108] })), (34, (.str { data := #[27, 68] })), (35, (.str { data := #[27, 77] })), (36, (.str { data := #[27, 69] })), (37, (.str { data := #[27, 55] })), (38, (.str { data := #[27, 56] })), (39, (.str { data := #[27, 99] })), (40, (.str { data := #[27, 93, 48, 59, 104, 105, 7] })), (41, (.str { data := #[27, 93, 116, 27, 92] })), (42, (.str { data := #[27, 91, 53, 71] })), (43, (.str { data := #[27, 91, 50, 100] })), (44, (.str { data := #[104, 101, 108, 108, 111, 32, 119, 111, 114, 108, 100] }))] = some tab45 := by rfl
theorem tab7_gf : gfill (fun i => some (i, 1)) (zeros [(.str { data := #[] })] 7) [(0, (.str { data := #[] })), (1, (.str { data := #[27] })), (2, (.str { data := #[27, 91] })), (3, (.str { data := #[27, 91, 49, 50, 59] })), (4, (.str { data := #[27, 91, 63, 51] })), (5, (.str { data := #[27, 93, 97, 98] })), (6, (.str { data := #[27, 93, 97, 27] }))] = some tab7 := by rfl
theorem tab45_ok : ∀ g ∈ tab45, shortB g = true := by
  have : tab45.all shortB = true := by decide
  rw [List.all_eq_true] at this
  exact this
theorem tab7_ok : ∀ g ∈ tab7, shortB g = true := by
  have : tab7.all shortB = true := by decide
  rw [List.all_eq_true] at this
  exact this
theorem text_l6 {R : Type} (k : Nat) (v2 : GV) {p : Nat} {code : List UInt8} (hl : code.length ≤ 1048576) : ∀ (n r : Nat) (l : List UInt8) (H : Heap), n < r → Cur p code H → l.length + 11 * n ≤ 1000 →
    ∃ (l' : List UInt8) (H' : Heap), l'.length ≤ l.length + 11 * n ∧ Dr p code H H' ∧ ∀ G : KT2 R, S.spec_l6DrawText.l6 k G r (.ptr p 0 3) v2 (.str (bs l)) (.int .i64 (n : Int)) H = G (.ext 0) v2 (.str (bs l')) H'
  | n, 0, l, H, hr, _, _ => by omega
  | 0, r + 1, l, H, _, hc, _ => by
    have g0 : kbin .gtr (.int .i64 ((0 : Nat) : Int)) (.int .i64 0) = some (.bool false) := by rw [kbin_gtr, decide_eq_false (by omega)]
    refine ⟨l, H, by omega, Dr.refl hc, fun G => ?_⟩
    simp only [S.spec_l6DrawText.l6, S.spec_l6DrawText.n7, g0, Option.bind_some, kcond_bool, cond_false]
    rfl
  | n + 1, r + 1, l, H, hr, hc, hx => by
    have g0 : kbin .gtr (.int .i64 ((n + 1 : Nat) : Int)) (.int .i64 0) = some (.bool true) := by rw [kbin_gtr, decide_eq_true (by omega)]
    obtain ⟨x, H1, q, g, e1, e2, e3, e4, d1⟩ := draw_tab hl hc (P := fun g => shortB g = true) tab45_ok (n := 45) (by rfl) (by omega) (m := 45) rfl
    obtain ⟨t, rfl, ht⟩ := shortB_str e4
    have ka := kadd_bs (a := l) (b := t) (by simp only [maxLen]; omega)
    have kd : kbin .sub (.int .i64 ((n + 1 : Nat) : Int)) (.int .i64 1) = some (.int .i64 (n : Int)) := by rw [kbin_sub, wrap_id (by omega) (by omega)]; congr 2; omega
    obtain ⟨l', H', c1, c2, c3⟩ := text_l6 (R := R) k v2 hl n r (l ++ t) H1 (by omega) d1.1 (by rw [List.length_append]; omega)
    refine ⟨l', H', by rw [List.length_append] at c1; omega, d1.trans c2, fun G => ?_⟩
    have gf := tab45_gf
    simp only [S.spec_l6DrawText.l6, S.spec_l6DrawText.n7, S.spec_l6DrawText.n8, S.spec_l6DrawText.n10, S.spec_l6DrawText.n11, Nat.mul_one, g0, gf, kbs_at', e1, e2, e3, ka, Option.bind_some, kcond_bool, cond_true, kr_mk, kb_nrm, kx_nrm, S.spec_l6DrawText.n9, kd, c3]
theorem spec_l6DrawText_spec {p : Nat} {code : List UInt8} {H : Heap} (hl : code.length ≤ 1048576) (hc : Cur p code H) : ∃ (l : List UInt8) (H' : Heap), HH fn.spec_l6DrawText [.ptr p 0 3] H = some (.str (bs l), H') ∧ l.length ≤ 100 ∧ Dr p code H H' := by
  obtain ⟨x, H1, e1, x0, _, x1, d1⟩ := spec_l1Below_spec hl hc 9
  have hx := x1 (by omega)
  obtain ⟨n, rfl⟩ : ∃ n : Nat, x = (n : Int) := ⟨x.toNat, by omega⟩
  obtain ⟨l, H2, h1, d2, e2⟩ := text_l6 (R := GV × Heap) 10 (.str { data := #[] }) hl n 10 [] H1 (by omega) d1.1 (by simp; omega)
  refine ⟨l, H2, ?_, by simp at h1; omega, d1.trans d2⟩
  apply S.spec_l6DrawText.gives (k := 10)
  have e3 : (bs [] : ByteArray) = { data := #[] } := rfl
  rw [e3] at e2
  simp [S.spec_l6DrawText.run, e1, e2, -Int.natCast_add]
end Go.Proofs.Ytlbnioapepelnaa.G

namespace Go.Proofs.Ytlbnioapepelnaa.G
open Go.RowKit
theorem lendI {H : Heap} {v : GV} {xs : List Int} {R : List Nat} (h : rInt64S H [v] xs R) : bor 9 H v = some (fzl true 1 ci xs, R) := by
  obtain ⟨g, h1, h2⟩ := goodInt64S.lend1 (by omega) h
  have e : g = fzl true 1 ci xs := by have := h2; injection this with this; exact this.symm
  subst e
  exact h1
def smP (q : ParserT) : Prop := q.2.1.length ≤ 17 ∧ q.2.2.2.length ≤ 41
theorem smP.ok {q : ParserT} (h : smP q) : okParser q := ⟨by unfold okInt64S; have := h.1; omega, by unfold okInt64S; have := h.2; omega⟩
theorem parsed_sm (xs : List Int) : (parsed2M (st0 1) xs).1.2.1.length ≤ 16 ∧ (parsed2M (st0 1) xs).1.2.2.2.length ≤ 40 := by
  unfold parsed2M parsedM
  split
  · split
    · rename_i h
      rw [Bool.and_eq_true] at h
      have := parserB_iff.1 (runM_ok xs h.1 h.2)
      exact ⟨this.2.1.1, this.2.2.2.1.1⟩
    · exact ⟨by simp, by simp⟩
  · exact ⟨by simp, by simp⟩
theorem spec_l6Draw_spec {p : Nat} {code : List UInt8} {H : Heap} (hl : code.length ≤ 1048576) (hc : Cur p code H) : ∃ (q : ParserT) (c : List GV) (R : List Nat) (H' : Heap), HH fn.spec_l6Draw [.ptr p 0 3] H = some (.agg c, H') ∧ rParser H' c q R ∧ R.Nodup ∧ (∀ i ∈ R, H.length ≤ i) ∧ (q.2.1.length ≤ 16 ∧ q.2.2.2.length ≤ 40) ∧ Dr p code H H' := by
  have hp := hc.lt
  obtain ⟨H1, hH1⟩ : ∃ H1, H ++ [zPars] = H1 := ⟨_, rfl⟩
  have d1 : Dr p code H H1 := by rw [← hH1]; exact Dr.app hc
  have Z1 : H1[H.length]? = some zPars := by rw [← hH1]; simp
  have ls := l6State_call 1 H1
  obtain ⟨l, H2, e2, hl2, d2⟩ := spec_l6DrawText_spec hl d1.1
  obtain ⟨x, H3, q, g, e3, k3, g3, hg, d3⟩ := draw_tab hl d2.1 (P := fun g => shortB g = true) tab7_ok (n := 7) (by rfl) (by omega) (m := 7) rfl
  obtain ⟨t, rfl, ht⟩ := shortB_str hg
  have ka := kadd_bs (a := l) (b := t) (by simp only [maxLen]; omega)
  obtain ⟨xs, v15, R4, H4, e4, r4, n4, b4, f4, hx⟩ := runes_new (l ++ t) (by rw [List.length_append]; omega) H3
  have hxs : xs.length ≤ 1048576 := by rw [List.length_append] at hx; omega
  have hb : bors H4 [.agg [.int .i64 1, .nils, .int .i64 0, .nils], v15] = some [.agg (mParser true (st0 1)), fzl true 1 ci xs] := bors_agg goodParser (by omega) (parser_rel (s := 1) (m := 0) no_ints no_ints) (gs := [v15]) (xs := [fzl true 1 ci xs]) (by rw [bors_cons, lendI r4]; rfl)
  obtain ⟨c, w, R5, S5, H5, e5, r5, s5, n5, _, ⟨m, b5, _, hm1, hm2⟩, f5, l5⟩ := fresh_pair goodParser goodActionS (f := fn.spec_Parsed) (H := H4) (x := (parsed2M (st0 1) xs).1) (y := (parsed2M (st0 1) xs).2) hb (spec_Parsed_spec (st0 1) ⟨by unfold okInt64S; simp, by unfold okInt64S; simp⟩ xs hxs H4.length)
  have cl := goodParser.len r5
  have cc := goodParser.cell r5
  have v6 := var_at (H := H5) (z := zPars) (c := c) (n := 4) rfl cl cc
  obtain ⟨H6, hH6⟩ : ∃ H6, H5 ++ [c] = H6 := ⟨_, rfl⟩
  rw [hH6] at v6
  have f6 : Fr [] H5 H6 := by rw [← hH6]; exact .app
  have X6 : H6[H5.length]? = some c := by rw [← hH6]; simp
  have a6 := kloadA_at (n := 4) X6 cl
  have l1 : H1.length = H.length + 1 := by rw [← hH1]; simp
  have Z3 : H3[H.length]? = some zPars := d3.get (by omega) (d2.get (by omega) Z1)
  have Z6 := f6.blk (f5.blk (f4.blk Z3 no_nil) no_nil) no_nil
  have hz := (List.getElem?_eq_some_iff.1 Z6).1
  have s7 := kstoreA_at (n := 4) Z6 rfl (c' := c) cl cc
  obtain ⟨H7, hH7⟩ : ∃ H7, H6.set H.length c = H7 := ⟨_, rfl⟩
  rw [hH7] at s7
  have f7 : Fr [H.length] H6 H7 := by rw [← hH7]; exact .set (by simp)
  have X7 : H7[H.length]? = some c := by rw [← hH7, List.getElem?_set_self hz]
  have a7 := kloadA_at (n := 4) X7 cl
  have r7 := goodParser.keep (goodParser.keep r5 f6 (fun _ _ => no_nil)) f7 (fun i hi h => by
    have := b5 i hi; have := f4.1; have := d3.2.1; have := d2.2.1
    rw [List.mem_singleton] at h; omega)
  have fr47 : Fr [H.length] H3 H7 := ((f4.trans (f5.trans f6)).sub (fun _ h => by cases h)).trans f7
  have hp3 : p ≠ H.length := by omega
  have c7 : Cur p code H7 := by
    obtain ⟨i, k, h1, h2⟩ := d3.1
    exact ⟨i, k, by rw [fr47.2 p (List.getElem?_eq_some_iff.1 h1).1 (by simpa using hp3)]; exact h1, h2⟩
  have hlen := d2.2.1
  have hlen3 := d3.2.1
  refine ⟨_, c, R5, H7, ?_, r7, n5, fun i hi => by have := b5 i hi; have := f4.1; omega, parsed_sm xs, c7, ⟨by have := fr47.1; omega, fun i hi hne => ?_⟩⟩
  · apply S.spec_l6Draw.gives (k := 0)
    have gf := tab7_gf
    simp only [S.spec_l6Draw.run, S.spec_l6Draw.n0, kalloc_at, hH1, ls, e2, gf, Nat.mul_one, kbs_at', e3, k3, g3, ka, e4, e5, kxt, v6, a6, s7, a7, Option.bind_some, kr_mk]
    simp [kalloc_at, v6, a6, s7, a7, -kloadA_ptr, -kstore_ptr]
  · have hi1 : i < H1.length := by omega
    have h1 : H1[i]? = H[i]? := by rw [← hH1]; exact List.getElem?_append_left hi
    rw [fr47.2 i (by omega) (by simp; omega), d3.2.2 i (by omega) hne, d2.2.2 i hi1 hne, h1]
end Go.Proofs.Ytlbnioapepelnaa.G

namespace Go.Proofs.Ytlbnioapepelnaa.G
open Go.RowKit
structure AnyS (p : Nat) (code : List UInt8) (H : Heap) (z Q : Nat) (q : ParserT) (Hx : Heap) (vP vT : GV) (RP RT : List Nat) : Prop where
  i : PIn Q q Hx vP vT RP RT
  lo : ∀ k, k ∈ RP ∨ k ∈ RT → z < k
  zz : Hx[z]? = some zPars
  dr : Dr p code H Hx
  hz : H.length ≤ z
  hQ : z < Q
theorem AnyS.p {p : Nat} {code : List UInt8} {H : Heap} {z Q : Nat} {q : ParserT} {Hx : Heap} {vP vT : GV} {RP RT : List Nat} (h : AnyS p code H z Q q Hx vP vT RP RT) (hp : p < H.length) : p ∉ RP ∧ p ∉ RT ∧ p ≠ Q ∧ p ≠ z := by
  have := h.hz
  have := h.hQ
  exact ⟨fun a => by have := h.lo p (.inl a); omega, fun a => by have := h.lo p (.inr a); omega, by omega, by omega⟩
theorem AnyS.draw {p : Nat} {code : List UInt8} {H : Heap} {z Q : Nat} {q : ParserT} {Hx Hy : Heap} {vP vT : GV} {RP RT : List Nat} (h : AnyS p code H z Q q Hx vP vT RP RT) (hp : p < H.length) (d : Dr p code Hx Hy) : AnyS p code H z Q q Hy vP vT RP RT := by
  obtain ⟨a, b, c, e⟩ := h.p hp
  have ne : ∀ {R : List Nat}, p ∉ R → ∀ i ∈ R, i ∉ [p] := fun hn i hi hh => by rw [List.mem_singleton] at hh; exact hn (hh ▸ hi)
  exact ⟨⟨d.2.blk h.i.cell (by simpa using fun hh => c hh.symm), goodInt64S.keep h.i.ps d.2 (ne a), goodInt64S.keep h.i.tx d.2 (ne b), h.i.np, h.i.nt, h.i.dj, h.i.bp, h.i.bt⟩, h.lo, d.2.blk h.zz (by simpa using fun hh => e hh.symm), h.dr.trans d, h.hz, h.hQ⟩
theorem AnyS.out {p : Nat} {code : List UInt8} {H : Heap} {z Q : Nat} {q : ParserT} {Hx : Heap} {vP vT : GV} {RP RT : List Nat} (h : AnyS p code H z Q q Hx vP vT RP RT) (hp : p < H.length) (v : GV) {k : Nat} (G : KT1 (GV × Heap)) :
    ∃ Hy, S.spec_l6DrawAny.n3 k G (.ptr z 0 4) (.ptr Q 0 4) Hx = G .ret (.ptr z 0 4) Hy ∧ kloadA 4 Hy (.ptr z 0 4) = some (.agg (parC q vP vT)) ∧ rParser Hy (parC q vP vT) q (RP ++ RT) ∧ (RP ++ RT).Nodup ∧ (∀ i ∈ RP ++ RT, H.length ≤ i) ∧ Dr p code H Hy := by
  obtain ⟨a, b, c, e⟩ := h.p hp
  have l1 := kloadA_at (n := 4) h.i.cell rfl
  have cP := cells1 h.i.ps
  have cT := cells1 h.i.tx
  have s1 := kstoreA_at (n := 4) h.zz rfl (c' := parC q vP vT) rfl (by simp [cP.2, cT.2])
  obtain ⟨Hy, hHy⟩ : ∃ Hy, Hx.set z (parC q vP vT) = Hy := ⟨_, rfl⟩
  rw [hHy] at s1
  have hzl := (List.getElem?_eq_some_iff.1 h.zz).1
  have f : Fr [z] Hx Hy := by rw [← hHy]; exact .set (by simp)
  have Z : Hy[z]? = some (parC q vP vT) := by rw [← hHy, List.getElem?_set_self hzl]
  have l2 := kloadA_at (n := 4) Z rfl
  have nz : ∀ i, i ∈ RP ∨ i ∈ RT → i ∉ [z] := fun i hi hh => by rw [List.mem_singleton] at hh; have := h.lo i hi; omega
  have cur : Cur p code Hy := by
    obtain ⟨i, k, h1, h2⟩ := h.dr.1
    exact ⟨i, k, f.blk h1 (by simpa using e), h2⟩
  refine ⟨Hy, ?_, l2, parser_rel (goodInt64S.keep h.i.ps f (fun i hi => nz i (.inl hi))) (goodInt64S.keep h.i.tx f (fun i hi => nz i (.inr hi))), ?_, fun i hi => ?_, cur, ⟨by have := h.dr.2.1; have := f.1; omega, fun i hi hne => ?_⟩⟩
  · simp only [S.spec_l6DrawAny.n3, l1, s1, Option.bind_some]
  · rw [List.nodup_append]
    exact ⟨h.i.np, h.i.nt, fun i hi k hk e => h.i.dj i hi (e ▸ hk)⟩
  · have := h.lo i (List.mem_append.1 hi)
    have := h.hz
    omega
  · have := h.hz
    rw [f.2 i (by have := h.dr.2.1; omega) (by simp; omega), h.dr.2.2 i hi hne]
theorem AnyS.num {p : Nat} {code : List UInt8} {H : Heap} {z Q : Nat} {q : ParserT} {Hx : Heap} {vP vT : GV} {RP RT : List Nat} (h : AnyS p code H z Q q Hx vP vT RP RT) (hp : p < H.length) (n : Int) :
    (∃ Hy, kstore 1 Hx (.ptr Q 0 4) (.int .i64 n) = some Hy ∧ AnyS p code H z Q (n, q.2) Hy vP vT RP RT) ∧ (∃ Hy, kstore 1 Hx (.ptr Q 2 4) (.int .i64 n) = some Hy ∧ AnyS p code H z Q (q.1, q.2.1, n, q.2.2.2) Hy vP vT RP RT) := by
  obtain ⟨a, b, c, e⟩ := h.p hp
  have hQl := (List.getElem?_eq_some_iff.1 h.i.cell).1
  have key : ∀ (c' : List GV), Fr [Q] Hx (Hx.set Q c') := fun c' => .set (by simp)
  have ne : ∀ {R : List Nat}, Q ∉ R → ∀ i ∈ R, i ∉ [Q] := fun hn i hi hh => by rw [List.mem_singleton] at hh; exact hn (hh ▸ hi)
  have go : ∀ (c' : List GV) (q' : ParserT), c' = parC q' vP vT → q'.2.1 = q.2.1 → q'.2.2.2 = q.2.2.2 → AnyS p code H z Q q' (Hx.set Q c') vP vT RP RT := fun c' q' hc h1 h2 => by
    subst hc
    have f := key (parC q' vP vT)
    have hne : p ∉ [Q] := by simpa using c
    refine ⟨⟨List.getElem?_set_self hQl, by rw [h1]; exact goodInt64S.keep h.i.ps f (ne h.i.bp), by rw [h2]; exact goodInt64S.keep h.i.tx f (ne h.i.bt), h.i.np, h.i.nt, h.i.dj, h.i.bp, h.i.bt⟩, h.lo, f.blk h.zz (by have := h.hQ; simp; omega), ?_, h.hz, h.hQ⟩
    obtain ⟨i, k, w1, w2⟩ := h.dr.1
    refine ⟨⟨i, k, f.blk w1 hne, w2⟩, ⟨by have := h.dr.2.1; have := f.1; omega, fun i hi hne => ?_⟩⟩
    have := h.hz
    have := h.hQ
    rw [f.2 i (by have := h.dr.2.1; omega) (by simp; omega), h.dr.2.2 i hi hne]
  exact ⟨⟨_, kstore_at h.i.cell rfl (by omega) rfl rfl, go _ (n, q.2) rfl rfl rfl⟩, ⟨_, kstore_at h.i.cell rfl (by omega) rfl rfl, go _ (q.1, q.2.1, n, q.2.2.2) rfl rfl rfl⟩⟩
theorem AnyS.app {p : Nat} {code : List UInt8} {H : Heap} {z Q : Nat} {q : ParserT} {Hx : Heap} {vP vT : GV} {RP RT : List Nat} (h : AnyS p code H z Q q Hx vP vT RP RT) (hp : p < H.length) (hs : q.2.1.length ≤ 16 ∧ q.2.2.2.length ≤ 40) (n : Int) :
    (∃ v' H7 H8 RP', kapp [.int .i64 0] 1 8 vP (.sl Hx.length 0 1 1 1) (Hx ++ [[.int .i64 n]]) = some (v', H7) ∧ kstore 1 H7 (.ptr Q 1 4) v' = some H8 ∧ AnyS p code H z Q (q.1, q.2.1 ++ [n], q.2.2.1, q.2.2.2) H8 v' vT RP' RT) ∧
    (∃ v' H7 H8 RT', kapp [.int .i64 0] 1 8 vT (.sl Hx.length 0 1 1 1) (Hx ++ [[.int .i64 n]]) = some (v', H7) ∧ kstore 1 H7 (.ptr Q 3 4) v' = some H8 ∧ AnyS p code H z Q (q.1, q.2.1, q.2.2.1, q.2.2.2 ++ [n]) H8 vP v' RP RT') := by
  obtain ⟨a, b, c, e⟩ := h.p hp
  have gI : Good 1 1 ci (RFl ci) := RFl.good (es := 1) (mk := ci) (fun _ => rfl) (fun _ => rfl)
  have hxx : RFl ci Hx [.int .i64 n] n [] := ⟨rfl, rfl⟩
  have hQl := (List.getElem?_eq_some_iff.1 h.i.cell).1
  have hzl := (List.getElem?_eq_some_iff.1 h.zz).1
  have mP := goodInt64S.mem h.i.ps
  have mT := goodInt64S.mem h.i.tx
  have hd := h.dr.2.1
  have hzH := h.hz
  have hzQ := h.hQ
  have base : ∀ {R R' R'' : List Nat} {Hy : Heap}, (∀ i ∈ R', i ∈ R ∨ Hx.length ≤ i) → (∀ i ∈ R, z < i) → p ∉ R → Fr (Q :: R) Hx Hy → Dr p code H Hy := fun {R R' R'' Hy} h1 h2 h3 f => by
    obtain ⟨i, k, w1, w2⟩ := h.dr.1
    refine ⟨⟨i, k, f.blk w1 (by rw [List.mem_cons]; exact fun hh => hh.elim c h3), w2⟩, ⟨by have := f.1; omega, fun i hi hne => ?_⟩⟩
    rw [f.2 i (by omega) (fun hh => by rcases List.mem_cons.1 hh with hh | hh; omega; have := h2 i hh; omega), h.dr.2.2 i hi hne]
  constructor
  · obtain ⟨v', H7, H8, RP', a1, a2, a3, a4, a5, a6, a7⟩ := push gI (by omega) (z := [.int .i64 0]) (b := 8) rfl (by omega) h.i.ps h.i.np (by omega) hxx List.nodup_nil (fun i hi => by cases hi) (p := Q) (o := 1) (n := 4) h.i.cell rfl (by omega) h.i.bp (fun hh => by cases hh)
    have k5 : ∀ i ∈ RP', i ∈ RP ∨ Hx.length ≤ i := fun i hi => by rcases a5 i hi with h' | h' | h'; exact .inl h'; cases h'; exact .inr h'
    refine ⟨v', H7, H8, RP', a1, a2, ⟨a6, a3, goodInt64S.keep h.i.tx a7 (fun i hi hh => ?_), a4, h.i.nt, fun i hi hj => ?_, fun hh => ?_, h.i.bt⟩, fun k hk => ?_, a7.blk h.zz (fun hh => ?_), base (R'' := []) k5 (fun i hi => h.lo i (.inl hi)) a a7, h.hz, h.hQ⟩
    · rcases List.mem_cons.1 hh with hh | hh
      · exact h.i.bt (hh ▸ hi)
      · exact h.i.dj i hh hi
    · rcases k5 i hi with hh | hh
      · exact h.i.dj i hh hj
      · have := mT i hj; omega
    · rcases k5 Q hh with hh | hh
      · exact h.i.bp hh
      · omega
    · rcases hk with hk | hk
      · rcases k5 k hk with hh | hh
        · exact h.lo k (.inl hh)
        · omega
      · exact h.lo k (.inr hk)
    · rcases List.mem_cons.1 hh with hh | hh
      · omega
      · have := h.lo z (.inl hh); omega
  · obtain ⟨v', H7, H8, RT', a1, a2, a3, a4, a5, a6, a7⟩ := push gI (by omega) (z := [.int .i64 0]) (b := 8) rfl (by omega) h.i.tx h.i.nt (by omega) hxx List.nodup_nil (fun i hi => by cases hi) (p := Q) (o := 3) (n := 4) h.i.cell rfl (by omega) h.i.bt (fun hh => by cases hh)
    have k5 : ∀ i ∈ RT', i ∈ RT ∨ Hx.length ≤ i := fun i hi => by rcases a5 i hi with h' | h' | h'; exact .inl h'; cases h'; exact .inr h'
    refine ⟨v', H7, H8, RT', a1, a2, ⟨a6, goodInt64S.keep h.i.ps a7 (fun i hi hh => ?_), a3, h.i.np, a4, fun i hi hj => ?_, h.i.bp, fun hh => ?_⟩, fun k hk => ?_, a7.blk h.zz (fun hh => ?_), base (R'' := []) k5 (fun i hi => h.lo i (.inr hi)) b a7, h.hz, h.hQ⟩
    · rcases List.mem_cons.1 hh with hh | hh
      · exact h.i.bp (hh ▸ hi)
      · exact h.i.dj i hi hh
    · rcases k5 i hj with hh | hh
      · exact h.i.dj i hi hh
      · have := mP i hi; omega
    · rcases k5 Q hh with hh | hh
      · exact h.i.bt hh
      · omega
    · rcases hk with hk | hk
      · exact h.lo k (.inl hk)
      · rcases k5 k hk with hh | hh
        · exact h.lo k (.inr hh)
        · omega
    · rcases List.mem_cons.1 hh with hh | hh
      · omega
      · have := h.lo z (.inr hh); omega
end Go.Proofs.Ytlbnioapepelnaa.G
