/- A parser of runes: the program's Step and Parsed; the reference's step. A parser of runes: the reference's step. Data in memory: what is handed back told; which blocks it leads to. A parser of runes: the reference's Step and Parsed. A parser of runes: how much comes out. What these functions do, told for open values, out of the machine with continuations. Printed by a program of this session. -/
import Derived.Test.YtlbnioapepelnaaZ4f679289
import Derived.Test.YtlbnioapepelnaaZfe0b0506
import Derived.Test.YtlbnioapepelnaaZa5489422
import Derived.KernelRfl
namespace Go.Proofs.Ytlbnioapepelnaa.G
open Go.RowKit
set_option linter.unusedVariables false
set_option linter.unusedSimpArgs false
/-- What both hand over: a parser and actions. -/
def PairO (f : FuncId) (args : List GV) (b : Nat) (q : ParserT × List ActionT) : Prop :=
  ∃ c v bl n, OO f args b = some (.tup [.agg c, v], bl) ∧ n ≤ bl.length ∧ ∀ H T, H.length = b → rParser (H ++ bl ++ T) c q.1 (List.range' b n) ∧ rActionS (H ++ bl ++ T) [v] q.2 (List.range' (b + n) (bl.length - n))
abbrev zPars : List GV := [.int .i64 0, .nils, .int .i64 0, .nils]
theorem impl_Step_spec (p : ParserT) (hm : okParser p) (r : Int) (b : Nat) : PairO fn.impl_Step [.agg (mParser true p), .int .i64 r] b (parsedM p [r]) := by
  have hML : (mParser true p).length = 4 := rfl
  have bM : ∀ (H : Heap) (gs zs : List GV), bors H gs = some zs → bors H (.agg (mParser true p) :: gs) = some (.agg (mParser true p) :: zs) := fun H gs zs h => by
    rw [bors_cons, h]; simp
  have ip := fun H => fun v (hv : bors H [v] = some [fzl true 1 ci [r]]) => fresh_pair goodParser goodActionS (f := fn.impl_parsed) (args := [.agg (mParser true p), v]) (xs := [.agg (mParser true p), fzl true 1 ci [r]]) (H := H) (x := (parsedM p [r]).1) (y := (parsedM p [r]).2) (bM _ _ _ hv) (impl_parsed_spec p hm [r] (by simp) H.length)
  obtain ⟨M, hM⟩ : ∃ M, mParser true p = M := ⟨_, rfl⟩
  rw [hM] at hML ⊢
  simp only [hM] at bM ip
  obtain ⟨H0, hH0⟩ : ∃ H0 : Heap, [M, zPars, [.int .i64 r]] = H0 := ⟨_, rfl⟩
  have A0 : H0[0]? = some M := by rw [← hH0]; rfl
  have Z0 : H0[1]? = some zPars := by rw [← hH0]; rfl
  have I0 : H0[2]? = some ([r].flatMap ci) := by rw [← hH0]; rfl
  have l0 : H0.length = 3 := by rw [← hH0]; rfl
  have hbox : ∀ {Q : Type} (K : GV → Heap → Option Q), kbox (.agg M) [] K = K (.ptr 0 0 4) [M] := fun K => by rw [kbox_agg, hML]; rfl
  have hal : ∀ {Q : Type} (K : GV → Heap → Option Q), kalloc zPars [M] K = K (.ptr 1 0 4) [M, zPars] := fun K => rfl
  have a0 := kloadA_at (n := 4) (H := [M, zPars]) (p := 0) (c := M) rfl hML
  have kb0 : ∀ {Q : Type} (K : GV → Heap → Option Q), kbs 1 1 [.int .i64 r] [M, zPars] K = K (.sl 2 0 1 1 1) H0 := fun K => by rw [kbs_at, ← hH0]; rfl
  have rI : rInt64S H0 [.sl 2 0 1 1 1] [r] [2] := rNewI (xs := [r]) I0
  obtain ⟨c1, v1, R1, S1, H1, t1, r1, s1, n1, m1, ⟨m, d1, d2, d3, d4⟩, f1, l1⟩ := ip H0 (.sl 2 0 1 1 1) (bors_one (RFl.good (es := 1) (mk := ci) (fun _ => rfl) (fun _ => rfl)) (by omega) rI rfl)
  have Z1 := f1.blk Z0 no_nil
  have w1 := kstoreA_at (n := 4) Z1 rfl (c' := c1) (goodParser.len r1) (goodParser.cell r1)
  obtain ⟨H2, hH2⟩ : ∃ H2, H1.set 1 c1 = H2 := ⟨_, rfl⟩
  rw [hH2] at w1
  have hl1 := (List.getElem?_eq_some_iff.1 Z1).1
  have A2 : H2[1]? = some c1 := by rw [← hH2, List.getElem?_set_self hl1]
  have f2 : Fr [1] H1 H2 := by rw [← hH2]; exact .set (by simp)
  have a2 := kloadA_at (n := 4) A2 (goodParser.len r1)
  have r2 := goodParser.keep r1 f2 (fun i hi h => by have := d1 i hi; rw [List.mem_singleton] at h; omega)
  have s2 := goodActionS.keep s1 f2 (fun i hi h => by have := d2 i hi; rw [List.mem_singleton] at h; omega)
  obtain ⟨c, v, bl, n, o1, o2, o3⟩ := goodParser.finP goodActionS (by omega) (by omega) r2 s2 (by
    rw [List.nodup_append]
    exact ⟨n1, m1, fun i hi k hk e => by have := d1 i hi; have := d2 k hk; omega⟩) b
  refine ⟨c, v, bl, n, S.impl_Step.gives (k := 0) ?_, o2, o3⟩
  unfold S.impl_Step.run S.impl_Step.n0
  rw [hbox, hal, a0]
  simp only [Option.bind_some, gfill, zeros, List.append_nil, Nat.zero_mul, Nat.one_mul, List.length_cons, List.length_nil]
  simp [splice, kb0, t1, w1, a2, o1, -kF_OO, -kloadA_ptr, -kstore_ptr]
theorem impl_Parsed_spec (p : ParserT) (hm : okParser p) (l : List Int) (hl : l.length ≤ 1048576) (b : Nat) : PairO fn.impl_Parsed [.agg (mParser true p), fzl true 1 ci l] b (parsed2M p l) := by
  have hML : (mParser true p).length = 4 := rfl
  have bM : ∀ (H : Heap) (gs zs : List GV), bors H gs = some zs → bors H (.agg (mParser true p) :: gs) = some (.agg (mParser true p) :: zs) := fun H gs zs h => by
    rw [bors_cons, h]; simp
  have ip := fun H => fresh_pair goodParser goodActionS (f := fn.impl_parsed) (args := [.agg (mParser true p), fzl true 1 ci l]) (xs := [.agg (mParser true p), fzl true 1 ci l]) (H := H) (x := (parsedM p l).1) (y := (parsedM p l).2) (bM _ _ _ (by simp)) (impl_parsed_spec p hm l hl H.length)
  obtain ⟨M, hM⟩ : ∃ M, mParser true p = M := ⟨_, rfl⟩
  rw [hM] at hML ⊢
  simp only [hM] at bM ip
  obtain ⟨H0, hH0⟩ : ∃ H0 : Heap, [M, zPars] = H0 := ⟨_, rfl⟩
  have A0 : H0[0]? = some M := by rw [← hH0]; rfl
  have Z0 : H0[1]? = some zPars := by rw [← hH0]; rfl
  have l0 : H0.length = 2 := by rw [← hH0]; rfl
  have hbox : ∀ {Q : Type} (K : GV → Heap → Option Q), kbox (.agg M) [] K = K (.ptr 0 0 4) [M] := fun K => by rw [kbox_agg, hML]; rfl
  have hal : ∀ {Q : Type} (K : GV → Heap → Option Q), kalloc zPars [M] K = K (.ptr 1 0 4) H0 := fun K => by rw [kalloc_eq, ← hH0]; rfl
  have a0 := kloadA_at (n := 4) A0 hML
  have g : kbin .gtr (.int .i64 (l.length : Int)) (.int .i64 2000) = some (.bool (!decide (l.length ≤ 2000))) := by rw [kbin_gtr]; congr 2; rw [Bool.eq_iff_iff]; simp; omega
  unfold parsed2M
  by_cases h2 : l.length ≤ 2000
  · rw [if_pos h2]
    rw [decide_eq_true h2] at g
    obtain ⟨c1, v1, R1, S1, H1, t1, r1, s1, n1, m1, ⟨m, d1, d2, d3, d4⟩, f1, l1⟩ := ip H0
    have Z1 := f1.blk Z0 no_nil
    have w1 := kstoreA_at (n := 4) Z1 rfl (c' := c1) (goodParser.len r1) (goodParser.cell r1)
    obtain ⟨H2, hH2⟩ : ∃ H2, H1.set 1 c1 = H2 := ⟨_, rfl⟩
    rw [hH2] at w1
    have hl1 := (List.getElem?_eq_some_iff.1 Z1).1
    have A2 : H2[1]? = some c1 := by rw [← hH2, List.getElem?_set_self hl1]
    have f2 : Fr [1] H1 H2 := by rw [← hH2]; exact .set (by simp)
    have a2 := kloadA_at (n := 4) A2 (goodParser.len r1)
    have r2 := goodParser.keep r1 f2 (fun i hi h => by have := d1 i hi; rw [List.mem_singleton] at h; omega)
    have s2 := goodActionS.keep s1 f2 (fun i hi h => by have := d2 i hi; rw [List.mem_singleton] at h; omega)
    obtain ⟨c, v, bl, n, o1, o2, o3⟩ := goodParser.finP goodActionS (by omega) (by omega) r2 s2 (by
      rw [List.nodup_append]
      exact ⟨n1, m1, fun i hi k hk e => by have := d1 i hi; have := d2 k hk; omega⟩) b
    refine ⟨c, v, bl, n, S.impl_Parsed.gives (k := 0) ?_, o2, o3⟩
    unfold S.impl_Parsed.run S.impl_Parsed.n0
    rw [hbox, hal]
    simp [g, a0, t1, w1, a2, o1, -kF_OO, -kloadA_ptr, -kstore_ptr, -kbin_gtr]
  · rw [if_neg h2]
    rw [decide_eq_false h2] at g
    have s1 := kstoreA_at (n := 4) Z0 rfl (c' := zPars) rfl (by simp)
    have e1 : H0.set 1 zPars = H0 := by rw [← hH0]; rfl
    rw [e1] at s1
    have a1 := kloadA_at (n := 4) Z0 rfl
    obtain ⟨c, v, bl, n, o1, o2, o3⟩ := goodParser.finP goodActionS (by omega) (by omega) (parser_rel (s := 0) (m := 0) (H := H0) no_ints no_ints) (no_act (H := H0)) List.nodup_nil b
    refine ⟨c, v, bl, n, S.impl_Parsed.gives (k := 0) ?_, o2, o3⟩
    unfold S.impl_Parsed.run S.impl_Parsed.n0
    rw [hbox, hal]
    simp [g, gfill, s1, a1, o1, -kloadA_ptr, -kstore_ptr, -kbin_gtr]

/-! The reference. -/
theorem l6State_call (s : Int) (H : Heap) : kF false HH fn.spec_l6State [.int .i64 s] H = some (.agg [.int .i64 s, .nils, .int .i64 0, .nils], H) := by
  have : OO fn.spec_l6State [.int .i64 s] H.length = some (.agg [.int .i64 s, .nils, .int .i64 0, .nils], []) := by
    apply S.spec_l6State.gives (k := 0)
    simp [S.spec_l6State.run, gfill, finO, ownOk, Go.Proofs.Ytlbnioapepelnaa.G.own, ownL, nodupB]
  rw [kF_OO]
  simp [this]
/-- A parser's lists. -/
structure PV (p : ParserT) (H : Heap) (vP vT : GV) (RP RT : List Nat) : Prop where
  ps : rInt64S H [vP] p.2.1 RP
  tx : rInt64S H [vT] p.2.2.2 RT
  np : RP.Nodup
  nt : RT.Nodup
  dj : ∀ i ∈ RP, i ∉ RT
abbrev parC (p : ParserT) (vP vT : GV) : List GV := [.int .i64 p.1, vP, .int .i64 p.2.2.1, vT]
def Stv (q : ParserT × List ActionT) (H H' : Heap) (c : List GV) (v : GV) (RP RT : List Nat) : Prop :=
  ∃ vP vT RP' RT' RA, c = parC q.1 vP vT ∧ PV q.1 H' vP vT RP' RT' ∧ rActionS H' [v] q.2 RA ∧ RA.Nodup ∧ (∀ i ∈ RA, i ∉ RP' ∧ i ∉ RT') ∧ (∀ i, i ∈ RP' ∨ i ∈ RT' ∨ i ∈ RA → i ∈ RP ∨ i ∈ RT ∨ H.length ≤ i) ∧ Fr (RP ++ RT) H H'
theorem PV.box {p : ParserT} {H : Heap} {vP vT : GV} {RP RT : List Nat} (h : PV p H vP vT RP RT) : PIn H.length p (H ++ [parC p vP vT] ++ [zPars]) vP vT RP RT := by
  have f : Fr [] H (H ++ [parC p vP vT] ++ [zPars]) := Fr.app.trans .app
  exact ⟨by simp, goodInt64S.keep h.ps f (fun _ _ => no_nil), goodInt64S.keep h.tx f (fun _ _ => no_nil), h.np, h.nt, h.dj, fun hi => by have := goodInt64S.mem h.ps _ hi; omega, fun hi => by have := goodInt64S.mem h.tx _ hi; omega⟩
theorem spec_out {p : ParserT} {q : ParserT × List ActionT} {H H2 : Heap} {vP vT v : GV} {RP RT : List Nat} (h : PV p H vP vT RP RT) (s : Stp H.length q (H ++ [parC p vP vT] ++ [zPars]) H2 v RP RT) :
    ∃ c' H3, kloadA 4 H2 (.ptr H.length 0 4) = some (.agg c') ∧ kstore 4 H2 (.ptr (H.length + 1) 0 4) (.agg c') = some H3 ∧ kloadA 4 H3 (.ptr (H.length + 1) 0 4) = some (.agg c') ∧ Stv q H H3 c' v RP RT := by
  obtain ⟨wP, wT, SP, ST, SA, b1, b2, b3, b4, b5, b6⟩ := s
  have hP := goodInt64S.mem h.ps
  have hT := goodInt64S.mem h.tx
  have hl : (H ++ [parC p vP vT] ++ [zPars]).length = H.length + 2 := by simp
  have Z : (H ++ [parC p vP vT] ++ [zPars])[H.length + 1]? = some zPars := by simp
  have out : ∀ i, i ∈ SP ∨ i ∈ ST ∨ i ∈ SA → i ≠ H.length + 1 := fun i hi e => by
    rcases b5 i hi with h' | h' | h'
    · have := hP i h'; omega
    · have := hT i h'; omega
    · omega
  have Z2 := b6.blk Z (fun h' => by
    rcases List.mem_cons.1 h' with h' | h'
    · omega
    · rcases List.mem_append.1 h' with h' | h'
      · have := hP _ h'; omega
      · have := hT _ h'; omega)
  have cP := cells1 b1.ps
  have cT := cells1 b1.tx
  have s2 := kstoreA_at (n := 4) Z2 rfl (c' := parC q.1 wP wT) rfl (by simp [cP.2, cT.2])
  have hl2 := (List.getElem?_eq_some_iff.1 Z2).1
  have f3 : Fr [H.length + 1] H2 (H2.set (H.length + 1) (parC q.1 wP wT)) := .set (by simp)
  have no : ∀ i, i ∈ SP ∨ i ∈ ST ∨ i ∈ SA → i ∉ [H.length + 1] := fun i hi h' => out i hi (by simpa using h')
  refine ⟨parC q.1 wP wT, _, kloadA_at (n := 4) b1.cell rfl, s2, kloadA_at (n := 4) (List.getElem?_set_self hl2) rfl, wP, wT, SP, ST, SA, rfl, ⟨goodInt64S.keep b1.ps f3 (fun i hi => no i (Or.inl hi)), goodInt64S.keep b1.tx f3 (fun i hi => no i (Or.inr (Or.inl hi))), b1.np, b1.nt, b1.dj⟩, goodActionS.keep b2 f3 (fun i hi => no i (Or.inr (Or.inr hi))), b3, fun i hi => ⟨(b4 i hi).1, (b4 i hi).2.1⟩, fun i hi => ?_, ?_⟩
  · rcases b5 i hi with h' | h' | h'
    · exact Or.inl h'
    · exact Or.inr (Or.inl h')
    · exact Or.inr (Or.inr (by omega))
  · have l2 := b6.1
    refine ⟨by rw [List.length_set]; omega, fun i hi hn => ?_⟩
    rw [List.mem_append] at hn
    rw [List.getElem?_set_ne (by omega), b6.2 i (by omega) (fun h' => ?_), List.append_assoc, List.getElem?_append_left hi]
    rcases List.mem_cons.1 h' with h' | h'
    · omega
    · exact hn (List.mem_append.1 h')
/-- .. a new state, the list of actions as told. -/
theorem spec_out2 {p : ParserT} {l : List ActionT} {H H2 : Heap} {vP vT v : GV} {RP RT RA : List Nat} (h : PV p H vP vT RP RT) (s : Int) (f : Fr [] (H ++ [parC p vP vT] ++ [zPars]) H2) (ha : rActionS H2 [v] l RA) (nd : RA.Nodup) (hr : ∀ i ∈ RA, i ∈ RP ∨ i ∈ RT ∨ H.length + 2 ≤ i) :
    ∃ H3, kstore 4 H2 (.ptr (H.length + 1) 0 4) (.agg [.int .i64 s, .nils, .int .i64 0, .nils]) = some H3 ∧ kloadA 4 H3 (.ptr (H.length + 1) 0 4) = some (.agg [.int .i64 s, .nils, .int .i64 0, .nils]) ∧ Stv (st0 s, l) H H3 [.int .i64 s, .nils, .int .i64 0, .nils] v RP RT := by
  have hP := goodInt64S.mem h.ps
  have hT := goodInt64S.mem h.tx
  have Z : (H ++ [parC p vP vT] ++ [zPars])[H.length + 1]? = some zPars := by simp
  have Z2 := f.blk Z no_nil
  have s2 := kstoreA_at (n := 4) Z2 rfl (c' := [.int .i64 s, .nils, .int .i64 0, .nils]) rfl (by simp)
  have hl2 := (List.getElem?_eq_some_iff.1 Z2).1
  have f3 : Fr [H.length + 1] H2 (H2.set (H.length + 1) [.int .i64 s, .nils, .int .i64 0, .nils]) := .set (by simp)
  refine ⟨_, s2, kloadA_at (n := 4) (List.getElem?_set_self hl2) rfl, .nils, .nils, [], [], RA, rfl, ⟨no_ints, no_ints, List.nodup_nil, List.nodup_nil, fun i hi => by (cases hi)⟩, goodActionS.keep ha f3 (fun i hi h' => ?_), nd, fun i hi => ⟨no_nil, no_nil⟩, fun i hi => ?_, ?_⟩
  · rw [List.mem_singleton] at h'
    rcases hr i hi with h'' | h'' | h''
    · have := hP i h''; omega
    · have := hT i h''; omega
    · omega
  · rcases hi with hi | hi | hi
    · cases hi
    · cases hi
    · rcases hr i hi with h'' | h'' | h''
      · exact Or.inl h''
      · exact Or.inr (Or.inl h'')
      · exact Or.inr (Or.inr (by omega))
  · have l2 := f.1
    simp only [List.length_append, List.length_cons, List.length_nil] at l2
    refine ⟨by rw [List.length_set]; omega, fun i hi hn => ?_⟩
    rw [List.getElem?_set_ne (by omega), f.2 i (by simp; omega) no_nil, List.append_assoc, List.getElem?_append_left hi]
end Go.Proofs.Ytlbnioapepelnaa.G

namespace Go.Proofs.Ytlbnioapepelnaa.G
open Go.RowKit
set_option linter.unusedVariables false
set_option linter.unusedSimpArgs false
theorem Stp.emp {b : Nat} {q : ParserT} {H H' : Heap} {v : GV} {RP RT : List Nat} (h : Stp b (q, []) H H' v RP RT) : Stp b (q, []) H H' .emp RP RT := by
  obtain ⟨vP, vT, RP', RT', RA, a1, a2, a3, a4, a5, a6⟩ := h
  exact ⟨vP, vT, RP', RT', [], a1, no_act', List.nodup_nil, fun i hi => (by cases hi), fun i hi => a5 i (hi.elim Or.inl fun h => Or.inr (h.elim Or.inl fun h => by cases h)), a6⟩
theorem Stp.split {b : Nat} {p : ParserT} {H H' : Heap} {v0 : GV} {RP RT : List Nat} (h1 : Stp b (p, []) H H' v0 RP RT) : ∃ vP vT RP' RT', PIn b p H' vP vT RP' RT' ∧ ∀ {q : ParserT} {l : List ActionT} {H'' : Heap} {v : GV}, Stp b (q, l) H' H'' v RP' RT' → Stp b (q, l) H H'' v RP RT := by
  obtain ⟨vP, vT, RP', RT', RA, a1, a2, a3, a4, a5, a6⟩ := h1
  refine ⟨vP, vT, RP', RT', a1, fun {q l H'' v} h2 => ?_⟩
  obtain ⟨wP, wT, SP, ST, SA, b1, b2, b3, b4, b5, b6⟩ := h2
  have hl := a6.1
  refine ⟨wP, wT, SP, ST, SA, b1, b2, b3, b4, fun i hi => ?_, ?_⟩
  · rcases b5 i hi with h | h | h
    · exact a5 i (Or.inl h)
    · exact a5 i (Or.inr (Or.inl h))
    · exact Or.inr (Or.inr (by omega))
  · refine ⟨Nat.le_trans a6.1 b6.1, fun i hi hn => ?_⟩
    rw [← a6.2 i hi hn]
    refine b6.2 i (by omega) fun h => ?_
    rw [List.mem_cons, List.mem_append] at h hn
    rcases h with h | h | h
    · exact hn (Or.inl h)
    · rcases a5 i (Or.inl h) with h | h | h
      · exact hn (Or.inr (Or.inl h))
      · exact hn (Or.inr (Or.inr h))
      · omega
    · rcases a5 i (Or.inr (Or.inl h)) with h | h | h
      · exact hn (Or.inr (Or.inl h))
      · exact hn (Or.inr (Or.inr h))
      · omega
theorem spec_l1Min_spec (a b : Int) : NN fn.spec_l1Min [.int .i64 a, .int .i64 b] = some (.int .i64 (if a < b then a else b)) := by
  apply S.spec_l1Min.gives (k := 0)
  have g : kbin .lss (.int .i64 a) (.int .i64 b) = some (.bool (decide (a < b))) := kbin_lss
  by_cases h : a < b
  · rw [decide_eq_true h] at g; rw [if_pos h]; simp [S.spec_l1Min.run, g, -kbin_lss]
  · rw [decide_eq_false h] at g; rw [if_neg h]; simp [S.spec_l1Min.run, g, -kbin_lss]
theorem l6List_op {p : ParserT} {H : Heap} {vP vT : GV} {RP RT : List Nat} (h : PV p H vP vT RP RT) (hp : p.2.1.length ≤ 16 ∧ ∀ n ∈ p.2.1, 0 ≤ n ∧ n ≤ 9999) (r : Int) : ∃ c v H', HH fn.spec_l6List [.agg (parC p vP vT), .int .i64 r] H = some (.tup [.agg c, v], H') ∧ Stv (moreM p r) H H' c v RP RT := by
  have hb := h.box
  have hbox : ∀ {Q : Type} (K : GV → Heap → Option Q), kbox (.agg (parC p vP vT)) H K = K (.ptr H.length 0 4) (H ++ [parC p vP vT]) := fun K => rfl
  have hal : ∀ {Q : Type} (K : GV → Heap → Option Q), kalloc [.int .i64 0, .nils, .int .i64 0, .nils] (H ++ [parC p vP vT]) K = K (.ptr (H.length + 1) 0 4) (H ++ [parC p vP vT] ++ [zPars]) := fun K => by rw [kalloc_eq]; simp
  have so : ∀ {q : ParserT × List ActionT} {H2 : Heap} {v : GV}, Stp H.length q (H ++ [parC p vP vT] ++ [zPars]) H2 v RP RT → _ := fun s => spec_out h s
  have so2 : ∀ {l : List ActionT} {H2 : Heap} {v : GV} {RA : List Nat} (s : Int) (f : Fr [] (H ++ [parC p vP vT] ++ [zPars]) H2), _ → _ → _ → _ := fun {l H2 v RA} s f a b c => spec_out2 (l := l) (v := v) (RA := RA) h s f a b c
  have cP := cells1 h.ps
  have mP := goodInt64S.mem h.ps
  have tP := goodInt64S.keep h.ps (h' := H ++ [parC p vP vT] ++ [zPars]) (Fr.app.trans .app) (fun _ _ => no_nil)
  have hl1 : (H ++ [parC p vP vT] ++ [zPars]).length = H.length + 2 := by simp
  obtain ⟨H1, hH1⟩ : ∃ H1, H ++ [parC p vP vT] ++ [zPars] = H1 := ⟨_, rfl⟩
  simp only [hH1] at hb hal so so2 tP hl1
  obtain ⟨b, hbe⟩ : ∃ b, H.length = b := ⟨_, rfl⟩
  have l1 := kload1_at (o := 1) (tot := 4) hb.cell rfl
  have l2 := kload1_at (o := 2) (tot := 4) hb.cell rfl
  simp only [List.getElem?_cons_succ, List.getElem?_cons_zero] at l1 l2
  have ln := RSl.len h.ps
  have g1 : kbin .eql (.int .i64 r) (.int .i64 63) = some (.bool (decide (r = 63))) := kbin_eql
  have g2 := klen0 (n := p.2.1.length)
  have g3 : kbin .eql (.int .i64 p.2.2.1) (.int .i64 0) = some (.bool (decide (p.2.2.1 = 0))) := kbin_eql
  have g4 := k_l1In r 48 57
  have g5 : kbin .eql (.int .i64 r) (.int .i64 59) = some (.bool (decide (r = 59))) := kbin_eql
  have g6 := k_l1In r 64 126
  have run0 : ∀ {c : List GV} {v : GV} {H' : Heap}, S.spec_l6List.n5 0 (fun x v4 v5 v6 h => kx x (S.spec_l6List.n4 0 (fun x v4 v5 h => kend x ((kloadA 4 h v4).bind fun w4 => finH (.tup [w4, v5]) h)) v4 v6 h) (kend x ((kloadA 4 h v4).bind fun w4 => finH (.tup [w4, v5]) h))) (.int .i64 r) (.ptr H.length 0 4) (.ptr (H.length + 1) 0 4) .nils .emp (.int .i64 (p.2.1.length : Int)) H1 = some (.tup [.agg c, v], H') → HH fn.spec_l6List [.agg (parC p vP vT), .int .i64 r] H = some (.tup [.agg c, v], H') := by
    intro c v H' e
    apply S.spec_l6List.gives (k := 0)
    unfold S.spec_l6List.run S.spec_l6List.n0
    rw [hbox, hal]
    unfold S.spec_l6List.n1 S.spec_l6List.n2
    rw [kfa_ptr, Option.bind_some, l1, Option.bind_some, ln, Option.bind_some]
    unfold S.spec_l6List.n3
    exact e
  unfold moreM
  by_cases hc : r = 63 ∧ p.2.1.length = 0 ∧ p.2.2.1 = 0
  · rw [if_pos hc]
    obtain ⟨c1, c2, c3⟩ := hc
    rw [decide_eq_true c1] at g1
    rw [decide_eq_true c2] at g2
    rw [decide_eq_true c3] at g3
    obtain ⟨H2, a1, a2⟩ := hb.setM 63
    obtain ⟨c, H3, o1, o2, o3, o4⟩ := so a2.emp
    exact ⟨c, .emp, H3, run0 (by simp [g1, g2, g3, l2, a1, o1, o2, o3, -kbin_eql, -kload1_ptr, -kstore_ptr, -kloadA_ptr]), o4⟩
  rw [if_neg hc]
  have head : ∀ {Q : Type} (G : GX → GV → GV → GV → Heap → Option Q), S.spec_l6List.n6 0 G (.int .i64 r) (.ptr H.length 0 4) (.ptr (H.length + 1) 0 4) .nils .emp (.int .i64 (p.2.1.length : Int)) H1 = S.spec_l6List.n9 0 G (.int .i64 r) (.ptr H.length 0 4) (.ptr (H.length + 1) 0 4) .nils .emp (.int .i64 (p.2.1.length : Int)) H1 := by
    intro Q G
    by_cases c1 : r = 63
    · rw [decide_eq_true c1] at g1
      by_cases c2 : p.2.1.length = 0
      · have c3 : ¬ p.2.2.1 = 0 := fun c3 => hc ⟨c1, c2, c3⟩
        rw [decide_eq_true c2] at g2
        rw [decide_eq_false c3] at g3
        simp [g1, g2, g3, l2, -kbin_eql, -kload1_ptr, -kstore_ptr, -S.spec_l6List.n9]
      · rw [decide_eq_false c2] at g2
        simp [g1, g2, -kbin_eql, -kload1_ptr, -kstore_ptr, -S.spec_l6List.n9]
    · rw [decide_eq_false c1] at g1
      simp [g1, -kbin_eql, -kload1_ptr, -kstore_ptr, -S.spec_l6List.n9]
  have run : ∀ {c : List GV} {v : GV} {H' : Heap}, S.spec_l6List.n9 0 (fun x v4 v5 v6 h => kb 0 x fun x => kx x (S.spec_l6List.n4 0 (fun x v4 v5 h => kend x ((kloadA 4 h v4).bind fun w4 => finH (.tup [w4, v5]) h)) v4 v6 h) (kend x ((kloadA 4 h v4).bind fun w4 => finH (.tup [w4, v5]) h))) (.int .i64 r) (.ptr H.length 0 4) (.ptr (H.length + 1) 0 4) .nils .emp (.int .i64 (p.2.1.length : Int)) H1 = some (.tup [.agg c, v], H') → HH fn.spec_l6List [.agg (parC p vP vT), .int .i64 r] H = some (.tup [.agg c, v], H') := by
    intro c v H' e
    refine run0 ?_
    unfold S.spec_l6List.n5
    rw [head]
    exact e
  by_cases hd : inB r 48 57 = true
  · rw [if_pos hd]
    rw [hd] at g4
    rw [inB_iff] at hd
    have dig : ∀ {H2 : Heap} {wP wT : GV} {SP ST : List Nat}, PIn H.length (p.1, nz p.2.1, p.2.2.1, p.2.2.2) H2 wP wT SP ST → ∃ H3, (∀ {Q : Type} (G : GX → GV → GV → GV → Heap → Option Q), S.spec_l6List.n12 0 G (.int .i64 r) (.ptr H.length 0 4) (.ptr (H.length + 1) 0 4) .nils .emp (.int .i64 ((nz p.2.1).length : Int)) H2 = (kloadA 4 H3 (.ptr H.length 0 4)).bind fun v53 => (kstore 4 H3 (.ptr (H.length + 1) 0 4) v53).bind fun h => G .ret (.ptr (H.length + 1) 0 4) .emp .emp h) ∧ Stp H.length (digM p r, []) H2 H3 .nils SP ST := by
      intro H2 wP wT SP ST h1
      have lz := nz_len p.2.1
      have lb := nz_last hp.2
      obtain ⟨i, e1, e2, H3, e3, e4⟩ := h1.setP lz.1 (min ((nz p.2.1)[(nz p.2.1).length - 1]?.getD 0 * 10 + r - 48) 9999)
      have m1 := kload1_at (o := 1) (tot := 4) h1.cell rfl
      simp only [List.getElem?_cons_succ, List.getElem?_cons_zero] at m1 e2 e3
      simp only at e1
      obtain ⟨n, hn⟩ : ∃ n, (nz p.2.1).length = n := ⟨_, rfl⟩
      obtain ⟨x, hx⟩ : ∃ x, (nz p.2.1)[(nz p.2.1).length - 1]?.getD 0 = x := ⟨_, rfl⟩
      rw [hx] at e2 e3 lb
      rw [hn] at e1 e2 e3 lz ⊢
      have ks : kbin .sub (.int .i64 (n : Int)) (.int .i64 1) = some (.int .i64 ((n - 1 : Nat) : Int)) := by
        rw [kbin_sub, wrap_id (by omega) (by omega)]; congr 2; omega
      have ki : kia 1 wP (.int .i64 ((n - 1 : Nat) : Int)) = some (.ptr i (n - 1) n) := by rw [e1]; exact kia_at (by omega) (by omega) (by omega)
      have k1 : kbin .mul (.int .i64 10) (.int .i64 x) = some (.int .i64 (x * 10)) := by rw [kbin_mul, wrap_id (by omega) (by omega)]; congr 2; omega
      have k2 : kbin .add (.int .i64 (x * 10)) (.int .i64 r) = some (.int .i64 (x * 10 + r)) := by rw [kbin_add, wrap_id (by omega) (by omega)]
      have k3 : kbin .sub (.int .i64 (x * 10 + r)) (.int .i64 48) = some (.int .i64 (x * 10 + r - 48)) := by rw [kbin_sub, wrap_id (by omega) (by omega)]
      have k4 : kN NN fn.spec_l1Min [.int .i64 9999, .int .i64 (x * 10 + r - 48)] H2 = some (.int .i64 (min (x * 10 + r - 48) 9999)) := by
        rw [kN_at (xs := [.int .i64 9999, .int .i64 (x * 10 + r - 48)]) (by simp) (spec_l1Min_spec _ _)]
        congr 2; rw [Int.min_def]; split <;> split <;> omega
      refine ⟨H3, fun G => ?_, ?_⟩
      · simp [m1, ks, ki, e2, k1, k2, k3, k4, e3, -kN_eq, -kbin_sub, -kbin_mul, -kbin_add, -kload1_ptr, -kstore_ptr, -kloadA_ptr]
      · unfold digM
        exact e4
    by_cases h0 : p.2.1.length = 0
    · rw [decide_eq_true h0] at g2
      obtain ⟨v', H4, H5, a1, a2, a3⟩ := hb.nzP h0
      have e1 : (nz p.2.1).length = 1 := by unfold nz; rw [if_pos h0]; rfl
      obtain ⟨wP, wT, SP, ST, b1, comb⟩ := a3.split
      obtain ⟨H3, d1, d2⟩ := dig b1
      obtain ⟨c, H6, o1, o2, o3, o4⟩ := so (comb d2).emp
      refine ⟨c, .emp, H6, run ?_, o4⟩
      simp only [e1, show ((1 : Nat) : Int) = 1 from rfl] at d1
      simp [g4, g2, l1, gfill, zeros, kbs_at, a1, a2, d1, o1, o2, o3, -kN_eq, -kbin_eql, -kload1_ptr, -kstore_ptr, -kloadA_ptr, -S.spec_l6List.n12, -S.spec_l6List.n4]
    · rw [decide_eq_false h0] at g2
      have e : nz p.2.1 = p.2.1 := by unfold nz; rw [if_neg h0]
      obtain ⟨H3, d1, d2⟩ := dig (by rw [e]; exact hb)
      rw [e] at d1
      obtain ⟨c, H6, o1, o2, o3, o4⟩ := so d2.emp
      refine ⟨c, .emp, H6, run ?_, o4⟩
      simp [g4, g2, d1, o1, o2, o3, -kN_eq, -kbin_eql, -kload1_ptr, -kstore_ptr, -kloadA_ptr, -S.spec_l6List.n12, -S.spec_l6List.n4]
  rw [if_neg hd]
  simp only [Bool.not_eq_true] at hd
  rw [hd] at g4
  by_cases h59 : r = 59
  · rw [if_pos h59]
    rw [decide_eq_true h59] at g5
    have sep : ∀ {H2 : Heap} {wP wT : GV} {SP ST : List Nat}, PIn H.length (p.1, nz p.2.1, p.2.2.1, p.2.2.2) H2 wP wT SP ST → ∃ H3, (∀ {Q : Type} (G : GX → GV → GV → GV → Heap → Option Q), S.spec_l6List.n17 0 G (.ptr H.length 0 4) (.ptr (H.length + 1) 0 4) .nils .emp H2 = (kloadA 4 H3 (.ptr H.length 0 4)).bind fun v53 => (kstore 4 H3 (.ptr (H.length + 1) 0 4) v53).bind fun h => G .ret (.ptr (H.length + 1) 0 4) .emp .emp h) ∧ Stp H.length (sepM p, []) H2 H3 .nils SP ST := by
      intro H2 wP wT SP ST h1
      have lz := nz_len p.2.1
      have m1 := kload1_at (o := 1) (tot := 4) h1.cell rfl
      simp only [List.getElem?_cons_succ, List.getElem?_cons_zero] at m1
      have mn := RSl.len h1.ps
      have g16 : kbin .lss (.int .i64 ((nz p.2.1).length : Int)) (.int .i64 16) = some (.bool (decide ((nz p.2.1).length < 16))) := by rw [kbin_lss]; congr 2; rw [Bool.eq_iff_iff]; simp; omega
      unfold sepM
      by_cases h16 : (nz p.2.1).length < 16
      · rw [decide_eq_true h16] at g16
        obtain ⟨v', H4, H5, a1, a2, a3⟩ := h1.pushP (by simp only; omega) 0
        rw [if_pos h16]
        refine ⟨H5, fun G => ?_, a3⟩
        simp [m1, mn, g16, gfill, zeros, kbs_at, a1, a2, -kbin_lss, -kload1_ptr, -kstore_ptr, -kloadA_ptr]
      · rw [decide_eq_false h16] at g16
        rw [if_neg h16]
        refine ⟨H2, fun G => ?_, .same h1⟩
        simp [m1, mn, g16, -kbin_lss, -kload1_ptr, -kstore_ptr, -kloadA_ptr]
    by_cases h0 : p.2.1.length = 0
    · rw [decide_eq_true h0] at g2
      obtain ⟨v', H4, H5, a1, a2, a3⟩ := hb.nzP h0
      obtain ⟨wP, wT, SP, ST, b1, comb⟩ := a3.split
      obtain ⟨H3, d1, d2⟩ := sep b1
      obtain ⟨c, H6, o1, o2, o3, o4⟩ := so (comb d2).emp
      refine ⟨c, .emp, H6, run ?_, o4⟩
      simp [g4, g5, g2, l1, gfill, zeros, kbs_at, a1, a2, d1, o1, o2, o3, -kN_eq, -kbin_eql, -kload1_ptr, -kstore_ptr, -kloadA_ptr, -S.spec_l6List.n17, -S.spec_l6List.n4]
    · rw [decide_eq_false h0] at g2
      have e : nz p.2.1 = p.2.1 := by unfold nz; rw [if_neg h0]
      obtain ⟨H3, d1, d2⟩ := sep (by rw [e]; exact hb)
      obtain ⟨c, H6, o1, o2, o3, o4⟩ := so d2.emp
      refine ⟨c, .emp, H6, run ?_, o4⟩
      simp [g4, g5, g2, d1, o1, o2, o3, -kN_eq, -kbin_eql, -kload1_ptr, -kstore_ptr, -kloadA_ptr, -S.spec_l6List.n17, -S.spec_l6List.n4]
  rw [if_neg h59]
  rw [decide_eq_false h59] at g5
  have ls := l6State_call 1
  cases h64 : inB r 64 126
  · rw [h64] at g6
    obtain ⟨H3, o2, o3, o4⟩ := so2 (l := []) (v := .emp) (RA := []) (H2 := H1) 1 .refl no_act' List.nodup_nil (fun i hi => by (cases hi))
    refine ⟨_, .emp, H3, run ?_, by simpa using o4⟩
    simp [g4, g5, g6, ls, o2, o3, -kN_eq, -kF_OO, -kbin_eql, -kload1_ptr, -kstore_ptr, -kloadA_ptr]
  · rw [h64] at g6
    have f2 : Fr [] H1 (H1 ++ [actC 4 r vP p.2.2.1 .nils]) := .app
    obtain ⟨H3, o2, o3, o4⟩ := so2 (l := [(4, r, p.2.1, p.2.2.1, [])]) (v := .sl H1.length 0 1 1 5) (RA := H1.length :: (RP ++ [])) (H2 := H1 ++ [actC 4 r vP p.2.2.1 .nils]) 1 f2 (act_one (by simp) (act_rel (goodInt64S.keep tP f2 (fun _ _ => no_nil)) no_ints)) (by
      rw [List.append_nil, List.nodup_cons]
      exact ⟨fun h' => by have := mP _ h'; omega, h.np⟩) (fun i hi => by
      rcases List.mem_cons.1 hi with rfl | hi
      · exact Or.inr (Or.inr (by omega))
      · exact Or.inl (by simpa using hi))
    refine ⟨_, .sl H1.length 0 1 1 5, H3, run ?_, by simpa using o4⟩
    have y1 : ¬ (H.length + 1 = H.length) := by omega
    have y2 : ¬ (H1.length ≤ H.length + 1) := by omega
    have y3 : ¬ (H1.length ≤ H.length) := by omega
    have y4 : ¬ (H1.length + 1 ≤ H.length) := by omega
    simp [g4, g5, g6, ls, l1, l2, gfill, zeros, cP.1, cP.2, kbs_at, o2, o3, -kN_eq, -kF_OO, -kbin_eql, -kload1_ptr, -kstore_ptr, -kloadA_ptr]
    simp [chk, meets, touches, kborr, y1, y2, y3, y4]
theorem l6Escape_op (r : Int) (H : Heap) : ∃ c v H' RA, HH fn.spec_l6Escape [.int .i64 r] H = some (.tup [.agg c, v], H') ∧ c = parC (escM r).1 .nils .nils ∧ (escM r).1.2.1 = [] ∧ (escM r).1.2.2.2 = [] ∧ rActionS H' [v] (escM r).2 RA ∧ RA.Nodup ∧ (∀ i ∈ RA, H.length ≤ i) ∧ Fr [] H H' := by
  have g1 : kbin .eql (.int .i64 r) (.int .i64 91) = some (.bool (decide (r = 91))) := kbin_eql
  have g2 : kbin .eql (.int .i64 r) (.int .i64 93) = some (.bool (decide (r = 93))) := kbin_eql
  have g3 := k_l1In r 48 126
  have hal : ∀ {Q : Type} (K : GV → Heap → Option Q), kalloc zPars H K = K (.ptr H.length 0 4) (H ++ [zPars]) := fun K => rfl
  have Z : (H ++ [zPars])[H.length]? = some zPars := by simp
  have f1 : Fr [] H (H ++ [zPars]) := .app
  have hl : (H ++ [zPars]).length = H.length + 1 := by simp
  obtain ⟨H1, hH1⟩ : ∃ H1, H ++ [zPars] = H1 := ⟨_, rfl⟩
  simp only [hH1] at hal Z f1 hl
  have fin : ∀ (s : Int) (H2 : Heap), Fr [] H1 H2 → ∃ H3, kstore 4 H2 (.ptr H.length 0 4) (.agg [.int .i64 s, .nils, .int .i64 0, .nils]) = some H3 ∧ kloadA 4 H3 (.ptr H.length 0 4) = some (.agg [.int .i64 s, .nils, .int .i64 0, .nils]) ∧ Fr [] H H3 ∧ ∀ i, i ≠ H.length → H3[i]? = H2[i]? := fun s H2 f2 => by
    have hz := f2.blk Z no_nil
    have hl2 := (List.getElem?_eq_some_iff.1 hz).1
    refine ⟨_, kstoreA_at (n := 4) hz rfl rfl (by simp), kloadA_at (n := 4) (List.getElem?_set_self hl2) rfl, ⟨by rw [List.length_set]; omega, fun i hi _ => ?_⟩, fun i hi => List.getElem?_set_ne (Ne.symm hi)⟩
    rw [List.getElem?_set_ne (by omega), f2.2 i (by omega) no_nil, f1.2 i hi no_nil]
  have ls := l6State_call
  have run : ∀ {c : List GV} {v : GV} {H' : Heap}, S.spec_l6Escape.n1 0 (fun x v2 v3 h => kend x ((kloadA 4 h v2).bind fun w2 => finH (.tup [w2, v3]) h)) (.int .i64 r) (.ptr H.length 0 4) .nils H1 = some (.tup [.agg c, v], H') → HH fn.spec_l6Escape [.int .i64 r] H = some (.tup [.agg c, v], H') := by
    intro c v H' e
    apply S.spec_l6Escape.gives (k := 0)
    unfold S.spec_l6Escape.run S.spec_l6Escape.n0
    rw [hal]
    exact e
  unfold escM
  by_cases h1 : r = 91
  · rw [if_pos h1]
    rw [decide_eq_true h1] at g1
    obtain ⟨H3, a1, a2, a3, a4⟩ := fin 3 _ .refl
    refine ⟨_, .emp, H3, [], run ?_, rfl, rfl, rfl, no_act', List.nodup_nil, fun i hi => (by cases hi), a3⟩
    simp [g1, ls, a1, a2, -kF_OO, -kbin_eql, -kstore_ptr, -kloadA_ptr]
  rw [if_neg h1]
  rw [decide_eq_false h1] at g1
  by_cases h2 : r = 93
  · rw [if_pos h2]
    rw [decide_eq_true h2] at g2
    obtain ⟨H3, a1, a2, a3, a4⟩ := fin 4 _ .refl
    refine ⟨_, .emp, H3, [], run ?_, rfl, rfl, rfl, no_act', List.nodup_nil, fun i hi => (by cases hi), a3⟩
    simp [g1, g2, ls, a1, a2, -kF_OO, -kbin_eql, -kstore_ptr, -kloadA_ptr]
  rw [if_neg h2]
  rw [decide_eq_false h2] at g2
  cases h3 : inB r 48 126
  · rw [h3] at g3
    obtain ⟨H3, a1, a2, a3, a4⟩ := fin 1 _ .refl
    refine ⟨_, .emp, H3, [], run ?_, rfl, rfl, rfl, no_act', List.nodup_nil, fun i hi => (by cases hi), a3⟩
    simp [g1, g2, g3, ls, a1, a2, -kN_eq, -kF_OO, -kbin_eql, -kstore_ptr, -kloadA_ptr]
  · rw [h3] at g3
    obtain ⟨H3, a1, a2, a3, a4⟩ := fin 1 (H1 ++ [actC 3 r .nils 0 .nils]) .app
    have B : H3[H1.length]? = some (actC 3 r .nils 0 .nils) := by
      rw [a4 _ (by omega)]; simp
    refine ⟨_, .sl H1.length 0 1 1 5, H3, [H1.length], run ?_, rfl, rfl, rfl, act_one B (act_rel no_ints no_ints), by simp, fun i hi => by rw [List.mem_singleton] at hi; omega, a3⟩
    simp [g1, g2, g3, ls, gfill, zeros, kbs_at, a1, a2, -kN_eq, -kF_OO, -kbin_eql, -kstore_ptr, -kloadA_ptr]
theorem l6Step_op {p : ParserT} {H : Heap} {vP vT : GV} {RP RT : List Nat} (h : PV p H vP vT RP RT) (hp : parserB p = true) (r : Int) : ∃ c v H', HH fn.spec_l6Step [.agg (parC p vP vT), .int .i64 r] H = some (.tup [.agg c, v], H') ∧ Stv (stepM p r) H H' c v RP RT := by
  obtain ⟨p1, p2, p3, p4, p5, p6⟩ := parserB_iff.1 hp
  have hb := h.box
  have hbox : ∀ {Q : Type} (K : GV → Heap → Option Q), kbox (.agg (parC p vP vT)) H K = K (.ptr H.length 0 4) (H ++ [parC p vP vT]) := fun K => rfl
  have hal : ∀ {Q : Type} (K : GV → Heap → Option Q), kalloc [.int .i64 0, .nils, .int .i64 0, .nils] (H ++ [parC p vP vT]) K = K (.ptr (H.length + 1) 0 4) (H ++ [parC p vP vT] ++ [zPars]) := fun K => by rw [kalloc_eq]; simp
  have so : ∀ {q : ParserT × List ActionT} {H2 : Heap} {v : GV}, Stp H.length q (H ++ [parC p vP vT] ++ [zPars]) H2 v RP RT → _ := fun s => spec_out h s
  have so2 : ∀ {l : List ActionT} {H2 : Heap} {v : GV} {RA : List Nat} (s : Int) (f : Fr [] (H ++ [parC p vP vT] ++ [zPars]) H2), _ → _ → _ → _ := fun {l H2 v RA} s f a b c => spec_out2 (l := l) (v := v) (RA := RA) h s f a b c
  have cT := cells1 h.tx
  have cP := cells1 h.ps
  have mT := goodInt64S.mem h.tx
  have mP := goodInt64S.mem h.ps
  have f01 : Fr [] H (H ++ [parC p vP vT] ++ [zPars]) := Fr.app.trans .app
  have tP := goodInt64S.keep h.ps f01 (fun _ _ => no_nil)
  have tT := goodInt64S.keep h.tx f01 (fun _ _ => no_nil)
  have hl1 : (H ++ [parC p vP vT] ++ [zPars]).length = H.length + 2 := by simp
  have Z1 : (H ++ [parC p vP vT] ++ [zPars])[H.length + 1]? = some zPars := by simp
  obtain ⟨H1, hH1⟩ : ∃ H1, H ++ [parC p vP vT] ++ [zPars] = H1 := ⟨_, rfl⟩
  simp only [hH1] at hb hal so so2 tP tT hl1 Z1 f01
  have hV1 : PV p H1 vP vT RP RT := ⟨tP, tT, h.np, h.nt, h.dj⟩
  have l0 := kload1_at (o := 0) (tot := 4) hb.cell rfl
  have l3 := kload1_at (o := 3) (tot := 4) hb.cell rfl
  have lA := kloadA_at (n := 4) hb.cell rfl
  simp only [List.getElem?_cons_succ, List.getElem?_cons_zero] at l0 l3
  have g4 : kbin .eql (.int .i64 p.1) (.int .i64 4) = some (.bool (decide (p.1 = 4))) := kbin_eql
  have g5 : kbin .eql (.int .i64 p.1) (.int .i64 5) = some (.bool (decide (p.1 = 5))) := kbin_eql
  have g2 : kbin .eql (.int .i64 p.1) (.int .i64 2) = some (.bool (decide (p.1 = 2))) := kbin_eql
  have g3 : kbin .eql (.int .i64 p.1) (.int .i64 3) = some (.bool (decide (p.1 = 3))) := kbin_eql
  have r7 : kbin .eql (.int .i64 r) (.int .i64 7) = some (.bool (decide (r = 7))) := kbin_eql
  have r92 : kbin .eql (.int .i64 r) (.int .i64 92) = some (.bool (decide (r = 92))) := kbin_eql
  have r27 : kbin .eql (.int .i64 r) (.int .i64 27) = some (.bool (decide (r = 27))) := kbin_eql
  have r24 : kbin .eql (.int .i64 r) (.int .i64 24) = some (.bool (decide (r = 24))) := kbin_eql
  have r26 : kbin .eql (.int .i64 r) (.int .i64 26) = some (.bool (decide (r = 26))) := kbin_eql
  have r32 : kbin .lss (.int .i64 r) (.int .i64 32) = some (.bool (decide (r < 32))) := kbin_lss
  have r127 : kbin .eql (.int .i64 r) (.int .i64 127) = some (.bool (decide (r = 127))) := kbin_eql
  have rw' := k_swidth r
  have gw : kbin .gtr (.int .i64 (widthM r)) (.int .i64 0) = some (.bool (decide (0 < widthM r))) := kbin_gtr
  have ls := l6State_call
  -- a title is told
  have tell : ∃ H3, kstore 4 (H1 ++ [actC 5 0 .nils 0 vT]) (.ptr (H.length + 1) 0 4) (.agg [.int .i64 1, .nils, .int .i64 0, .nils]) = some H3 ∧ kloadA 4 H3 (.ptr (H.length + 1) 0 4) = some (.agg [.int .i64 1, .nils, .int .i64 0, .nils]) ∧ Stv (st0 1, [(5, 0, [], 0, p.2.2.2)]) H H3 [.int .i64 1, .nils, .int .i64 0, .nils] (.sl H1.length 0 1 1 5) RP RT := by
    have f2 : Fr [] H1 (H1 ++ [actC 5 0 .nils 0 vT]) := .app
    exact so2 (RA := H1.length :: ([] ++ RT)) 1 f2 (act_one (by simp) (act_rel no_ints (goodInt64S.keep tT f2 (fun _ _ => no_nil)))) (by
      rw [List.nil_append, List.nodup_cons]
      exact ⟨fun h' => by have := mT _ h'; omega, h.nt⟩) (fun i hi => by
      rcases List.mem_cons.1 hi with rfl | hi
      · exact Or.inr (Or.inr (by omega))
      · exact Or.inr (Or.inl (by simpa using hi)))
  have y1 : ¬ (H.length + 1 = H.length) := by omega
  have y2 : ¬ (H1.length ≤ H.length + 1) := by omega
  have y3 : ¬ (H1.length ≤ H.length) := by omega
  have y4 : ¬ (H1.length + 1 ≤ H.length) := by omega
  have run : ∀ {c : List GV} {v : GV} {H' : Heap}, S.spec_l6Step.n5 0 (fun x v2 v4 v5 v6 h => kb 0 x fun x => kx x (S.spec_l6Step.n3 0 (fun x v4 v5 h => kend x ((kloadA 4 h v4).bind fun w4 => finH (.tup [w4, v5]) h)) v2 v4 v6 h) (kend x ((kloadA 4 h v4).bind fun w4 => finH (.tup [w4, v5]) h))) (.int .i64 r) (.ptr H.length 0 4) (.ptr (H.length + 1) 0 4) .nils .emp H1 = some (.tup [.agg c, v], H') → HH fn.spec_l6Step [.agg (parC p vP vT), .int .i64 r] H = some (.tup [.agg c, v], H') := by
    intro c v H' e
    apply S.spec_l6Step.gives (k := 0)
    unfold S.spec_l6Step.run S.spec_l6Step.n0
    rw [hbox, hal]
    exact e
  unfold stepM
  by_cases c4 : p.1 = 4
  · rw [if_pos c4]
    rw [decide_eq_true c4] at g4
    unfold titleM endedM
    by_cases h7 : r = 7
    · rw [if_pos h7]
      rw [decide_eq_true h7] at r7
      obtain ⟨H3, o1, o2, o3⟩ := tell
      refine ⟨_, .sl H1.length 0 1 1 5, H3, run ?_, by simpa using o3⟩
      simp [l0, g4, r7, ls, l3, gfill, zeros, cT.1, cT.2, kbs_at, o1, o2, -kN_eq, -kF_OO, -kbin_eql, -kload1_ptr, -kstore_ptr, -kloadA_ptr]
      simp [chk, meets, touches, kborr, y1, y2, y3, y4]
    rw [if_neg h7]
    rw [decide_eq_false h7] at r7
    by_cases h27 : r = 27
    · rw [if_pos h27]
      rw [decide_eq_true h27] at r27
      obtain ⟨H2, a1, a2⟩ := hb.setS 5
      obtain ⟨c, H3, o1, o2, o3, o4⟩ := so a2.emp
      refine ⟨c, .emp, H3, run ?_, o4⟩
      simp [l0, g4, r7, r27, a1, o1, o2, o3, -kbin_eql, -kload1_ptr, -kstore_ptr, -kloadA_ptr]
    rw [if_neg h27]
    rw [decide_eq_false h27] at r27
    have ln := RSl.len h.tx
    have g40 : kbin .lss (.int .i64 (p.2.2.2.length : Int)) (.int .i64 40) = some (.bool (decide (p.2.2.2.length < 40))) := by rw [kbin_lss]; congr 2; rw [Bool.eq_iff_iff]; simp; omega
    by_cases h40 : p.2.2.2.length < 40
    · rw [if_pos h40]
      rw [decide_eq_true h40] at g40
      obtain ⟨v', H4, H5, a1, a2, a3⟩ := hb.pushT (by omega) r
      obtain ⟨c, H3, o1, o2, o3, o4⟩ := so a3.emp
      refine ⟨c, .emp, H3, run ?_, o4⟩
      simp [l0, g4, r7, r27, l3, ln, g40, gfill, zeros, kbs_at, a1, a2, o1, o2, o3, -kbin_eql, -kbin_lss, -kload1_ptr, -kstore_ptr, -kloadA_ptr]
    · rw [if_neg h40]
      rw [decide_eq_false h40] at g40
      obtain ⟨c, H3, o1, o2, o3, o4⟩ := so (Stp.same hb).emp
      refine ⟨c, .emp, H3, run ?_, o4⟩
      simp [l0, g4, r7, r27, l3, ln, g40, o1, o2, o3, -kbin_eql, -kbin_lss, -kload1_ptr, -kstore_ptr, -kloadA_ptr]
  rw [if_neg c4]
  rw [decide_eq_false c4] at g4
  by_cases c5 : p.1 = 5
  · rw [if_pos c5]
    rw [decide_eq_true c5] at g5
    unfold endedM
    by_cases h92 : r = 92
    · rw [if_pos h92]
      rw [decide_eq_true h92] at r92
      obtain ⟨H3, o1, o2, o3⟩ := tell
      refine ⟨_, .sl H1.length 0 1 1 5, H3, run ?_, o3⟩
      simp [l0, g4, g5, r92, ls, l3, gfill, zeros, cT.1, cT.2, kbs_at, o1, o2, -kN_eq, -kF_OO, -kbin_eql, -kload1_ptr, -kstore_ptr, -kloadA_ptr]
      simp [chk, meets, touches, kborr, y1, y2, y3, y4]
    · rw [if_neg h92]
      rw [decide_eq_false h92] at r92
      obtain ⟨H3, o2, o3, o4⟩ := so2 (l := []) (v := .emp) (RA := []) (H2 := H1) 1 .refl no_act' List.nodup_nil (fun i hi => by (cases hi))
      refine ⟨_, .emp, H3, run ?_, o4⟩
      simp [l0, g4, g5, r92, ls, o2, o3, -kF_OO, -kbin_eql, -kload1_ptr, -kstore_ptr, -kloadA_ptr]
  rw [if_neg c5]
  rw [decide_eq_false c5] at g5
  by_cases c27 : r = 27
  · rw [if_pos c27]
    rw [decide_eq_true c27] at r27
    obtain ⟨H3, o2, o3, o4⟩ := so2 (l := []) (v := .emp) (RA := []) (H2 := H1) 2 .refl no_act' List.nodup_nil (fun i hi => by (cases hi))
    refine ⟨_, .emp, H3, run ?_, o4⟩
    simp [l0, g4, g5, r27, ls, o2, o3, -kF_OO, -kbin_eql, -kload1_ptr, -kstore_ptr, -kloadA_ptr]
  rw [if_neg c27]
  rw [decide_eq_false c27] at r27
  by_cases c24 : r = 24 ∨ r = 26
  · rw [if_pos c24]
    obtain ⟨H3, o2, o3, o4⟩ := so2 (l := []) (v := .emp) (RA := []) (H2 := H1) 1 .refl no_act' List.nodup_nil (fun i hi => by (cases hi))
    refine ⟨_, .emp, H3, run ?_, o4⟩
    by_cases c : r = 24
    · rw [decide_eq_true c] at r24
      simp [l0, g4, g5, r27, r24, ls, o2, o3, -kF_OO, -kbin_eql, -kload1_ptr, -kstore_ptr, -kloadA_ptr]
    · have c26 := c24.resolve_left c
      rw [decide_eq_false c] at r24
      rw [decide_eq_true c26] at r26
      simp [l0, g4, g5, r27, r24, r26, ls, o2, o3, -kF_OO, -kbin_eql, -kload1_ptr, -kstore_ptr, -kloadA_ptr]
  rw [if_neg c24]
  rw [decide_eq_false (fun c => c24 (Or.inl c))] at r24
  rw [decide_eq_false (fun c => c24 (Or.inr c))] at r26
  have emit : ∀ k : Int, ∃ H3, kstore 4 (H1 ++ [actC k r .nils 0 .nils]) (.ptr (H.length + 1) 0 4) (.agg (parC p vP vT)) = some H3 ∧ kloadA 4 H3 (.ptr (H.length + 1) 0 4) = some (.agg (parC p vP vT)) ∧ Stv (p, [(k, r, [], 0, [])]) H H3 (parC p vP vT) (.sl H1.length 0 1 1 5) RP RT := fun k => by
    have s := Stp.emit hb k r
    obtain ⟨c, H3, o1, o2, o3, o4⟩ := so s
    have e : kloadA 4 (H1 ++ [actC k r .nils 0 .nils]) (.ptr H.length 0 4) = some (.agg (parC p vP vT)) := kloadA_at (n := 4) (by rw [List.getElem?_append_left (by omega)]; exact hb.cell) rfl
    rw [e] at o1
    cases o1
    exact ⟨H3, o2, o3, o4⟩
  by_cases cc : r < 32 ∨ r = 127
  · rw [if_pos cc]
    obtain ⟨H3, o1, o2, o3⟩ := emit 2
    refine ⟨_, _, H3, run ?_, o3⟩
    by_cases c : r < 32
    · rw [decide_eq_true c] at r32
      simp [l0, g4, g5, r27, r24, r26, r32, lA, gfill, zeros, kbs_at, o1, o2, -kN_eq, -kbin_eql, -kbin_lss, -kload1_ptr, -kstore_ptr, -kloadA_ptr]
    · rw [decide_eq_false c] at r32
      rw [decide_eq_true (cc.resolve_left c)] at r127
      simp [l0, g4, g5, r27, r24, r26, r32, r127, lA, gfill, zeros, kbs_at, o1, o2, -kN_eq, -kbin_eql, -kbin_lss, -kload1_ptr, -kstore_ptr, -kloadA_ptr]
  rw [if_neg cc]
  rw [decide_eq_false (fun c => cc (Or.inl c))] at r32
  rw [decide_eq_false (fun c => cc (Or.inr c))] at r127
  by_cases c2 : p.1 = 2
  · rw [if_pos c2]
    rw [decide_eq_true c2] at g2
    obtain ⟨c, v, H2, RA, e1, rfl, e3, e4, e5, e6, e7, e8⟩ := l6Escape_op r H1
    have Z2 := e8.blk Z1 no_nil
    have s2 := kstoreA_at (n := 4) Z2 rfl (c' := parC (escM r).1 .nils .nils) rfl (by simp)
    have hl2 := (List.getElem?_eq_some_iff.1 Z2).1
    have a3 := kloadA_at (n := 4) (H := H2.set (H.length + 1) (parC (escM r).1 .nils .nils)) (p := H.length + 1) (c := parC (escM r).1 .nils .nils) (List.getElem?_set_self hl2) rfl
    have f3 : Fr [H.length + 1] H2 (H2.set (H.length + 1) (parC (escM r).1 .nils .nils)) := .set (by simp)
    refine ⟨parC (escM r).1 .nils .nils, v, _, run ?_, .nils, .nils, [], [], RA, rfl, ⟨by rw [e3]; exact no_ints, by rw [e4]; exact no_ints, List.nodup_nil, List.nodup_nil, fun i hi => by (cases hi)⟩, goodActionS.keep e5 f3 (fun i hi h' => by rw [List.mem_singleton] at h'; have := e7 i hi; omega), e6, fun i hi => ⟨no_nil, no_nil⟩, fun i hi => ?_, ?_⟩
    · simp [l0, g4, g5, r27, r24, r26, r32, r127, g2, e1, s2, a3, -kN_eq, -kbin_eql, -kbin_lss, -kload1_ptr, -kstore_ptr, -kloadA_ptr]
    · rcases hi with hi | hi | hi
      · cases hi
      · cases hi
      · have := e7 i hi; exact Or.inr (Or.inr (by omega))
    · have := (f01.trans e8).1
      refine ⟨by rw [List.length_set]; omega, fun i hi hn => ?_⟩
      rw [List.getElem?_set_ne (by omega), (f01.trans e8).2 i hi no_nil]
  rw [if_neg c2]
  rw [decide_eq_false c2] at g2
  by_cases c3 : p.1 = 3
  · rw [if_pos c3]
    rw [decide_eq_true c3] at g3
    obtain ⟨c, v, H2, e1, wP, wT, SP, ST, SA, rfl, b1, b2, b3, b4, b5, b6⟩ := l6List_op hV1 p2 r
    have Z2 := b6.blk Z1 (fun h' => by
      rcases List.mem_append.1 h' with h' | h'
      · have := mP _ h'; omega
      · have := mT _ h'; omega)
    have kP := cells1 b1.ps
    have kT := cells1 b1.tx
    have s2 := kstoreA_at (n := 4) Z2 rfl (c' := parC (moreM p r).1 wP wT) rfl (by simp [kP.2, kT.2])
    have hl2 := (List.getElem?_eq_some_iff.1 Z2).1
    have a3 := kloadA_at (n := 4) (H := H2.set (H.length + 1) (parC (moreM p r).1 wP wT)) (p := H.length + 1) (c := parC (moreM p r).1 wP wT) (List.getElem?_set_self hl2) rfl
    have f3 : Fr [H.length + 1] H2 (H2.set (H.length + 1) (parC (moreM p r).1 wP wT)) := .set (by simp)
    have no : ∀ i, i ∈ SP ∨ i ∈ ST ∨ i ∈ SA → i ∉ [H.length + 1] := fun i hi h' => by
      rw [List.mem_singleton] at h'
      rcases b5 i hi with h'' | h'' | h''
      · have := mP i h''; omega
      · have := mT i h''; omega
      · omega
    refine ⟨parC (moreM p r).1 wP wT, v, _, run ?_, wP, wT, SP, ST, SA, rfl, ⟨goodInt64S.keep b1.ps f3 (fun i hi => no i (Or.inl hi)), goodInt64S.keep b1.tx f3 (fun i hi => no i (Or.inr (Or.inl hi))), b1.np, b1.nt, b1.dj⟩, goodActionS.keep b2 f3 (fun i hi => no i (Or.inr (Or.inr hi))), b3, b4, fun i hi => ?_, ?_⟩
    · simp [l0, g4, g5, r27, r24, r26, r32, r127, g2, g3, lA, e1, s2, a3, -kN_eq, -kbin_eql, -kbin_lss, -kload1_ptr, -kstore_ptr, -kloadA_ptr]
    · rcases b5 i hi with h'' | h'' | h''
      · exact Or.inl h''
      · exact Or.inr (Or.inl h'')
      · exact Or.inr (Or.inr (by omega))
    · have l2 := b6.1
      refine ⟨by rw [List.length_set]; omega, fun i hi hn => ?_⟩
      rw [List.getElem?_set_ne (by omega), b6.2 i (by omega) hn, f01.2 i hi no_nil]
  rw [if_neg c3]
  rw [decide_eq_false c3] at g3
  by_cases cw : 0 < widthM r
  · rw [if_pos cw]
    rw [decide_eq_true cw] at gw
    obtain ⟨H3, o1, o2, o3⟩ := emit 1
    refine ⟨_, _, H3, run ?_, o3⟩
    simp [l0, g4, g5, r27, r24, r26, r32, r127, g2, g3, rw', gw, lA, gfill, zeros, kbs_at, o1, o2, -kN_eq, -kbin_eql, -kbin_lss, -kbin_gtr, -kload1_ptr, -kstore_ptr, -kloadA_ptr]
  · rw [if_neg cw]
    rw [decide_eq_false cw] at gw
    obtain ⟨c, H3, o1, o2, o3, o4⟩ := so (Stp.same hb).emp
    rw [lA] at o1
    cases o1
    refine ⟨_, .emp, H3, run ?_, o4⟩
    simp [l0, g4, g5, r27, r24, r26, r32, r127, g2, g3, rw', gw, lA, o2, o3, -kN_eq, -kbin_eql, -kbin_lss, -kbin_gtr, -kload1_ptr, -kstore_ptr, -kloadA_ptr]
end Go.Proofs.Ytlbnioapepelnaa.G

namespace Go.Proofs.Ytlbnioapepelnaa.G
open Go.RowKit
set_option linter.unusedVariables false
set_option linter.unusedSimpArgs false
theorem RFl.frz {α : Type} {mk : α → List GV} (hp : ∀ x, (mk x).all Pl = true) {d : Nat} {h : Heap} {c : List GV} {x : α} {R : List Nat} (he : RFl mk h c x R) : Frz (d + 1) h c (mk x) := by
  obtain ⟨rfl, rfl⟩ := he
  have := hp x
  generalize mk x = l at this
  induction l with
  | nil => exact .nil
  | cons g l ih =>
    rw [List.all_cons, Bool.and_eq_true] at this
    refine .cons (r := []) ?_ (ih this.2)
    cases g <;> first | rfl | cases this.1
theorem RSl.frz {α : Type} {es d : Nat} {mk mk' : α → List GV} {E : Rel α} (hG : Good es d mk E) {n : Nat} {h : Heap} (hE : ∀ c x R, E h c x R → Frz n h c (mk' x)) {v : GV} {xs : List α} {R : List Nat} (he : RSl es E h [v] xs R) : Frz (n + 1) h [v] [fzl false es mk' xs] := by
  rcases he with ⟨rfl, rfl, hc⟩ | ⟨b, css, Rs, hv, hb, ha, rfl⟩
  · rcases hc with hc | hc <;> (injection hc with hc; subst hc; exact .cons (r := []) rfl .nil)
  · injection hv with hv
    subst hv
    obtain ⟨fl, fe⟩ := All3.flen (fun h => hG.len h) ha
    have hf : Frz n h css.flatten (xs.flatMap mk') := by
      clear hb fl fe
      induction ha with
      | nil => exact .nil
      | cons a _ ih => exact .append (hE _ _ _ a) ih
    obtain ⟨ys, h1, h2⟩ := hf
    refine .cons (r := []) ?_ .nil
    simp only [Go.Proofs.Ytlbnioapepelnaa.G.frz, Option.bind_eq_bind, cellsAt_if, hb, Option.bind_some, Nat.zero_add, fl, if_true, List.drop_zero]
    rw [List.take_of_length_le (by omega), h1]
    simp only [Option.bind_some, Nat.le_refl, if_true]
    cases xs with
    | nil => rfl
    | cons x xs => simp [fzl, h2]
theorem RSl.frz' {α : Type} {es d : Nat} {mk mk' : α → List GV} {E : Rel α} (hG : Good es d mk E) {n : Nat} {h : Heap} (hE : ∀ c x R, E h c x R → Frz n h c (mk' x)) : ∀ c xs R, RSl es E h c xs R → Frz (n + 1) h c [fzl false es mk' xs] := fun c xs R he => by
  obtain ⟨v, rfl⟩ := List.length_eq_one_iff.1 ((RSl.good hG).len he)
  exact RSl.frz hG hE he
theorem RSeq.frz {α β : Type} {E : Rel α} {F : Rel β} {n : Nat} {h : Heap} {mk1 : α → List GV} {mk2 : β → List GV} (hE : ∀ c x R, E h c x R → Frz n h c (mk1 x)) (hF : ∀ c x R, F h c x R → Frz n h c (mk2 x)) : ∀ c x R, RSeq E F h c x R → Frz n h c (mk1 x.1 ++ mk2 x.2) := by
  rintro c x R ⟨c1, c2, R1, R2, rfl, rfl, h1, h2⟩
  exact .append (hE _ _ _ h1) (hF _ _ _ h2)
theorem flat_frz {α : Type} {mk : α → List GV} (hp : ∀ x, (mk x).all Pl = true) {d : Nat} {h : Heap} : ∀ c x R, RFl mk h c x R → Frz (d + 1) h c (mk x) := fun c x R he => RFl.frz hp he
/-! Which blocks data lead to. -/
def Cl {α : Type} (d : Nat) (E : Rel α) : Prop := ∀ {h : Heap} {c : List GV} {x : α} {R : List Nat}, E h c x R → ∀ D, kcll (kcl (D + d) h) c = some R
theorem kcll_pl {d : Nat} {h : Heap} : ∀ {l : List GV}, l.all Pl = true → kcll (kcl d h) l = some []
  | [], _ => rfl
  | g :: l, hl => by
    rw [List.all_cons, Bool.and_eq_true] at hl
    have e : kcl d h g = some [] := by
      cases g <;> first | (cases d <;> rfl) | cases hl.1
    unfold kcll
    rw [e, kcll_pl hl.2]; rfl
theorem kcll_app {f : GV → Option (List Nat)} : ∀ {l m : List GV} {a b : List Nat}, kcll f l = some a → kcll f m = some b → kcll f (l ++ m) = some (a ++ b)
  | [], m, a, b, h1, h2 => by cases h1; exact h2
  | g :: l, m, a, b, h1, h2 => by
    unfold kcll at h1
    obtain ⟨p, e1, h1⟩ := Option.bind_eq_some_iff.1 h1
    obtain ⟨q, e2, h1⟩ := Option.bind_eq_some_iff.1 h1
    cases h1
    rw [List.cons_append]
    unfold kcll
    rw [e1, kcll_app e2 h2]
    simp
theorem RFl.cl {α : Type} {mk : α → List GV} (hp : ∀ x, (mk x).all Pl = true) {d : Nat} : Cl d (RFl mk) := by
  rintro h c x R ⟨rfl, rfl⟩ D
  exact kcll_pl (hp x)
theorem RSeq.cl {α β : Type} {d : Nat} {E : Rel α} {F : Rel β} (hE : Cl d E) (hF : Cl d F) : Cl d (RSeq E F) := by
  rintro h c x R ⟨c1, c2, R1, R2, rfl, rfl, h1, h2⟩ D
  exact kcll_app (hE h1 D) (hF h2 D)
theorem RSl.cl {α : Type} {es d : Nat} {E : Rel α} (hE : Cl d E) : Cl (d + 1) (RSl es E) := by
  rintro h c xs R (⟨rfl, rfl, hc⟩ | ⟨b, css, Rs, rfl, hb, ha, rfl⟩) D
  · rcases hc with rfl | rfl <;> rfl
  · have key : ∀ {css : List (List GV)} {xs : List α} {Rs : List (List Nat)}, All3 (E h) css xs Rs → kcll (kcl (D + d) h) css.flatten = some Rs.flatten := by
      intro css xs Rs ha
      induction ha with
      | nil => rfl
      | cons a _ ih => rw [List.flatten_cons, List.flatten_cons]; exact kcll_app (hE a D) ih
    have e : kcl (D + (d + 1)) h (.sl b 0 xs.length xs.length es) = some (b :: Rs.flatten) := by
      rw [← Nat.add_assoc]
      simp only [kcl, hb, key ha, Option.bind_some]
    simp only [kcll, e, Option.bind_some]
    simp
theorem Cl.mono {α : Type} {d d' : Nat} {E : Rel α} (hE : Cl d E) (hd : d ≤ d') : Cl d' E := fun {h c x R} he D => by
  have := hE he (D + (d' - d))
  rwa [show D + (d' - d) + d = D + d' by omega] at this
/-- Arguments of a call in the caller's heap. -/
theorem Cl.agg {α : Type} {d : Nat} {E : Rel α} (hE : Cl d E) (hd : d ≤ 8) {h : Heap} {c : List GV} {x : α} {R : List Nat} (he : E h c x R) : kcl 9 h (.agg c) = some R := by
  have := hE he (8 - d)
  rw [show 8 - d + d = 8 by omega] at this
  exact this
end Go.Proofs.Ytlbnioapepelnaa.G

namespace Go.Proofs.Ytlbnioapepelnaa.G
open Go.RowKit
set_option linter.unusedVariables false
set_option linter.unusedSimpArgs false
theorem rInt_frz {d : Nat} {h : Heap} : ∀ c x R, rInt64S h c x R → Frz (d + 2) h c [fzl false 1 ci x] := RSl.frz' (RFl.good (es := 1) (mk := ci) (fun _ => rfl) (fun _ => rfl)) (flat_frz (fun _ => rfl))
theorem rParser_frz {d : Nat} {h : Heap} : ∀ c x R, rParser h c x R → Frz (d + 2) h c (mParser false x) :=
  RSeq.frz (flat_frz (fun _ => rfl)) (RSeq.frz rInt_frz (RSeq.frz (flat_frz (fun _ => rfl)) rInt_frz))
theorem rAction_frz {d : Nat} {h : Heap} : ∀ c x R, rAction h c x R → Frz (d + 2) h c (mAction false x) :=
  RSeq.frz (flat_frz (fun _ => rfl)) (RSeq.frz (flat_frz (fun _ => rfl)) (RSeq.frz rInt_frz (RSeq.frz (flat_frz (fun _ => rfl)) rInt_frz)))
theorem rActionS_frz {d : Nat} {h : Heap} : ∀ c x R, rActionS h c x R → Frz (d + 3) h c [fzl false 5 (mAction false) x] := RSl.frz' goodAction rAction_frz
theorem fin_pair {h : Heap} {c : List GV} {v : GV} {p : ParserT} {l : List ActionT} {R S : List Nat} (hp : rParser h c p R) (hl : rActionS h [v] l S) : finN (.tup [.agg c, v]) h = some (.tup [.agg (mParser false p), fzl false 5 (mAction false) l]) := by
  obtain ⟨ys, a1, a2⟩ := rActionS_frz (d := 5) _ _ _ hl
  have e : ∃ r, frz 8 h v = some (fzl false 5 (mAction false) l, r) := by
    rw [List.mapM_cons] at a1
    obtain ⟨y, b1, b2⟩ := Option.bind_eq_some_iff.1 a1
    simp only [List.mapM_nil, Option.pure_def, Option.bind_some, Option.bind_eq_bind, Option.some.injEq] at b2
    subst b2
    simp only [List.map_cons, List.map_nil, List.cons.injEq, and_true] at a2
    exact ⟨y.2, by rw [b1, ← a2]⟩
  obtain ⟨r, e⟩ := e
  exact finN_of (frz_tup (.cons (frz_agg (rParser_frz (d := 5) _ _ _ hp)) (.cons e .nil)))
theorem copyI {xs : List Int} (hm : xs.length ≤ 1048576) (H : Heap) : ∃ v H' R, kapp [.int .i64 0] 1 8 .emp (fzl true 1 ci xs) H = some (v, H') ∧ rInt64S H' [v] xs R ∧ R.Nodup ∧ (∀ i ∈ R, H.length ≤ i) ∧ Fr [] H H' := by
  have hk := kapp_emp (mk := ci) (es := 1) (b := 8) (z := [.int .i64 0]) (t := true) (xs := xs) (h := H) (fun _ => rfl) (fun _ => rfl) rfl (by omega) (by omega)
  by_cases h0 : xs.length = 0
  · rw [if_pos h0] at hk
    have hz := List.eq_nil_of_length_eq_zero h0
    subst hz
    exact ⟨_, _, [], hk, Or.inl ⟨rfl, rfl, Or.inl rfl⟩, List.nodup_nil, fun i hi => (by cases hi), .refl⟩
  · rw [if_neg h0] at hk
    exact ⟨_, _, _, hk, rNewI (by simp), by simp, fun i hi => by rw [List.mem_singleton] at hi; omega, .app⟩
theorem spec_l6Copy_spec (p : ParserT) (hm : okParser p) (b : Nat) : ∃ c bl, OO fn.spec_l6Copy [.agg (mParser true p)] b = some (.agg c, bl) ∧ ∀ H T, H.length = b → rParser (H ++ bl ++ T) c p (List.range' b bl.length) := by
  obtain ⟨s, ps, m, tx⟩ := p
  obtain ⟨hp, ht⟩ : ps.length ≤ 1048576 ∧ tx.length ≤ 1048576 := hm
  obtain ⟨H0, hH0⟩ : ∃ H0 : Heap, [mParser true (s, ps, m, tx), zPars] = H0 := ⟨_, rfl⟩
  have A0 : H0[0]? = some [.int .i64 s, fzl true 1 ci ps, .int .i64 m, fzl true 1 ci tx] := by rw [← hH0]; rfl
  have Z0 : H0[1]? = some zPars := by rw [← hH0]; rfl
  have l0 : H0.length = 2 := by rw [← hH0]; rfl
  have q1 := kload1_at (o := 1) (tot := 4) A0 rfl
  obtain ⟨v5, H1, R5, c1, r1, n1, b1, f1⟩ := copyI hp H0
  have A1 := f1.blk A0 no_nil
  have Z1 := f1.blk Z0 no_nil
  have e5 := cells1 r1
  have l1 := f1.1
  have s1 := kstore_at (o := 1) (x := v5) A1 rfl (tot := 4) (by omega) e5.1 e5.2
  obtain ⟨H3, hH3⟩ : ∃ H3, H1.set 0 ([GV.int .i64 s, fzl true 1 ci ps, .int .i64 m, fzl true 1 ci tx].set 1 v5) = H3 := ⟨_, rfl⟩
  rw [hH3] at s1
  have hl1 := (List.getElem?_eq_some_iff.1 A1).1
  have A3 : H3[0]? = some [.int .i64 s, v5, .int .i64 m, fzl true 1 ci tx] := by rw [← hH3, List.getElem?_set_self hl1]; rfl
  have f3 : Fr [0] H1 H3 := by rw [← hH3]; exact .set (by simp)
  have Z3 := f3.blk Z1 (by simp)
  have l3 := f3.1
  have q3 := kload1_at (o := 3) (tot := 4) A3 rfl
  obtain ⟨v8, H4, R8, c2, r2, n2, b2, f4⟩ := copyI ht H3
  have A4 := f4.blk A3 no_nil
  have Z4 := f4.blk Z3 no_nil
  have e8 := cells1 r2
  have l4 := f4.1
  have s2 := kstore_at (o := 3) (x := v8) A4 rfl (tot := 4) (by omega) e8.1 e8.2
  obtain ⟨H5, hH5⟩ : ∃ H5, H4.set 0 ([GV.int .i64 s, v5, .int .i64 m, fzl true 1 ci tx].set 3 v8) = H5 := ⟨_, rfl⟩
  rw [hH5] at s2
  have hl4 := (List.getElem?_eq_some_iff.1 A4).1
  have A5 : H5[0]? = some [.int .i64 s, v5, .int .i64 m, v8] := by rw [← hH5, List.getElem?_set_self hl4]; rfl
  have f5 : Fr [0] H4 H5 := by rw [← hH5]; exact .set (by simp)
  have Z5 := f5.blk Z4 (by simp)
  have a1 := kloadA_at (n := 4) A5 rfl
  have s3 := kstoreA_at (n := 4) Z5 rfl (c' := [.int .i64 s, v5, .int .i64 m, v8]) rfl (by simp [e5.2, e8.2])
  obtain ⟨H6, hH6⟩ : ∃ H6, H5.set 1 [.int .i64 s, v5, .int .i64 m, v8] = H6 := ⟨_, rfl⟩
  rw [hH6] at s3
  have hl5 := (List.getElem?_eq_some_iff.1 Z5).1
  have A6 : H6[1]? = some [.int .i64 s, v5, .int .i64 m, v8] := by rw [← hH6, List.getElem?_set_self hl5]
  have f6 : Fr [1] H5 H6 := by rw [← hH6]; exact .set (by simp)
  have a2 := kloadA_at (n := 4) A6 rfl
  have fr1 : Fr [0, 1] H1 H6 := (f3.sub (by simp)).trans ((f4.sub (fun _ h => by cases h)).trans ((f5.sub (by simp)).trans (f6.sub (by simp))))
  have fr2 : Fr [0, 1] H4 H6 := (f5.sub (by simp)).trans (f6.sub (by simp))
  have r16 := goodInt64S.keep r1 fr1 (fun i hi h => by have := b1 i hi; simp at h; omega)
  have r26 := goodInt64S.keep r2 fr2 (fun i hi h => by have := b2 i hi; simp at h; omega)
  have nd : (R5 ++ R8).Nodup := by
    rw [List.nodup_append]
    exact ⟨n1, n2, fun i hi k hk e => by have := goodInt64S.mem r1 i hi; have := b2 k hk; omega⟩
  obtain ⟨c, bl, o1, o2⟩ := goodParser.finS (by omega) (parser_rel (s := s) (m := m) r16 r26) nd b
  refine ⟨c, bl, S.spec_l6Copy.gives (k := 0) ?_, o2⟩
  have hbox : ∀ {Q : Type} (K : GV → Heap → Option Q), kbox (.agg (mParser true (s, ps, m, tx))) [] K = K (.ptr 0 0 4) [mParser true (s, ps, m, tx)] := fun K => rfl
  have hal : ∀ {Q : Type} (K : GV → Heap → Option Q), kalloc [.int .i64 0, .nils, .int .i64 0, .nils] [mParser true (s, ps, m, tx)] K = K (.ptr 1 0 4) H0 := fun K => by rw [kalloc_eq, ← hH0]; rfl
  unfold S.spec_l6Copy.run S.spec_l6Copy.n0
  rw [hbox, hal]
  simp only [List.getElem?_cons_succ, List.getElem?_cons_zero] at q1 q3
  simp [q1, c1, s1, q3, c2, s2, a1, s3, a2, o1, -kload1_ptr, -kstore_ptr, -kloadA_ptr]
theorem par_open {H : Heap} {c : List GV} {p : ParserT} {R : List Nat} (h : rParser H c p R) (nd : R.Nodup) : ∃ vP vT RP RT, c = parC p vP vT ∧ PV p H vP vT RP RT ∧ R = RP ++ RT := by
  obtain ⟨x1, y1, S1, S2, e1, e2, ⟨rfl, rfl⟩, x2, y2, S3, S4, rfl, rfl, i1, x3, y3, S5, S6, rfl, rfl, ⟨rfl, rfl⟩, i2⟩ := h
  obtain ⟨vP, rfl⟩ := List.length_eq_one_iff.1 (goodInt64S.len i1)
  obtain ⟨vT, rfl⟩ := List.length_eq_one_iff.1 (goodInt64S.len i2)
  have e3 : R = S3 ++ S6 := by rw [e2]; rfl
  rw [e3, List.nodup_append] at nd
  exact ⟨vP, vT, S3, S6, by rw [e1]; rfl, ⟨i1, i2, nd.1, nd.2.1, fun i hi hj => nd.2.2 i hi i hj rfl⟩, e3⟩
theorem PV.rel {H : Heap} {p : ParserT} {vP vT : GV} {RP RT : List Nat} (h : PV p H vP vT RP RT) : rParser H (parC p vP vT) p (RP ++ RT) := parser_rel h.ps h.tx
theorem spec_Step_spec (p : ParserT) (hm : okParser p) (r : Int) : NN fn.spec_Step [.agg (mParser true p), .int .i64 r] = some (.tup [.agg (mParser false (parsedM p [r]).1), fzl false 5 (mAction false) (parsedM p [r]).2]) := by
  have hML : (mParser true p).length = 4 := rfl
  have bM : ∀ (H : Heap) (gs zs : List GV), bors H gs = some zs → bors H (.agg (mParser true p) :: gs) = some (.agg (mParser true p) :: zs) := fun H gs zs h => by
    rw [bors_cons, h]; simp
  have ko := spec_ParserOk_spec p hm
  have cp := fun H => fresh_agg goodParser (f := fn.spec_l6Copy) (args := [.agg (mParser true p)]) (xs := [.agg (mParser true p)]) (H := H) (x := p) (bM _ _ _ (by simp)) (spec_l6Copy_spec p hm H.length)
  obtain ⟨M, hM⟩ : ∃ M, mParser true p = M := ⟨_, rfl⟩
  rw [hM] at hML ko ⊢
  simp only [hM] at bM cp
  obtain ⟨H0, hH0⟩ : ∃ H0 : Heap, [M, zPars] = H0 := ⟨_, rfl⟩
  have A0 : H0[0]? = some M := by rw [← hH0]; rfl
  have Z0 : H0[1]? = some zPars := by rw [← hH0]; rfl
  have l0 : H0.length = 2 := by rw [← hH0]; rfl
  have hbox : ∀ {Q : Type} (K : GV → Heap → Option Q), kbox (.agg M) [] K = K (.ptr 0 0 4) [M] := fun K => by rw [kbox_agg, hML]; rfl
  have hal : ∀ {Q : Type} (K : GV → Heap → Option Q), kalloc zPars [M] K = K (.ptr 1 0 4) H0 := fun K => by rw [kalloc_eq, ← hH0]; rfl
  have ko' : kN NN fn.spec_ParserOk [.agg M] H0 = some (.bool (parserB p)) := kN_at (bM _ _ _ (by simp)) ko
  have kr' := k_srune r H0
  have a0 := kloadA_at (n := 4) A0 hML
  have bad : ∀ (hb : (parserB p && [r].all runeB) = false), NN fn.spec_Step [.agg M, .int .i64 r] = some (.tup [.agg (mParser false (parsedM p [r]).1), fzl false 5 (mAction false) (parsedM p [r]).2]) := fun hb => by
    have e : parsedM p [r] = ((0, [], 0, []), []) := by unfold parsedM; rw [hb]; rfl
    rw [e]
    have s1 := kstoreA_at (n := 4) Z0 rfl (c' := zPars) rfl (by simp)
    have e1 : H0.set 1 zPars = H0 := by rw [← hH0]; rfl
    rw [e1] at s1
    have a1 := kloadA_at (n := 4) Z0 rfl
    have o1 := fin_pair (parser_rel (s := 0) (m := 0) (H := H0) no_ints no_ints) (no_act' (H := H0))
    apply S.spec_Step.gives (k := 0)
    unfold S.spec_Step.run S.spec_Step.n0
    rw [hbox, hal]
    cases hp : parserB p
    · rw [hp] at ko'
      simp [a0, ko', gfill, s1, a1, o1, -kN_eq, -kloadA_ptr, -kstore_ptr]
    · rw [hp] at hb ko'
      have hr : runeB r = false := by simpa using hb
      rw [hr] at kr'
      simp [a0, ko', kr', gfill, s1, a1, o1, -kN_eq, -kloadA_ptr, -kstore_ptr]
  cases hb : (parserB p && [r].all runeB)
  · exact bad hb
  have e : parsedM p [r] = stepM p r := by unfold parsedM; rw [if_pos hb]; simp [runM]
  rw [e]
  simp only [List.all_cons, List.all_nil, Bool.and_true, Bool.and_eq_true] at hb
  rw [hb.1] at ko'
  rw [hb.2] at kr'
  obtain ⟨c1, R1, H1, t1, r1, n1, b1, f1, l1⟩ := cp H0
  obtain ⟨vP, vT, RP, RT, rfl, pv, rfl⟩ := par_open r1 n1
  obtain ⟨c2, v, H2, e1, wP, wT, SP, ST, SA, rfl, k1, k2, k3, k4, k5, k6⟩ := l6Step_op pv hb.1 r
  have Z1 := f1.blk Z0 no_nil
  have Z2 := k6.blk Z1 (b1.no (by omega))
  have cP := cells1 k1.ps
  have cT := cells1 k1.tx
  have s2 := kstoreA_at (n := 4) Z2 rfl (c' := parC (stepM p r).1 wP wT) rfl (by simp [cP.2, cT.2])
  obtain ⟨H3, hH3⟩ : ∃ H3, H2.set 1 (parC (stepM p r).1 wP wT) = H3 := ⟨_, rfl⟩
  rw [hH3] at s2
  have hl2 := (List.getElem?_eq_some_iff.1 Z2).1
  have A3 : H3[1]? = some (parC (stepM p r).1 wP wT) := by rw [← hH3, List.getElem?_set_self hl2]
  have f3 : Fr [1] H2 H3 := by rw [← hH3]; exact .set (by simp)
  have a3 := kloadA_at (n := 4) A3 rfl
  have lo : ∀ i, i ∈ SP ∨ i ∈ ST ∨ i ∈ SA → i ∉ [1] := fun i hi h => by
    rw [List.mem_singleton] at h
    rcases k5 i hi with h' | h' | h'
    · have := b1 i (List.mem_append_left _ h'); omega
    · have := b1 i (List.mem_append_right _ h'); omega
    · omega
  have o1 := fin_pair (parser_rel (s := (stepM p r).1.1) (m := (stepM p r).1.2.2.1) (goodInt64S.keep k1.ps f3 (fun i hi => lo i (Or.inl hi))) (goodInt64S.keep k1.tx f3 (fun i hi => lo i (Or.inr (Or.inl hi))))) (goodActionS.keep k2 f3 (fun i hi => lo i (Or.inr (Or.inr hi))))
  apply S.spec_Step.gives (k := 0)
  unfold S.spec_Step.run S.spec_Step.n0
  rw [hbox, hal]
  simp [a0, ko', kr', t1, e1, s2, a3, o1, -kN_eq, -kF_OO, -kloadA_ptr, -kstore_ptr]
end Go.Proofs.Ytlbnioapepelnaa.G

namespace Go.Proofs.Ytlbnioapepelnaa.G
open Go.RowKit
set_option linter.unusedVariables false
set_option linter.unusedSimpArgs false
theorem stepM_acts {p : ParserT} {r : Int} (h : parserB p = true) : ∀ a ∈ (stepM p r).2, a.2.2.1.length ≤ 16 ∧ a.2.2.2.2.length ≤ 40 := by
  obtain ⟨a1, ⟨a2, a3⟩, a4, a5, a6, a7⟩ := parserB_iff.1 h
  have one : ∀ (q : ParserT) (c : Prop) [Decidable c] (x : ActionT), (x.2.2.1.length ≤ 16 ∧ x.2.2.2.2.length ≤ 40) → ∀ a ∈ ((q, if c then [x] else []) : ParserT × List ActionT).2, a.2.2.1.length ≤ 16 ∧ a.2.2.2.2.length ≤ 40 := fun q c _ x hx a ha => by
    simp only at ha
    split at ha
    · rw [List.mem_singleton] at ha; rw [ha]; exact hx
    · cases ha
  have no : ∀ a ∈ ([] : List ActionT), a.2.2.1.length ≤ 16 ∧ a.2.2.2.2.length ≤ 40 := fun a ha => by cases ha
  unfold stepM
  split
  · unfold titleM endedM
    split
    · refine one _ _ _ ?_; exact ⟨Nat.zero_le _, a5.1⟩
    · split
      · exact no
      · split <;> exact no
  · split
    · refine one _ _ _ ?_; exact ⟨Nat.zero_le _, a5.1⟩
    · split
      · exact no
      · split
        · exact no
        · split
          · intro a ha; simp only [List.mem_singleton] at ha; rw [ha]; simp
          · split
            · unfold escM
              split
              · exact no
              · split
                · exact no
                · refine one _ _ _ ?_; exact ⟨Nat.zero_le _, Nat.zero_le _⟩
            · split
              · unfold moreM
                split
                · exact no
                · split
                  · exact no
                  · split
                    · exact no
                    · refine one _ _ _ ?_; exact ⟨a2, Nat.zero_le _⟩
              · refine one _ _ _ ?_; exact ⟨Nat.zero_le _, Nat.zero_le _⟩
theorem runM_acts : ∀ (l : List Int) {p : ParserT}, parserB p = true → l.all runeB = true → ∀ a ∈ (runM l p).2, a.2.2.1.length ≤ 16 ∧ a.2.2.2.2.length ≤ 40
  | [], p, _, _ => fun a ha => by cases ha
  | r :: l, p, h, hl => fun a ha => by
    rw [List.all_cons, Bool.and_eq_true] at hl
    rcases List.mem_append.1 ha with ha | ha
    · exact stepM_acts h a ha
    · exact runM_acts l (stepM_ok h hl.1) hl.2 a ha
theorem parsedM_acts (p : ParserT) (l : List Int) (hl : l.length ≤ 1048576) : okActionS (parsedM p l).2 := by
  unfold parsedM
  split
  · rename_i h
    rw [Bool.and_eq_true] at h
    refine ⟨Nat.le_trans (runM_len l p) hl, fun a ha => ?_⟩
    have := runM_acts l h.1 h.2 a ha
    exact ⟨by show a.2.2.1.length ≤ 1048576; omega, by show a.2.2.2.2.length ≤ 1048576; omega⟩
  · exact ⟨Nat.zero_le _, fun a ha => by cases ha⟩
def stepL (p : ParserT) (r : Int) : ParserT × List ActionT := parsedM p [r]
theorem stepL_ok (p : ParserT) (hm : okParser p) (r : Int) : okParser (stepL p r).1 ∧ okActionS (stepL p r).2 := ⟨pairM_ok, parsedM_acts p [r] (by simp)⟩
theorem parsed2M_ok (p : ParserT) (hm : okParser p) (l : List Int) (hl : okInt64S l) : okParser (parsed2M p l).1 ∧ okActionS (parsed2M p l).2 := by
  unfold parsed2M
  split
  · exact ⟨pairM_ok, parsedM_acts p l hl⟩
  · exact ⟨⟨Nat.zero_le _, Nat.zero_le _⟩, Nat.zero_le _, fun a ha => by cases ha⟩
theorem spec_StepL (p : ParserT) (hm : okParser p) (r : Int) : NN fn.spec_Step [.agg (mParser true p), .int .i64 r] = some (.tup [.agg (mParser false (stepL p r).1), fzl false 5 (mAction false) (stepL p r).2]) := spec_Step_spec p hm r
theorem impl_StepL (p : ParserT) (hm : okParser p) (r : Int) (b : Nat) : ∃ c v bl n, OO fn.impl_Step [.agg (mParser true p), .int .i64 r] b = some (.tup [.agg c, v], bl) ∧ n ≤ bl.length ∧ ∀ H T, H.length = b → rParser (H ++ bl ++ T) c (stepL p r).1 (List.range' b n) ∧ rActionS (H ++ bl ++ T) [v] (stepL p r).2 (List.range' (b + n) (bl.length - n)) := impl_Step_spec p hm r b
end Go.Proofs.Ytlbnioapepelnaa.G

namespace Go.Proofs.Ytlbnioapepelnaa.G
open Go.RowKit
set_option linter.unusedVariables false
set_option maxRecDepth 100000
noncomputable section
variable {R : Type} (k : Nat)
/-! laws_FnExactStep -/
namespace S.laws_FnExactStep
noncomputable def c0 : Code := bodyOf Try.f9
noncomputable def c1 : Code := cR c0
noncomputable def c2 : Code := cR c1
noncomputable def c3 : Code := cR c2
noncomputable def c4 : Code := cR c3
noncomputable def c5 : Code := cR c4
noncomputable def c6 : Code := cR c5
noncomputable def c7 : Code := cR c6
noncomputable def c8 : Code := cR c7
noncomputable def c9 : Code := cR c8
noncomputable def c10 : Code := cR c9
noncomputable def c11 : Code := cR c10
noncomputable def c12 : Code := cR c11
noncomputable def c13 : Code := cR c12
noncomputable def c14 : Code := cR c13
noncomputable def c15 : Code := cR c14
noncomputable def c16 : Code := cR c15
noncomputable def c17 : Code := cR c16
noncomputable def c18 : Code := cR c17
noncomputable def c19 : Code := cR c18
noncomputable def c20 : Code := cR c19
noncomputable def c21 : Code := cR c20
noncomputable def c22 : Code := cR c21
noncomputable def c23 : Code := cR c22
@[simp] def n23 {R : Type} (k : Nat) (G : KT1 R) (v4 v9 v10 v12 : GV) (h : Heap) : Option R := (kloadA 4 h v9).bind fun v104 => (kN NN fn.laws_heldParser [v104, (.int .i64 1)] h).bind fun v106 => (kbin .lss v106 (.int .i64 0)).bind fun v108 => kcond v108 (G .ret (.bool false) h) ((kN NN fn.laws_heldActionS [v10, v106] h).bind fun v111 => (kbin .lss v111 (.int .i64 0)).bind fun v113 => kcond v113 (G .ret (.bool false) h) ((kbin .neq v111 v12).bind fun v116 => kcond v116 (G .ret (.bool false) h) (G .ret (.bool true) h)))
theorem n23_eq (G : KT1 R) (σ : GS) (h : Heap) : KC k 117 c23 σ h (fun x σ h => G x (σ 4) h) = n23 k G (σ 4) (σ 9) (σ 10) (σ 12) h := by kernel_rfl
noncomputable def c24 : Code := cL c22
noncomputable def c25 : Code := cR c24
@[simp] def n25 {R : Type} (k : Nat) (G : KT4 R) (v4 v9 v10 v12 v103 : GV) (h : Heap) : Option R := kcond v103 (G .ret (.bool false) v9 v10 v12 h) (G .nrm v4 v9 v10 v12 h)
theorem n25_eq (G : KT4 R) (σ : GS) (h : Heap) : KC k 117 c25 σ h (fun x σ h => G x (σ 4) (σ 9) (σ 10) (σ 12) h) = n25 k G (σ 4) (σ 9) (σ 10) (σ 12) (σ 103) h := by kernel_rfl
noncomputable def c26 : Code := cL c24
noncomputable def o26 : Array Oper := cO c26
@[simp] def g26_2 {R : Type} (k : Nat) (G : KT5 R) (v4 v9 v10 v12 v98 v102 : GV) (h : Heap) : Option R := (kpick v98 (.bool true) v102).bind fun v103 => G .nrm v4 v9 v10 v12 v103 h
theorem g26_2_eq (G : KT5 R) (σ : GS) (h : Heap) : kgroups PP cfg NN HH 117 o26 [(none, [9])] σ h (fun σ h => G .nrm (σ 4) (σ 9) (σ 10) (σ 12) (σ 103) h) = g26_2 k G (σ 4) (σ 9) (σ 10) (σ 12) (σ 98) (σ 102) h := by kernel_rfl
@[simp] def g26_1 (G : KT5 R) (v4 v7 v9 v10 v12 v15 v98 : GV) (h : Heap) : Option R := bif tr false v98 then (kN NN fn.laws_eqActionS [v15, v7] h).bind fun v101 => (kun .not v101).bind fun v102 => g26_2 k G v4 v9 v10 v12 v98 v102 h else g26_2 k G v4 v9 v10 v12 v98 .un h
theorem g26_1_eq (G : KT5 R) (σ : GS) (h : Heap) : kgroups PP cfg NN HH 117 o26 [(some (4, false), [5, 6, 7, 8]), (none, [9])] σ h (fun σ h => G .nrm (σ 4) (σ 9) (σ 10) (σ 12) (σ 103) h) = g26_1 k G (σ 4) (σ 7) (σ 9) (σ 10) (σ 12) (σ 15) (σ 98) h := (kgroups_cons (fun σ h => g26_2_eq k G σ h)).trans (by kernel_rfl)
@[simp] def g26_0 (G : KT5 R) (v4 v6 v7 v9 v10 v12 v14 v15 : GV) (h : Heap) : Option R := (kloadA 4 h v14).bind fun v94 => (kloadA 4 h v6).bind fun v95 => (kN NN fn.laws_eqParser [v94, v95] h).bind fun v96 => (kun .not v96).bind fun v97 => g26_1 k G v4 v7 v9 v10 v12 v15 v97 h
theorem g26_0_eq (G : KT5 R) (σ : GS) (h : Heap) : kgroups PP cfg NN HH 117 o26 [(none, [0, 1, 2, 3, 4]), (some (4, false), [5, 6, 7, 8]), (none, [9])] σ h (fun σ h => G .nrm (σ 4) (σ 9) (σ 10) (σ 12) (σ 103) h) = g26_0 k G (σ 4) (σ 6) (σ 7) (σ 9) (σ 10) (σ 12) (σ 14) (σ 15) h := (kgroups_cons (fun σ h => g26_1_eq k G σ h)).trans (by kernel_rfl)
@[simp] def n26 (G : KT5 R) (v4 v6 v7 v9 v10 v12 v14 v15 : GV) (h : Heap) : Option R := g26_0 k G v4 v6 v7 v9 v10 v12 v14 v15 h
theorem n26_eq (G : KT5 R) (σ : GS) (h : Heap) : KC k 117 c26 σ h (fun x σ h => G x (σ 4) (σ 9) (σ 10) (σ 12) (σ 103) h) = n26 k G (σ 4) (σ 6) (σ 7) (σ 9) (σ 10) (σ 12) (σ 14) (σ 15) h := (kregion_eq (id := 29) (draw := false) (ops := o26) (gs := [(none, [0, 1, 2, 3, 4]), (some (4, false), [5, 6, 7, 8]), (none, [9])]) (by kernel_rfl) (by kernel_rfl) (by kernel_rfl)).trans (g26_0_eq k G σ h)
@[simp] def n24 (G : KT4 R) (v4 v6 v7 v9 v10 v12 v14 v15 : GV) (h : Heap) : Option R := n26 k (fun x v4 v9 v10 v12 v103 h => kx x (n25 k G v4 v9 v10 v12 v103 h) (G x v4 v9 v10 v12 h)) v4 v6 v7 v9 v10 v12 v14 v15 h
theorem n24_eq (G : KT4 R) (σ : GS) (h : Heap) : KC k 117 c24 σ h (fun x σ h => G x (σ 4) (σ 9) (σ 10) (σ 12) h) = n24 k G (σ 4) (σ 6) (σ 7) (σ 9) (σ 10) (σ 12) (σ 14) (σ 15) h := (kseq (b := c25) rfl (fun σ h => n25_eq k G σ h)).trans (n26_eq k (fun x v4 v9 v10 v12 v103 h => kx x (n25 k G v4 v9 v10 v12 v103 h) (G x v4 v9 v10 v12 h)) σ h)
@[simp] def n22 (G : KT1 R) (v4 v6 v7 v9 v10 v12 v14 v15 : GV) (h : Heap) : Option R := n24 k (fun x v4 v9 v10 v12 h => kx x (n23 k G v4 v9 v10 v12 h) (G x v4 h)) v4 v6 v7 v9 v10 v12 v14 v15 h
theorem n22_eq (G : KT1 R) (σ : GS) (h : Heap) : KC k 117 c22 σ h (fun x σ h => G x (σ 4) h) = n22 k G (σ 4) (σ 6) (σ 7) (σ 9) (σ 10) (σ 12) (σ 14) (σ 15) h := (kseq (b := c23) rfl (fun σ h => n23_eq k G σ h)).trans (n24_eq k (fun x v4 v9 v10 v12 h => kx x (n23 k G v4 v9 v10 v12 h) (G x v4 h)) σ h)
noncomputable def c27 : Code := cL c21
@[simp] def n21 (G : KT1 R) (v1 v2 v4 v6 v7 v9 v10 v12 : GV) (h : Heap) : Option R := (kloadA 4 h v2).bind fun v88 => (kF false HH fn.laws_toParser [v88] h).bind fun r => kr r fun v89 h => (kF false HH fn.impl_Step [v89, v1] h).bind fun r => kr r fun v91 h => (kxt 0 v91).bind fun v92 => (kxt 1 v91).bind fun v93 => kalloc [(.int .i64 0), .nils, (.int .i64 0), .nils] h fun v14 h => (kstore 4 h v14 v92).bind fun h => n22 k G v4 v6 v7 v9 v10 v12 v14 v93 h
theorem n21_eq (G : KT1 R) (σ : GS) (h : Heap) : KC k 117 c21 σ h (fun x σ h => G x (σ 4) h) = n21 k G (σ 1) (σ 2) (σ 4) (σ 6) (σ 7) (σ 9) (σ 10) (σ 12) h := (kseq (a := c27) (b := c22) rfl (fun σ h => n22_eq k G σ h)).trans (by kernel_rfl)
noncomputable def c28 : Code := cL c20
@[simp] def n20 (G : KT1 R) (v1 v2 v4 v6 v7 v9 v10 v12 v13 : GV) (h : Heap) : Option R := (kbin .neq v13 v12).bind fun v86 => kcond v86 (G .ret (.bool false) h) (n21 k G v1 v2 v4 v6 v7 v9 v10 v12 h)
theorem n20_eq (G : KT1 R) (σ : GS) (h : Heap) : KC k 117 c20 σ h (fun x σ h => G x (σ 4) h) = n20 k G (σ 1) (σ 2) (σ 4) (σ 6) (σ 7) (σ 9) (σ 10) (σ 12) (σ 13) h := (kseq (a := c28) (b := c21) rfl (fun σ h => n21_eq k G σ h)).trans (by kernel_rfl)
noncomputable def c29 : Code := cL c19
@[simp] def n19 (G : KT1 R) (v1 v2 v4 v6 v7 v9 v10 v12 v13 : GV) (h : Heap) : Option R := (kbin .lss v13 (.int .i64 0)).bind fun v83 => kcond v83 (G .ret (.bool false) h) (n20 k G v1 v2 v4 v6 v7 v9 v10 v12 v13 h)
theorem n19_eq (G : KT1 R) (σ : GS) (h : Heap) : KC k 117 c19 σ h (fun x σ h => G x (σ 4) h) = n19 k G (σ 1) (σ 2) (σ 4) (σ 6) (σ 7) (σ 9) (σ 10) (σ 12) (σ 13) h := (kseq (a := c29) (b := c20) rfl (fun σ h => n20_eq k G σ h)).trans (by kernel_rfl)
noncomputable def c30 : Code := cL c18
@[simp] def n18 (G : KT1 R) (v1 v2 v4 v6 v7 v9 v10 v12 v13 : GV) (h : Heap) : Option R := (kN NN fn.laws_heldActionS [v10, v13] h).bind fun v81 => n19 k G v1 v2 v4 v6 v7 v9 v10 v12 v81 h
theorem n18_eq (G : KT1 R) (σ : GS) (h : Heap) : KC k 117 c18 σ h (fun x σ h => G x (σ 4) h) = n18 k G (σ 1) (σ 2) (σ 4) (σ 6) (σ 7) (σ 9) (σ 10) (σ 12) (σ 13) h := (kseq (a := c30) (b := c19) rfl (fun σ h => n19_eq k G σ h)).trans (by kernel_rfl)
noncomputable def c31 : Code := cL c17
@[simp] def n17 (G : KT1 R) (v1 v2 v4 v6 v7 v9 v10 v12 v13 : GV) (h : Heap) : Option R := (kbin .lss v13 (.int .i64 0)).bind fun v78 => kcond v78 (G .ret (.bool false) h) (n18 k G v1 v2 v4 v6 v7 v9 v10 v12 v13 h)
theorem n17_eq (G : KT1 R) (σ : GS) (h : Heap) : KC k 117 c17 σ h (fun x σ h => G x (σ 4) h) = n17 k G (σ 1) (σ 2) (σ 4) (σ 6) (σ 7) (σ 9) (σ 10) (σ 12) (σ 13) h := (kseq (a := c31) (b := c18) rfl (fun σ h => n18_eq k G σ h)).trans (by kernel_rfl)
noncomputable def c32 : Code := cL c16
@[simp] def n16 (G : KT1 R) (v1 v2 v4 v6 v7 v9 v10 v12 v13 : GV) (h : Heap) : Option R := (kloadA 4 h v9).bind fun v74 => (kN NN fn.laws_heldParser [v74, v13] h).bind fun v76 => n17 k G v1 v2 v4 v6 v7 v9 v10 v12 v76 h
theorem n16_eq (G : KT1 R) (σ : GS) (h : Heap) : KC k 117 c16 σ h (fun x σ h => G x (σ 4) h) = n16 k G (σ 1) (σ 2) (σ 4) (σ 6) (σ 7) (σ 9) (σ 10) (σ 12) (σ 13) h := (kseq (a := c32) (b := c17) rfl (fun σ h => n17_eq k G σ h)).trans (by kernel_rfl)
noncomputable def c33 : Code := cL c15
@[simp] def n15 (G : KT1 R) (v1 v2 v4 v6 v7 v9 v10 v12 : GV) (h : Heap) : Option R := n16 k G v1 v2 v4 v6 v7 v9 v10 v12 (.int .i64 1) h
theorem n15_eq (G : KT1 R) (σ : GS) (h : Heap) : KC k 117 c15 σ h (fun x σ h => G x (σ 4) h) = n15 k G (σ 1) (σ 2) (σ 4) (σ 6) (σ 7) (σ 9) (σ 10) (σ 12) h := (kseq (a := c33) (b := c16) rfl (fun σ h => n16_eq k G σ h)).trans (by kernel_rfl)
noncomputable def c34 : Code := cL c14
@[simp] def n14 (G : KT1 R) (v1 v2 v4 v6 v7 v9 v10 v12 : GV) (h : Heap) : Option R := (HH fn.laws_markActionS [v10, v12] h).bind fun r => kr r fun v73 h => n15 k G v1 v2 v4 v6 v7 v9 v10 v73 h
theorem n14_eq (G : KT1 R) (σ : GS) (h : Heap) : KC k 117 c14 σ h (fun x σ h => G x (σ 4) h) = n14 k G (σ 1) (σ 2) (σ 4) (σ 6) (σ 7) (σ 9) (σ 10) (σ 12) h := (kseq (a := c34) (b := c15) rfl (fun σ h => n15_eq k G σ h)).trans (by kernel_rfl)
noncomputable def c35 : Code := cL c13
@[simp] def n13 (G : KT1 R) (v1 v2 v4 v6 v7 v9 v10 v12 : GV) (h : Heap) : Option R := (kloadA 4 h v9).bind fun v68 => (HH fn.laws_markParser [v68, v12] h).bind fun r => kr r fun v70 h => n14 k G v1 v2 v4 v6 v7 v9 v10 v70 h
theorem n13_eq (G : KT1 R) (σ : GS) (h : Heap) : KC k 117 c13 σ h (fun x σ h => G x (σ 4) h) = n13 k G (σ 1) (σ 2) (σ 4) (σ 6) (σ 7) (σ 9) (σ 10) (σ 12) h := (kseq (a := c35) (b := c14) rfl (fun σ h => n14_eq k G σ h)).trans (by kernel_rfl)
noncomputable def c36 : Code := cL c12
@[simp] def n12 (G : KT1 R) (v1 v2 v4 v6 v7 v9 v10 : GV) (h : Heap) : Option R := n13 k G v1 v2 v4 v6 v7 v9 v10 (.int .i64 1) h
theorem n12_eq (G : KT1 R) (σ : GS) (h : Heap) : KC k 117 c12 σ h (fun x σ h => G x (σ 4) h) = n12 k G (σ 1) (σ 2) (σ 4) (σ 6) (σ 7) (σ 9) (σ 10) h := (kseq (a := c36) (b := c13) rfl (fun σ h => n13_eq k G σ h)).trans (by kernel_rfl)
noncomputable def c37 : Code := cL c11
noncomputable def c38 : Code := cR c37
@[simp] def n38 {R : Type} (k : Nat) (G : KT7 R) (v1 v2 v4 v6 v7 v9 v10 v67 : GV) (h : Heap) : Option R := kcond v67 (G .ret v1 v2 (.bool false) v6 v7 v9 v10 h) (G .nrm v1 v2 v4 v6 v7 v9 v10 h)
theorem n38_eq (G : KT7 R) (σ : GS) (h : Heap) : KC k 117 c38 σ h (fun x σ h => G x (σ 1) (σ 2) (σ 4) (σ 6) (σ 7) (σ 9) (σ 10) h) = n38 k G (σ 1) (σ 2) (σ 4) (σ 6) (σ 7) (σ 9) (σ 10) (σ 67) h := by kernel_rfl
noncomputable def c39 : Code := cL c37
noncomputable def o39 : Array Oper := cO c39
@[simp] def g39_4 {R : Type} (k : Nat) (G : KT8 R) (v1 v2 v4 v6 v7 v9 v10 v62 v66 : GV) (h : Heap) : Option R := (kpick v62 (.bool true) v66).bind fun v67 => G .nrm v1 v2 v4 v6 v7 v9 v10 v67 h
theorem g39_4_eq (G : KT8 R) (σ : GS) (h : Heap) : kgroups PP cfg NN HH 117 o39 [(none, [13])] σ h (fun σ h => G .nrm (σ 1) (σ 2) (σ 4) (σ 6) (σ 7) (σ 9) (σ 10) (σ 67) h) = g39_4 k G (σ 1) (σ 2) (σ 4) (σ 6) (σ 7) (σ 9) (σ 10) (σ 62) (σ 66) h := by kernel_rfl
@[simp] def g39_3 (G : KT8 R) (v1 v2 v4 v6 v7 v9 v10 v62 : GV) (h : Heap) : Option R := bif tr false v62 then (kN NN fn.laws_eqActionS [v10, v7] h).bind fun v65 => (kun .not v65).bind fun v66 => g39_4 k G v1 v2 v4 v6 v7 v9 v10 v62 v66 h else g39_4 k G v1 v2 v4 v6 v7 v9 v10 v62 .un h
theorem g39_3_eq (G : KT8 R) (σ : GS) (h : Heap) : kgroups PP cfg NN HH 117 o39 [(some (8, false), [9, 10, 11, 12]), (none, [13])] σ h (fun σ h => G .nrm (σ 1) (σ 2) (σ 4) (σ 6) (σ 7) (σ 9) (σ 10) (σ 67) h) = g39_3 k G (σ 1) (σ 2) (σ 4) (σ 6) (σ 7) (σ 9) (σ 10) (σ 62) h := (kgroups_cons (fun σ h => g39_4_eq k G σ h)).trans (by kernel_rfl)
@[simp] def g39_2 (G : KT8 R) (v1 v2 v4 v6 v7 v9 v10 v56 v60 : GV) (h : Heap) : Option R := (kpick v56 (.bool true) v60).bind fun v61 => g39_3 k G v1 v2 v4 v6 v7 v9 v10 v61 h
theorem g39_2_eq (G : KT8 R) (σ : GS) (h : Heap) : kgroups PP cfg NN HH 117 o39 [(none, [7, 8]), (some (8, false), [9, 10, 11, 12]), (none, [13])] σ h (fun σ h => G .nrm (σ 1) (σ 2) (σ 4) (σ 6) (σ 7) (σ 9) (σ 10) (σ 67) h) = g39_2 k G (σ 1) (σ 2) (σ 4) (σ 6) (σ 7) (σ 9) (σ 10) (σ 56) (σ 60) h := (kgroups_cons (fun σ h => g39_3_eq k G σ h)).trans (by kernel_rfl)
@[simp] def g39_1 (G : KT8 R) (v1 v2 v4 v6 v7 v9 v10 v56 : GV) (h : Heap) : Option R := bif tr false v56 then (kloadA 4 h v9).bind fun v57 => (kloadA 4 h v6).bind fun v58 => (kN NN fn.laws_eqParser [v57, v58] h).bind fun v59 => (kun .not v59).bind fun v60 => g39_2 k G v1 v2 v4 v6 v7 v9 v10 v56 v60 h else g39_2 k G v1 v2 v4 v6 v7 v9 v10 v56 .un h
theorem g39_1_eq (G : KT8 R) (σ : GS) (h : Heap) : kgroups PP cfg NN HH 117 o39 [(some (2, false), [3, 4, 5, 6]), (none, [7, 8]), (some (8, false), [9, 10, 11, 12]), (none, [13])] σ h (fun σ h => G .nrm (σ 1) (σ 2) (σ 4) (σ 6) (σ 7) (σ 9) (σ 10) (σ 67) h) = g39_1 k G (σ 1) (σ 2) (σ 4) (σ 6) (σ 7) (σ 9) (σ 10) (σ 56) h := (kgroups_cons (fun σ h => g39_2_eq k G σ h)).trans (by kernel_rfl)
@[simp] def g39_0 (G : KT8 R) (v1 v2 v4 v6 v7 v9 v10 v11 : GV) (h : Heap) : Option R := (kbin .lss v11 (.int .i64 0)).bind fun v55 => g39_1 k G v1 v2 v4 v6 v7 v9 v10 v55 h
theorem g39_0_eq (G : KT8 R) (σ : GS) (h : Heap) : kgroups PP cfg NN HH 117 o39 [(none, [0, 1, 2]), (some (2, false), [3, 4, 5, 6]), (none, [7, 8]), (some (8, false), [9, 10, 11, 12]), (none, [13])] σ h (fun σ h => G .nrm (σ 1) (σ 2) (σ 4) (σ 6) (σ 7) (σ 9) (σ 10) (σ 67) h) = g39_0 k G (σ 1) (σ 2) (σ 4) (σ 6) (σ 7) (σ 9) (σ 10) (σ 11) h := (kgroups_cons (fun σ h => g39_1_eq k G σ h)).trans (by kernel_rfl)
@[simp] def n39 (G : KT8 R) (v1 v2 v4 v6 v7 v9 v10 v11 : GV) (h : Heap) : Option R := g39_0 k G v1 v2 v4 v6 v7 v9 v10 v11 h
theorem n39_eq (G : KT8 R) (σ : GS) (h : Heap) : KC k 117 c39 σ h (fun x σ h => G x (σ 1) (σ 2) (σ 4) (σ 6) (σ 7) (σ 9) (σ 10) (σ 67) h) = n39 k G (σ 1) (σ 2) (σ 4) (σ 6) (σ 7) (σ 9) (σ 10) (σ 11) h := (kregion_eq (id := 14) (draw := false) (ops := o39) (gs := [(none, [0, 1, 2]), (some (2, false), [3, 4, 5, 6]), (none, [7, 8]), (some (8, false), [9, 10, 11, 12]), (none, [13])]) (by kernel_rfl) (by kernel_rfl) (by kernel_rfl)).trans (g39_0_eq k G σ h)
@[simp] def n37 (G : KT7 R) (v1 v2 v4 v6 v7 v9 v10 v11 : GV) (h : Heap) : Option R := n39 k (fun x v1 v2 v4 v6 v7 v9 v10 v67 h => kx x (n38 k G v1 v2 v4 v6 v7 v9 v10 v67 h) (G x v1 v2 v4 v6 v7 v9 v10 h)) v1 v2 v4 v6 v7 v9 v10 v11 h
theorem n37_eq (G : KT7 R) (σ : GS) (h : Heap) : KC k 117 c37 σ h (fun x σ h => G x (σ 1) (σ 2) (σ 4) (σ 6) (σ 7) (σ 9) (σ 10) h) = n37 k G (σ 1) (σ 2) (σ 4) (σ 6) (σ 7) (σ 9) (σ 10) (σ 11) h := (kseq (b := c38) rfl (fun σ h => n38_eq k G σ h)).trans (n39_eq k (fun x v1 v2 v4 v6 v7 v9 v10 v67 h => kx x (n38 k G v1 v2 v4 v6 v7 v9 v10 v67 h) (G x v1 v2 v4 v6 v7 v9 v10 h)) σ h)
@[simp] def n11 (G : KT1 R) (v1 v2 v4 v6 v7 v9 v10 v11 : GV) (h : Heap) : Option R := n37 k (fun x v1 v2 v4 v6 v7 v9 v10 h => kx x (n12 k G v1 v2 v4 v6 v7 v9 v10 h) (G x v4 h)) v1 v2 v4 v6 v7 v9 v10 v11 h
theorem n11_eq (G : KT1 R) (σ : GS) (h : Heap) : KC k 117 c11 σ h (fun x σ h => G x (σ 4) h) = n11 k G (σ 1) (σ 2) (σ 4) (σ 6) (σ 7) (σ 9) (σ 10) (σ 11) h := (kseq (b := c12) rfl (fun σ h => n12_eq k G σ h)).trans (n37_eq k (fun x v1 v2 v4 v6 v7 v9 v10 h => kx x (n12 k G v1 v2 v4 v6 v7 v9 v10 h) (G x v4 h)) σ h)
noncomputable def c40 : Code := cL c10
@[simp] def n10 (G : KT1 R) (v1 v2 v4 v6 v7 v8 v9 v10 v11 : GV) (h : Heap) : Option R := (kloadA 4 h v8).bind fun v51 => (HH fn.laws_markParser [v51, v11] h).bind fun r => kr r fun v53 h => n11 k G v1 v2 v4 v6 v7 v9 v10 v53 h
theorem n10_eq (G : KT1 R) (σ : GS) (h : Heap) : KC k 117 c10 σ h (fun x σ h => G x (σ 4) h) = n10 k G (σ 1) (σ 2) (σ 4) (σ 6) (σ 7) (σ 8) (σ 9) (σ 10) (σ 11) h := (kseq (a := c40) (b := c11) rfl (fun σ h => n11_eq k G σ h)).trans (by kernel_rfl)
noncomputable def c41 : Code := cL c9
@[simp] def n9 (G : KT1 R) (v1 v2 v4 v6 v7 v8 v9 v10 : GV) (h : Heap) : Option R := n10 k G v1 v2 v4 v6 v7 v8 v9 v10 (.int .i64 1) h
theorem n9_eq (G : KT1 R) (σ : GS) (h : Heap) : KC k 117 c9 σ h (fun x σ h => G x (σ 4) h) = n9 k G (σ 1) (σ 2) (σ 4) (σ 6) (σ 7) (σ 8) (σ 9) (σ 10) h := (kseq (a := c41) (b := c10) rfl (fun σ h => n10_eq k G σ h)).trans (by kernel_rfl)
noncomputable def c42 : Code := cL c8
@[simp] def n8 (G : KT1 R) (v1 v2 v4 v6 v7 v8 v9 v10 : GV) (h : Heap) : Option R := (kloadA 4 h v8).bind fun v46 => (kloadA 4 h v2).bind fun v47 => (kF false HH fn.laws_toParser [v47] h).bind fun r => kr r fun v48 h => (kN NN fn.laws_eqParser [v46, v48] h).bind fun v49 => (kun .not v49).bind fun v50 => kcond v50 (G .ret (.bool false) h) (n9 k G v1 v2 v4 v6 v7 v8 v9 v10 h)
theorem n8_eq (G : KT1 R) (σ : GS) (h : Heap) : KC k 117 c8 σ h (fun x σ h => G x (σ 4) h) = n8 k G (σ 1) (σ 2) (σ 4) (σ 6) (σ 7) (σ 8) (σ 9) (σ 10) h := (kseq (a := c42) (b := c9) rfl (fun σ h => n9_eq k G σ h)).trans (by kernel_rfl)
noncomputable def c43 : Code := cL c7
noncomputable def c44 : Code := cR c43
@[simp] def n44 {R : Type} (k : Nat) (G : KT8 R) (v1 v2 v4 v6 v7 v8 v9 v10 v45 : GV) (h : Heap) : Option R := kcond v45 (G .ret v1 v2 (.bool false) v6 v7 v8 v9 v10 h) (G .nrm v1 v2 v4 v6 v7 v8 v9 v10 h)
theorem n44_eq (G : KT8 R) (σ : GS) (h : Heap) : KC k 117 c44 σ h (fun x σ h => G x (σ 1) (σ 2) (σ 4) (σ 6) (σ 7) (σ 8) (σ 9) (σ 10) h) = n44 k G (σ 1) (σ 2) (σ 4) (σ 6) (σ 7) (σ 8) (σ 9) (σ 10) (σ 45) h := by kernel_rfl
noncomputable def c45 : Code := cL c43
noncomputable def o45 : Array Oper := cO c45
@[simp] def g45_2 {R : Type} (k : Nat) (G : KT9 R) (v1 v2 v4 v6 v7 v8 v9 v10 v40 v44 : GV) (h : Heap) : Option R := (kpick v40 (.bool true) v44).bind fun v45 => G .nrm v1 v2 v4 v6 v7 v8 v9 v10 v45 h
theorem g45_2_eq (G : KT9 R) (σ : GS) (h : Heap) : kgroups PP cfg NN HH 117 o45 [(none, [9])] σ h (fun σ h => G .nrm (σ 1) (σ 2) (σ 4) (σ 6) (σ 7) (σ 8) (σ 9) (σ 10) (σ 45) h) = g45_2 k G (σ 1) (σ 2) (σ 4) (σ 6) (σ 7) (σ 8) (σ 9) (σ 10) (σ 40) (σ 44) h := by kernel_rfl
@[simp] def g45_1 (G : KT9 R) (v1 v2 v4 v6 v7 v8 v9 v10 v40 : GV) (h : Heap) : Option R := bif tr false v40 then (kN NN fn.laws_eqActionS [v10, v7] h).bind fun v43 => (kun .not v43).bind fun v44 => g45_2 k G v1 v2 v4 v6 v7 v8 v9 v10 v40 v44 h else g45_2 k G v1 v2 v4 v6 v7 v8 v9 v10 v40 .un h
theorem g45_1_eq (G : KT9 R) (σ : GS) (h : Heap) : kgroups PP cfg NN HH 117 o45 [(some (4, false), [5, 6, 7, 8]), (none, [9])] σ h (fun σ h => G .nrm (σ 1) (σ 2) (σ 4) (σ 6) (σ 7) (σ 8) (σ 9) (σ 10) (σ 45) h) = g45_1 k G (σ 1) (σ 2) (σ 4) (σ 6) (σ 7) (σ 8) (σ 9) (σ 10) (σ 40) h := (kgroups_cons (fun σ h => g45_2_eq k G σ h)).trans (by kernel_rfl)
@[simp] def g45_0 (G : KT9 R) (v1 v2 v4 v6 v7 v8 v9 v10 : GV) (h : Heap) : Option R := (kloadA 4 h v9).bind fun v36 => (kloadA 4 h v6).bind fun v37 => (kN NN fn.laws_eqParser [v36, v37] h).bind fun v38 => (kun .not v38).bind fun v39 => g45_1 k G v1 v2 v4 v6 v7 v8 v9 v10 v39 h
theorem g45_0_eq (G : KT9 R) (σ : GS) (h : Heap) : kgroups PP cfg NN HH 117 o45 [(none, [0, 1, 2, 3, 4]), (some (4, false), [5, 6, 7, 8]), (none, [9])] σ h (fun σ h => G .nrm (σ 1) (σ 2) (σ 4) (σ 6) (σ 7) (σ 8) (σ 9) (σ 10) (σ 45) h) = g45_0 k G (σ 1) (σ 2) (σ 4) (σ 6) (σ 7) (σ 8) (σ 9) (σ 10) h := (kgroups_cons (fun σ h => g45_1_eq k G σ h)).trans (by kernel_rfl)
@[simp] def n45 (G : KT9 R) (v1 v2 v4 v6 v7 v8 v9 v10 : GV) (h : Heap) : Option R := g45_0 k G v1 v2 v4 v6 v7 v8 v9 v10 h
theorem n45_eq (G : KT9 R) (σ : GS) (h : Heap) : KC k 117 c45 σ h (fun x σ h => G x (σ 1) (σ 2) (σ 4) (σ 6) (σ 7) (σ 8) (σ 9) (σ 10) (σ 45) h) = n45 k G (σ 1) (σ 2) (σ 4) (σ 6) (σ 7) (σ 8) (σ 9) (σ 10) h := (kregion_eq (id := 8) (draw := false) (ops := o45) (gs := [(none, [0, 1, 2, 3, 4]), (some (4, false), [5, 6, 7, 8]), (none, [9])]) (by kernel_rfl) (by kernel_rfl) (by kernel_rfl)).trans (g45_0_eq k G σ h)
@[simp] def n43 (G : KT8 R) (v1 v2 v4 v6 v7 v8 v9 v10 : GV) (h : Heap) : Option R := n45 k (fun x v1 v2 v4 v6 v7 v8 v9 v10 v45 h => kx x (n44 k G v1 v2 v4 v6 v7 v8 v9 v10 v45 h) (G x v1 v2 v4 v6 v7 v8 v9 v10 h)) v1 v2 v4 v6 v7 v8 v9 v10 h
theorem n43_eq (G : KT8 R) (σ : GS) (h : Heap) : KC k 117 c43 σ h (fun x σ h => G x (σ 1) (σ 2) (σ 4) (σ 6) (σ 7) (σ 8) (σ 9) (σ 10) h) = n43 k G (σ 1) (σ 2) (σ 4) (σ 6) (σ 7) (σ 8) (σ 9) (σ 10) h := (kseq (b := c44) rfl (fun σ h => n44_eq k G σ h)).trans (n45_eq k (fun x v1 v2 v4 v6 v7 v8 v9 v10 v45 h => kx x (n44 k G v1 v2 v4 v6 v7 v8 v9 v10 v45 h) (G x v1 v2 v4 v6 v7 v8 v9 v10 h)) σ h)
@[simp] def n7 (G : KT1 R) (v1 v2 v4 v6 v7 v8 v9 v10 : GV) (h : Heap) : Option R := n43 k (fun x v1 v2 v4 v6 v7 v8 v9 v10 h => kx x (n8 k G v1 v2 v4 v6 v7 v8 v9 v10 h) (G x v4 h)) v1 v2 v4 v6 v7 v8 v9 v10 h
theorem n7_eq (G : KT1 R) (σ : GS) (h : Heap) : KC k 117 c7 σ h (fun x σ h => G x (σ 4) h) = n7 k G (σ 1) (σ 2) (σ 4) (σ 6) (σ 7) (σ 8) (σ 9) (σ 10) h := (kseq (b := c8) rfl (fun σ h => n8_eq k G σ h)).trans (n43_eq k (fun x v1 v2 v4 v6 v7 v8 v9 v10 h => kx x (n8 k G v1 v2 v4 v6 v7 v8 v9 v10 h) (G x v4 h)) σ h)
noncomputable def c46 : Code := cL c6
@[simp] def n6 (G : KT1 R) (v1 v2 v4 v6 v7 v8 : GV) (h : Heap) : Option R := (kloadA 4 h v8).bind fun v31 => (kF false HH fn.impl_Step [v31, v1] h).bind fun r => kr r fun v33 h => (kxt 0 v33).bind fun v34 => (kxt 1 v33).bind fun v35 => kalloc [(.int .i64 0), .nils, (.int .i64 0), .nils] h fun v9 h => (kstore 4 h v9 v34).bind fun h => n7 k G v1 v2 v4 v6 v7 v8 v9 v35 h
theorem n6_eq (G : KT1 R) (σ : GS) (h : Heap) : KC k 117 c6 σ h (fun x σ h => G x (σ 4) h) = n6 k G (σ 1) (σ 2) (σ 4) (σ 6) (σ 7) (σ 8) h := (kseq (a := c46) (b := c7) rfl (fun σ h => n7_eq k G σ h)).trans (by kernel_rfl)
noncomputable def c47 : Code := cL c5
@[simp] def n5 (G : KT1 R) (v1 v2 v4 v6 v7 : GV) (h : Heap) : Option R := (kloadA 4 h v2).bind fun v28 => (kF false HH fn.laws_toParser [v28] h).bind fun r => kr r fun v29 h => kalloc [(.int .i64 0), .nils, (.int .i64 0), .nils] h fun v8 h => (kstore 4 h v8 v29).bind fun h => n6 k G v1 v2 v4 v6 v7 v8 h
theorem n5_eq (G : KT1 R) (σ : GS) (h : Heap) : KC k 117 c5 σ h (fun x σ h => G x (σ 4) h) = n5 k G (σ 1) (σ 2) (σ 4) (σ 6) (σ 7) h := (kseq (a := c47) (b := c6) rfl (fun σ h => n6_eq k G σ h)).trans (by kernel_rfl)
noncomputable def c48 : Code := cL c4
@[simp] def n4 (G : KT1 R) (v1 v2 v4 : GV) (h : Heap) : Option R := (kloadA 4 h v2).bind fun v22 => (kF false HH fn.laws_toParser [v22] h).bind fun r => kr r fun v23 h => (kN NN fn.spec_Step [v23, v1] h).bind fun v25 => (kxt 0 v25).bind fun v26 => (kxt 1 v25).bind fun v27 => kalloc [(.int .i64 0), .nils, (.int .i64 0), .nils] h fun v6 h => (kstore 4 h v6 v26).bind fun h => n5 k G v1 v2 v4 v6 v27 h
theorem n4_eq (G : KT1 R) (σ : GS) (h : Heap) : KC k 117 c4 σ h (fun x σ h => G x (σ 4) h) = n4 k G (σ 1) (σ 2) (σ 4) h := (kseq (a := c48) (b := c5) rfl (fun σ h => n5_eq k G σ h)).trans (by kernel_rfl)
noncomputable def c49 : Code := cL c3
@[simp] def n3 (G : KT1 R) (v1 v2 v4 v5 : GV) (h : Heap) : Option R := (kbin .lss v5 (.int .i64 0)).bind fun v20 => kcond v20 (G .ret (.bool true) h) (n4 k G v1 v2 v4 h)
theorem n3_eq (G : KT1 R) (σ : GS) (h : Heap) : KC k 117 c3 σ h (fun x σ h => G x (σ 4) h) = n3 k G (σ 1) (σ 2) (σ 4) (σ 5) h := (kseq (a := c49) (b := c4) rfl (fun σ h => n4_eq k G σ h)).trans (by kernel_rfl)
noncomputable def c50 : Code := cL c2
@[simp] def n2 (G : KT1 R) (v1 v2 v4 v5 : GV) (h : Heap) : Option R := (kloadA 4 h v2).bind fun v16 => (kN NN fn.laws_szParser [v16, v5] h).bind fun v18 => n3 k G v1 v2 v4 v18 h
theorem n2_eq (G : KT1 R) (σ : GS) (h : Heap) : KC k 117 c2 σ h (fun x σ h => G x (σ 4) h) = n2 k G (σ 1) (σ 2) (σ 4) (σ 5) h := (kseq (a := c50) (b := c3) rfl (fun σ h => n3_eq k G σ h)).trans (by kernel_rfl)
noncomputable def c51 : Code := cL c1
@[simp] def n1 (G : KT1 R) (v1 v2 v4 : GV) (h : Heap) : Option R := n2 k G v1 v2 v4 (.int .i64 1048576) h
theorem n1_eq (G : KT1 R) (σ : GS) (h : Heap) : KC k 117 c1 σ h (fun x σ h => G x (σ 4) h) = n1 k G (σ 1) (σ 2) (σ 4) h := (kseq (a := c51) (b := c2) rfl (fun σ h => n2_eq k G σ h)).trans (by kernel_rfl)
noncomputable def c52 : Code := cL c0
@[simp] def n0 (G : KT1 R) (v0 v1 : GV) (h : Heap) : Option R := kbox v0 h fun v2 h => n1 k G v1 v2 (.bool false) h
theorem n0_eq (G : KT1 R) (σ : GS) (h : Heap) : KC k 117 c0 σ h (fun x σ h => G x (σ 4) h) = n0 k G (σ 0) (σ 1) h := (kseq (a := c52) (b := c1) rfl (fun σ h => n1_eq k G σ h)).trans (by kernel_rfl)
def run {R : Type} (k : Nat) (a0 : GV) (a1 : GV) (h : Heap) (fin : GV → Heap → Option R) : Option R := n0 k (fun x v4 h => kend x (fin v4 h)) a0 a1 h
theorem run_eq {R : Type} (k : Nat) (a0 : GV) (a1 : GV) (h : Heap) (fin : GV → Heap → Option R) : kfun PP cfg NN HH k fn.laws_FnExactStep [a0, a1] h fin = run k a0 a1 h fin := (kfun_eq (nt := 117) (c := c0) (show PP.funcs[fn.laws_FnExactStep]? = some Try.f9 by kernel_rfl) (by kernel_rfl) (by kernel_rfl) (fun x σ h => by cases x <;> kernel_rfl)).trans (n0_eq k (fun x v4 h => kend x (fin v4 h)) _ h)
theorem gives {k : Nat} {a0 : GV} {a1 : GV} {v : GV} (e : run k a0 a1 [] finN = some v) : NN fn.laws_FnExactStep [a0, a1] = some v := nω_of (by kernel_rfl) ((run_eq k a0 a1 [] finN).trans e)
end S.laws_FnExactStep
end
end Go.Proofs.Ytlbnioapepelnaa.G
