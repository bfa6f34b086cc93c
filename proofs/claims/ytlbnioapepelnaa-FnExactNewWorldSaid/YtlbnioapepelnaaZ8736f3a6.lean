/- New grids on both sides. New chains and new clients on both sides. New clients, new worlds on both sides. New worlds on both sides. New worlds: the reference's side; their size. What these functions do, told for open values, out of the machine with continuations. Printed by a program of this session. The law FnExactNewWorld, for all data. From this machine to the statements: a law that answers true for all data answers true for all arguments. -/
import Derived.Test.YtlbnioapepelnaaZ33415091
import Derived.KernelRfl
import Derived.Test.YtlbnioapepelnaaZeb0e6002
import Derived.Test.YtlbnioapepelnaaZ31d8faa3
import Derived.ChangeOld
import Derived.OpenShut
namespace Go.Proofs.Ytlbnioapepelnaa.G
open Go.RowKit
set_option linter.unusedVariables false
set_option linter.unusedSimpArgs false
abbrev sty0 : StyT := (0, 0, false, false, false)
abbrev styleG : GV := .agg [.int .i64 0, .int .i64 0, .bool false, .bool false, .bool false]
def rowM (n : Nat) : List CellT := List.replicate n (blankS sty0)
theorem rowM_len (n : Nat) : (rowM n).length = n := List.length_replicate
def gridM (c n : Nat) : GridT := ((c : Int), List.replicate n (rowM c))
/-- A grid that grows in block 1. -/
def GI (c : Nat) (j : Nat) (H : Heap) : Prop := H[0]? = some [.int .i64 0, .nils] ∧ ∃ vR R, H[1]? = some [.int .i64 (c : Int), vR] ∧ rCellSS H [vR] (List.replicate j (rowM c)) R ∧ R.Nodup ∧ ∀ i ∈ R, 2 ≤ i
theorem GI.step {c j : Nat} {H : Heap} (h : GI c j H) (hj : j ≤ 60) {f : FuncId} (hf : ∀ b, ∃ v bl, OO f [.int .i64 (c : Int), styleG] b = some (v, bl) ∧ ∀ H T, H.length = b → rCellS (H ++ bl ++ T) [v] (rowM c) (List.range' b bl.length)) :
    ∃ vR v H1 v' H4 H5, kload1 H (.ptr 1 1 2) = some vR ∧ kF false HH f [.int .i64 (c : Int), styleG] H = some (v, H1) ∧ v.cells = [v] ∧ kapp [.nils] 1 24 vR (.sl H1.length 0 1 1 1) (H1 ++ [[v]]) = some (v', H4) ∧ kstore 1 H4 (.ptr 1 1 2) v' = some H5 ∧ GI c (j + 1) H5 := by
  obtain ⟨I0, vR, R, I1, hr, nd, hlo⟩ := h
  obtain ⟨v, Rx, H1, t1, r1, n1, b1, f1, l1⟩ := fresh_one goodCellS (f := f) (args := [.int .i64 (c : Int), styleG]) (xs := [.int .i64 (c : Int), styleG]) (H := H) (by simp) (hf H.length)
  have q := kload1_at (o := 1) (tot := 2) I1 rfl
  have hm := goodCellSS.mem hr
  have hl := (List.getElem?_eq_some_iff.1 I1).1
  have vc := cell_of r1
  obtain ⟨v', H4, H5, R', a1, a2, a3, a4, a5, a6, a7⟩ := push goodCellS (by omega) (z := [.nils]) (b := 24) rfl (by omega) (goodCellSS.keep hr f1 (fun _ _ => no_nil)) nd (by rw [List.length_replicate]; omega) r1 n1 (fun i hi h => by have := b1 i hi; have := hm i h; omega) (p := 1) (o := 1) (n := 2) (f1.blk I1 no_nil) rfl (by omega) (fun h => by have := hlo 1 h; omega) (fun h => by have := b1 1 h; omega)
  refine ⟨vR, v, H1, v', H4, H5, q, t1, vc.1, a1, a2, a7.blk (f1.blk I0 no_nil) (fun h => ?_), v', R', a6, ?_, a4, fun i hi => ?_⟩
  · rcases List.mem_cons.1 h with h | h
    · cases h
    · have := hlo 0 h; omega
  · rw [List.replicate_succ']; exact a3
  · rcases a5 i hi with h | h | h
    · exact hlo i h
    · have := b1 i h; omega
    · omega
theorem GI.fin {c n : Nat} {H : Heap} (h : GI c n H) (b : Nat) : ∃ vR H', kloadA 2 H (.ptr 1 0 2) = some (.agg [.int .i64 (c : Int), vR]) ∧ kstore 2 H (.ptr 0 0 2) (.agg [.int .i64 (c : Int), vR]) = some H' ∧ kloadA 2 H' (.ptr 0 0 2) = some (.agg [.int .i64 (c : Int), vR]) ∧ ∃ R, rGrid H' [.int .i64 (c : Int), vR] (gridM c n) R ∧ R.Nodup := by
  obtain ⟨I0, vR, R, I1, hr, nd, hlo⟩ := h
  have vc := cell_of hr
  have hl := (List.getElem?_eq_some_iff.1 I0).1
  have s := kstoreA_at (n := 2) I0 rfl (c' := [.int .i64 (c : Int), vR]) rfl (by simp [vc.2])
  have f : Fr [0] H (H.set 0 [.int .i64 (c : Int), vR]) := .set (by simp)
  refine ⟨vR, _, kloadA_at (n := 2) I1 rfl, s, kloadA_at (n := 2) (by rw [List.getElem?_set_self hl]) rfl, R, ⟨[.int .i64 (c : Int)], [vR], [], R, rfl, rfl, ⟨rfl, rfl⟩, goodCellSS.keep hr f (fun i hi h => by rw [List.mem_singleton] at h; have := hlo i hi; omega)⟩, nd⟩
theorem spec_l5New_spec (c n : Nat) (hc : c ≤ 60) (hn : n ≤ 30) (b : Nat) : ∃ g bl, OO fn.spec_l5New [.int .i64 (c : Int), .int .i64 (n : Int)] b = some (.agg g, bl) ∧ ∀ H T, H.length = b → rGrid (H ++ bl ++ T) g (gridM c n) (List.range' b bl.length) := by
  refine Exists.elim (loop_inv (n := n) (T := Heap) (Inv := GI c) (f := fun r j H => fun (G : GX → GV → GV → Heap → Option (GV × List (List GV))) => S.spec_l5New.l6 61 G r (.int .i64 (c : Int)) (.int .i64 (n : Int)) (.ptr 0 0 2) (.ptr 1 0 2) (.int .i64 (j : Int)) H) (A := fun H => fun G => G (.ext 0) (.ptr 0 0 2) (.ptr 1 0 2) H) (s := [[.int .i64 0, .nils], [.int .i64 (c : Int), .nils]]) ?_ ?_ ⟨rfl, .nils, [], rfl, Or.inl ⟨rfl, rfl, Or.inr rfl⟩, List.nodup_nil, fun i hi => (by cases hi)⟩ (m := 61) (by omega)) (fun H h => ?_)
  · rintro j r H hj hi
    obtain ⟨vR, v, H1, v', H4, H5, e1, e2, e3, e4, e5, e6⟩ := hi.step (by omega) (f := fn.spec_l4Row) (fun b => spec_l4Row_spec sty0 c hc b)
    refine ⟨H5, funext fun G => ?_, e6⟩
    have kj := kadd1 (n := j) (by omega)
    have g1 : kbin .lss (.int .i64 (j : Int)) (.int .i64 (n : Int)) = some (.bool true) := by rw [klt, decide_eq_true hj]
    simp only [S.spec_l5New.l6]
    simp [g1, e1, gfill, zeros, e2, e3, kbs_at, e4, e5, kj, -kF_OO, -kload1_ptr, -kstore_ptr, -kbin_lss, -kbin_add, -Int.natCast_add]
  · rintro r H _
    funext G
    have g1 : kbin .lss (.int .i64 (n : Int)) (.int .i64 (n : Int)) = some (.bool false) := by rw [klt, decide_eq_false (by omega)]
    simp only [S.spec_l5New.l6]
    simp [g1, -kbin_lss]
  · obtain ⟨vR, H', k1, k2, k3, R, hr, nd⟩ := h.2.fin b
    obtain ⟨g, bl, f1, f2⟩ := goodGrid.finS (by omega) hr nd b
    have a1 := fun G => congrFun h.1 G
    simp only [show ((0 : Nat) : Int) = 0 from rfl] at a1
    refine ⟨g, bl, S.spec_l5New.gives (k := 61) ?_, f2⟩
    have s0 : kstore 2 [[.int .i64 0, .nils], [.int .i64 0, .nils]] (.ptr 1 0 2) (.agg [.int .i64 (c : Int), .nils]) = some [[.int .i64 0, .nils], [.int .i64 (c : Int), .nils]] := by simp
    simp [S.spec_l5New.run, gfill, s0, a1, k1, k2, k3, f1, -kloadA_ptr, -kstore_ptr]
theorem impl_NewGrid_spec (c n : Nat) (hc1 : 1 ≤ c) (hc : c ≤ 60) (hn1 : 1 ≤ n) (hn : n ≤ 30) (b : Nat) : ∃ g bl, OO fn.impl_NewGrid [.int .i64 (c : Int), .int .i64 (n : Int)] b = some (.tup [.agg g, .bool true], bl) ∧ ∀ H T, H.length = b → rGrid (H ++ bl ++ T) g (gridM c n) (List.range' b bl.length) := by
  have i1 := impl_in_spec (c : Int) 1 60
  rw [show inB (c : Int) 1 60 = true from by rw [inB_iff]; omega] at i1
  have i2 := impl_in_spec (n : Int) 1 30
  rw [show inB (n : Int) 1 30 = true from by rw [inB_iff]; omega] at i2
  refine Exists.elim (loop_inv (n := n) (T := Heap) (Inv := GI c) (f := fun r j H => fun (G : GX → GV → GV → GV → Heap → Option (GV × List (List GV))) => S.impl_NewGrid.l7 61 G r (.int .i64 (c : Int)) (.ptr 0 0 2) (.bool false) (.ptr 1 0 2) (.int .i64 (n : Int)) (.int .i64 (j : Int)) H) (A := fun H => fun G => G (.ext 0) (.ptr 0 0 2) (.bool false) (.ptr 1 0 2) H) (s := [[.int .i64 0, .nils], [.int .i64 (c : Int), .nils]]) ?_ ?_ ⟨rfl, .nils, [], rfl, Or.inl ⟨rfl, rfl, Or.inr rfl⟩, List.nodup_nil, fun i hi => (by cases hi)⟩ (m := 61) (by omega)) (fun H h => ?_)
  · rintro j r H hj hi
    obtain ⟨vR, v, H1, v', H4, H5, e1, e2, e3, e4, e5, e6⟩ := hi.step (by omega) (f := fn.impl_Blank) (fun b => impl_Blank_spec sty0 rfl c hc1 hc b)
    refine ⟨H5, funext fun G => ?_, e6⟩
    have kj := kadd1 (n := j) (by omega)
    have g1 : kbin .lss (.int .i64 (j : Int)) (.int .i64 (n : Int)) = some (.bool true) := by rw [klt, decide_eq_true hj]
    simp only [S.impl_NewGrid.l7]
    simp [g1, e1, gfill, zeros, e2, e3, kbs_at, e4, e5, kj, -kF_OO, -kload1_ptr, -kstore_ptr, -kbin_lss, -kbin_add, -Int.natCast_add]
  · rintro r H _
    funext G
    have g1 : kbin .lss (.int .i64 (n : Int)) (.int .i64 (n : Int)) = some (.bool false) := by rw [klt, decide_eq_false (by omega)]
    simp only [S.impl_NewGrid.l7]
    simp [g1, -kbin_lss]
  · obtain ⟨vR, H', k1, k2, k3, R, hr, nd⟩ := h.2.fin b
    obtain ⟨g, bl, f1, f2⟩ := goodGrid.finT (t := true) (by omega) hr nd b
    have a1 := fun G => congrFun h.1 G
    simp only [show ((0 : Nat) : Int) = 0 from rfl] at a1
    refine ⟨g, bl, S.impl_NewGrid.gives (k := 61) ?_, f2⟩
    have s0 : kstore 2 [[.int .i64 0, .nils], [.int .i64 0, .nils]] (.ptr 1 0 2) (.agg [.int .i64 (c : Int), .nils]) = some [[.int .i64 0, .nils], [.int .i64 (c : Int), .nils]] := by simp
    simp [S.impl_NewGrid.run, i1, i2, gfill, s0, a1, k1, k2, k3, f1, -kloadA_ptr, -kstore_ptr]
/-! A grid in new memory. -/
end Go.Proofs.Ytlbnioapepelnaa.G

namespace Go.Proofs.Ytlbnioapepelnaa.G
open Go.RowKit
set_option linter.unusedVariables false
set_option linter.unusedSimpArgs false
abbrev ChainT := List (List ByteArray × Int) × List (List ByteArray) × List (List Int)
abbrev ClientT := Int × List ByteArray × Int × GridT × Int × (Int × List Int) × Int
abbrev WorldT := ChainT × List ClientT × List ByteArray × List (Int × ByteArray)
def chainM (n : Nat) : ChainT := (List.replicate n ([], 0), List.replicate (n - 1) [], List.replicate (n - 1) [])
def chain0 : ChainT := ([], [], [])
def newChainM (n : Int) : ChainT := if inB n 1 5 = true then chainM n.toNat else chain0
def clientM (i : Int) : ClientT := (i, [], 1, gridM 20 5, 0, (-1, []), 0)
theorem made {α : Type} {es : Nat} {E : Rel α} {z : List GV} {x0 : α} (hE : ∀ h, E h z x0 []) {H : Heap} {b n : Nat} (hb : H[b]? = some (zeros z n)) : RSl es E H [.sl b 0 n n es] (List.replicate n x0) [b] := by
  have e : ∀ n, (List.replicate n z).flatten = zeros z n := fun n => by
    induction n with
    | zero => rfl
    | succ n ih => rw [List.replicate_succ, List.flatten_cons, ih]; rfl
  have a : ∀ n, All3 (E H) (List.replicate n z) (List.replicate n x0) (List.replicate n []) := fun n => by
    induction n with
    | zero => exact .nil
    | succ n ih => rw [List.replicate_succ, List.replicate_succ, List.replicate_succ]; exact .cons (hE H) ih
  have r : ∀ n, (List.replicate n ([] : List Nat)).flatten = [] := fun n => by
    induction n with
    | zero => rfl
    | succ n ih => rw [List.replicate_succ, List.flatten_cons, ih]; rfl
  exact Or.inr ⟨b, List.replicate n z, List.replicate n [], by rw [List.length_replicate], by rw [e]; exact hb, a n, by rw [r]⟩
theorem chain_made {H : Heap} {b n : Nat} (h1 : H[b]? = some (zeros [.nils, .int .i64 0] n)) (h2 : H[b + 1]? = some (zeros [.nils] (n - 1))) (h3 : H[b + 2]? = some (zeros [.nils] (n - 1))) : rChain H [.sl b 0 n n 2, .sl (b + 1) 0 (n - 1) (n - 1) 1, .sl (b + 2) 0 (n - 1) (n - 1) 1] (chainM n) [b, b + 1, b + 2] := by
  refine ⟨[.sl b 0 n n 2], [.sl (b + 1) 0 (n - 1) (n - 1) 1, .sl (b + 2) 0 (n - 1) (n - 1) 1], [b], [b + 1, b + 2], rfl, rfl, made (x0 := ([], 0)) (fun h => ?_) h1, [.sl (b + 1) 0 (n - 1) (n - 1) 1], [.sl (b + 2) 0 (n - 1) (n - 1) 1], [b + 1], [b + 2], rfl, rfl, made (x0 := []) (fun h => ?_) h2, made (x0 := []) (fun h => ?_) h3⟩
  · exact ⟨[.nils], [.int .i64 0], [], [], rfl, rfl, Or.inl ⟨rfl, rfl, Or.inr rfl⟩, ⟨rfl, rfl⟩⟩
  · exact Or.inl ⟨rfl, rfl, Or.inr rfl⟩
  · exact Or.inl ⟨rfl, rfl, Or.inr rfl⟩
theorem chain_none {H : Heap} : rChain H [.nils, .nils, .nils] chain0 [] :=
  ⟨[.nils], [.nils, .nils], [], [], rfl, rfl, Or.inl ⟨rfl, rfl, Or.inr rfl⟩, [.nils], [.nils], [], [], rfl, rfl, Or.inl ⟨rfl, rfl, Or.inr rfl⟩, Or.inl ⟨rfl, rfl, Or.inr rfl⟩⟩
theorem chain_body (n : Nat) (h1 : 1 ≤ n) (hn : n ≤ 5) : ∃ H, kstore 3 ([[.nils, .nils, .nils]] ++ [zeros [.nils, .int .i64 0] n] ++ [zeros [.nils] (n - 1)] ++ [zeros [.nils] (n - 1)]) (.ptr 0 0 3) (.agg [.sl 1 0 n n 2, .sl 2 0 (n - 1) (n - 1) 1, .sl 3 0 (n - 1) (n - 1) 1]) = some H ∧ kloadA 3 H (.ptr 0 0 3) = some (.agg [.sl 1 0 n n 2, .sl 2 0 (n - 1) (n - 1) 1, .sl 3 0 (n - 1) (n - 1) 1]) ∧ rChain H [.sl 1 0 n n 2, .sl 2 0 (n - 1) (n - 1) 1, .sl 3 0 (n - 1) (n - 1) 1] (chainM n) [1, 2, 3] := by
  refine ⟨[[.sl 1 0 n n 2, .sl 2 0 (n - 1) (n - 1) 1, .sl 3 0 (n - 1) (n - 1) 1], zeros [.nils, .int .i64 0] n, zeros [.nils] (n - 1), zeros [.nils] (n - 1)], ?_, ?_, chain_made (b := 1) rfl rfl rfl⟩
  · rw [kstoreA_at (c := [.nils, .nils, .nils]) (n := 3) rfl rfl rfl rfl]; rfl
  · exact kloadA_at rfl rfl
theorem impl_NewChain_spec (n : Int) (b : Nat) : ∃ c bl, OO fn.impl_NewChain [.int .i64 n] b = some (.tup [.agg c, .bool (inB n 1 5)], bl) ∧ ∀ H T, H.length = b → rChain (H ++ bl ++ T) c (newChainM n) (List.range' b bl.length) := by
  have i1 := k_in n 1 5 [[.nils, .nils, .nils]]
  unfold newChainM
  cases hin : inB n 1 5
  · rw [hin] at i1
    rw [if_neg (by decide)]
    obtain ⟨c, bl, f1, f2⟩ := goodChain.finT (t := false) (by omega) (chain_none (H := [[.nils, .nils, .nils]])) List.nodup_nil b
    refine ⟨c, bl, S.impl_NewChain.gives (k := 0) ?_, f2⟩
    have st : kstore 3 [[.nils, .nils, .nils]] (.ptr 0 0 3) (.agg [.nils, .nils, .nils]) = some [[.nils, .nils, .nils]] := rfl
    have q : kloadA 3 [[.nils, .nils, .nils]] (.ptr 0 0 3) = some (.agg [.nils, .nils, .nils]) := rfl
    simp [S.impl_NewChain.run, i1, gfill, st, q, f1, -kN_eq, -kstore_ptr, -kloadA_ptr]
  · rw [hin] at i1
    rw [if_pos rfl]
    rw [inB_iff] at hin
    obtain ⟨m, rfl⟩ : ∃ m : Nat, n = (m : Int) := ⟨n.toNat, by omega⟩
    obtain ⟨H, s1, s2, s3⟩ := chain_body m (by omega) (by omega)
    obtain ⟨c, bl, f1, f2⟩ := goodChain.finT (t := true) (by omega) s3 (by simp) b
    rw [Int.toNat_natCast]
    refine ⟨c, bl, S.impl_NewChain.gives (k := 0) ?_, f2⟩
    have k1 : kbin .sub (.int .i64 (m : Int)) (.int .i64 1) = some (.int .i64 ((m - 1 : Nat) : Int)) := by rw [kbin_sub, wrap_id (by omega) (by omega)]; congr 2; omega
    have m1 := fun H => kmake_eq (z := [.nils, .int .i64 0]) (es := 2) (b := 32) (n := m) (h := H) (by omega) (by omega) rfl
    have m2 := fun H => kmake_eq (z := [.nils]) (es := 1) (b := 24) (n := m - 1) (h := H) (by omega) (by omega) rfl
    simp only [List.append_assoc, List.cons_append, List.nil_append] at s1
    simp [S.impl_NewChain.run, i1, k1, m1, m2, gfill, s1, s2, f1, -kN_eq, -kbin_sub, -kstore_ptr, -kloadA_ptr]
theorem chain_frz {d : Nat} {h : Heap} : ∀ c x R, rChain h c x R → Frz (d + 3) h c (mChain false x) :=
  RSeq.frz (RSl.frz' goodServer (RSeq.frz (RSl.frz' (RFl.good (es := 1) (mk := cs) (fun _ => rfl) (fun _ => rfl)) (flat_frz (fun _ => rfl))) (flat_frz (fun _ => rfl)))) (RSeq.frz (RSl.frz' goodStringS (RSl.frz' (RFl.good (es := 1) (mk := cs) (fun _ => rfl) (fun _ => rfl)) (flat_frz (fun _ => rfl)))) (RSl.frz' goodInt64S (RSl.frz' (RFl.good (es := 1) (mk := ci) (fun _ => rfl) (fun _ => rfl)) (flat_frz (fun _ => rfl)))))
theorem spec_NewChain_spec (n : Int) : NN fn.spec_NewChain [.int .i64 n] = some (.tup [.agg (mChain false (newChainM n)), .bool (inB n 1 5)]) := by
  have i1 := k_l1In n 1 5 [[.nils, .nils, .nils]]
  unfold newChainM
  refine S.spec_NewChain.gives (k := 0) ?_
  cases hin : inB n 1 5
  · rw [hin] at i1
    rw [if_neg (by decide)]
    have st : kstore 3 [[.nils, .nils, .nils]] (.ptr 0 0 3) (.agg [.nils, .nils, .nils]) = some [[.nils, .nils, .nils]] := rfl
    have q : kloadA 3 [[.nils, .nils, .nils]] (.ptr 0 0 3) = some (.agg [.nils, .nils, .nils]) := rfl
    have e1 : finN (.tup [.agg [.nils, .nils, .nils], .bool false]) [[.nils, .nils, .nils]] = some (.tup [.agg (mChain false chain0), .bool false]) := rfl
    simp [S.spec_NewChain.run, i1, gfill, st, q, e1, -kN_eq, -kstore_ptr, -kloadA_ptr]
  · rw [hin] at i1
    rw [if_pos rfl]
    rw [inB_iff] at hin
    obtain ⟨m, rfl⟩ : ∃ m : Nat, n = (m : Int) := ⟨n.toNat, by omega⟩
    obtain ⟨H, s1, s2, s3⟩ := chain_body m (by omega) (by omega)
    rw [Int.toNat_natCast]
    have e1 := finN_of (frz_tup (.cons (frz_agg (chain_frz (d := 4) _ _ _ s3)) (.cons (frz_bool (n := true)) .nil)))
    have k1 : kbin .sub (.int .i64 (m : Int)) (.int .i64 1) = some (.int .i64 ((m - 1 : Nat) : Int)) := by rw [kbin_sub, wrap_id (by omega) (by omega)]; congr 2; omega
    have m1 := fun H => kmake_eq (z := [.nils, .int .i64 0]) (es := 2) (b := 32) (n := m) (h := H) (by omega) (by omega) rfl
    have m2 := fun H => kmake_eq (z := [.nils]) (es := 1) (b := 24) (n := m - 1) (h := H) (by omega) (by omega) rfl
    simp only [List.append_assoc, List.cons_append, List.nil_append] at s1
    simp [S.spec_NewChain.run, i1, k1, m1, m2, gfill, s1, s2, e1, -kN_eq, -kbin_sub, -kstore_ptr, -kloadA_ptr]
end Go.Proofs.Ytlbnioapepelnaa.G

namespace Go.Proofs.Ytlbnioapepelnaa.G
open Go.RowKit
set_option linter.unusedVariables false
set_option linter.unusedSimpArgs false
abbrev zCl : List GV := [.int .i64 0, .nils, .int .i64 0, .int .i64 0, .nils, .int .i64 0, .int .i64 0, .nils, .int .i64 0]
abbrev clC (i : Int) (vR : GV) : List GV := [.int .i64 i, .nils, .int .i64 1, .int .i64 20, vR, .int .i64 0, .int .i64 (-1), .nils, .int .i64 0]
theorem client_rel {H : Heap} {i : Int} {vR : GV} {R : List Nat} (h : rCellSS H [vR] (gridM 20 5).2 R) : rClient H (clC i vR) (clientM i) R := by
  have mtS : rStringS H [.nils] [] [] := Or.inl ⟨rfl, rfl, Or.inr rfl⟩
  have mtI : rInt64S H [.nils] [] [] := Or.inl ⟨rfl, rfl, Or.inr rfl⟩
  exact ⟨[.int .i64 i], _, [], R, rfl, by simp, ⟨rfl, rfl⟩, [.nils], _, [], R, rfl, by simp, mtS, [.int .i64 1], _, [], R, rfl, by simp, ⟨rfl, rfl⟩, [.int .i64 20, vR], _, R, [], rfl, by simp, ⟨[.int .i64 20], [vR], [], R, rfl, by simp, ⟨rfl, rfl⟩, h⟩, [.int .i64 0], _, [], [], rfl, rfl, ⟨rfl, rfl⟩, [.int .i64 (-1), .nils], [.int .i64 0], [], [], rfl, rfl, ⟨[.int .i64 (-1)], [.nils], [], [], rfl, rfl, ⟨rfl, rfl⟩, mtI⟩, ⟨rfl, rfl⟩⟩
theorem client_fill (i : Int) (vR : GV) (hv : vR.isCell = true) : gfill (fun i => ([(0, 1), (1, 1), (2, 1), (3, 2), (5, 1), (6, 2), (8, 1)] : List (Nat × Nat))[i]?) zCl [(0, .int .i64 i), (2, .int .i64 1), (3, .agg [.int .i64 20, vR]), (5, .agg [.int .i64 (-1), .nils])] = some (clC i vR) := by
  simp [gfill, splice, hv]
theorem client_end {H1 : Heap} {i : Int} {vR : GV} {R : List Nat} (h0 : H1[0]? = some zCl) (hr : rCellSS H1 [vR] (gridM 20 5).2 R) (hR : 0 ∉ R) : ∃ H2, kstore 9 H1 (.ptr 0 0 9) (.agg (clC i vR)) = some H2 ∧ kloadA 9 H2 (.ptr 0 0 9) = some (.agg (clC i vR)) ∧ rClient H2 (clC i vR) (clientM i) R := by
  have hl := (List.getElem?_eq_some_iff.1 h0).1
  have vc := cell_of hr
  refine ⟨_, kstoreA_at (n := 9) h0 rfl rfl (by simp [vc.2]), kloadA_at (n := 9) (List.getElem?_set_self hl) rfl, client_rel (goodCellSS.keep hr (Fr.set (R := [0]) (by simp)) fun i hi h => ?_)⟩
  rw [List.mem_singleton] at h
  exact hR (h ▸ hi)
theorem impl_NewClient_spec (i : Int) (h0 : 0 ≤ i) (h3 : i ≤ 3) (b : Nat) : ∃ c bl, OO fn.impl_NewClient [.int .i64 i] b = some (.tup [.agg c, .bool true], bl) ∧ ∀ H T, H.length = b → rClient (H ++ bl ++ T) c (clientM i) (List.range' b bl.length) := by
  obtain ⟨H0, hH0⟩ : ∃ H0 : Heap, [zCl] = H0 := ⟨_, rfl⟩
  have l0 : H0.length = 1 := by rw [← hH0]; rfl
  have Z0 : H0[0]? = some zCl := by rw [← hH0]; rfl
  have i1 := k_in i 0 3 H0
  rw [show inB i 0 3 = true from by rw [inB_iff]; omega] at i1
  have hal : ∀ {Q : Type} (K : GV → Heap → Option Q), kalloc zCl [] K = K (.ptr 0 0 9) H0 := fun K => by rw [← hH0]; rfl
  obtain ⟨g, R, H1, t1, r1, n1, b1, f1, l1⟩ := fresh_tup goodGrid (f := fn.impl_NewGrid) (args := [.int .i64 20, .int .i64 5]) (xs := [.int .i64 20, .int .i64 5]) (H := H0) (x := gridM 20 5) (by simp) (impl_NewGrid_spec 20 5 (by omega) (by omega) (by omega) (by omega) H0.length)
  obtain ⟨vR, rfl, rr⟩ := rGrid_of r1
  have vc := cell_of rr
  obtain ⟨H2, hH2⟩ : ∃ H2, H1 ++ [[.int .i64 20, vR]] = H2 := ⟨_, rfl⟩
  have f2 : Fr [] H1 H2 := by rw [← hH2]; exact .app
  have G2 : H2[H1.length]? = some [.int .i64 20, vR] := by rw [← hH2]; simp
  have al : ∀ {Q : Type} (K : GV → Heap → Option Q), kalloc [.int .i64 0, .nils] H1 K = K (.ptr H1.length 0 2) (H1 ++ [[.int .i64 0, .nils]]) := fun K => rfl
  have st : kstore 2 (H1 ++ [[.int .i64 0, .nils]]) (.ptr H1.length 0 2) (.agg [.int .i64 20, vR]) = some H2 := by
    rw [← hH2]; exact var_at rfl rfl (by simp [vc.2])
  have q2 := kloadA_at (n := 2) G2 rfl
  obtain ⟨H3, s3, q3, r3⟩ := client_end (i := i) ((f1.trans f2).blk Z0 no_nil) (goodCellSS.keep rr f2 fun _ _ => no_nil) (fun h => by have := b1 0 h; omega)
  obtain ⟨c, bl, e1, e2⟩ := goodClient.finT (t := true) (by omega) r3 n1 b
  refine ⟨c, bl, S.impl_NewClient.gives (k := 0) ?_, e2⟩
  have gw : gfill (fun i => ([(0, 1), (1, 1)] : List (Nat × Nat))[i]?) [.int .i64 0, .nils] [(0, .int .i64 (-1))] = some [.int .i64 (-1), .nils] := by simp [gfill, splice]
  have gc := client_fill i vR vc.2
  have t1' : kF false HH fn.impl_NewGrid [.int .i64 20, .int .i64 5] H0 = some (.tup [.agg [.int .i64 20, vR], .bool true], H1) := t1
  unfold S.impl_NewClient.run S.impl_NewClient.n0
  rw [hal]
  simp [i1, t1', al, st, q2, gw, gc, s3, q3, e1, -kN_eq, -kF_OO, -kalloc_eq, -kstore_ptr, -kloadA_ptr]
theorem spec_l19New_spec (i : Int) (b : Nat) : ∃ c bl, OO fn.spec_l19New [.int .i64 i] b = some (.agg c, bl) ∧ ∀ H T, H.length = b → rClient (H ++ bl ++ T) c (clientM i) (List.range' b bl.length) := by
  obtain ⟨H0, hH0⟩ : ∃ H0 : Heap, [zCl] = H0 := ⟨_, rfl⟩
  have l0 : H0.length = 1 := by rw [← hH0]; rfl
  have Z0 : H0[0]? = some zCl := by rw [← hH0]; rfl
  have hal : ∀ {Q : Type} (K : GV → Heap → Option Q), kalloc zCl [] K = K (.ptr 0 0 9) H0 := fun K => by rw [← hH0]; rfl
  obtain ⟨g, R, H1, t1, r1, n1, b1, f1, l1⟩ := fresh_agg goodGrid (f := fn.spec_l5New) (args := [.int .i64 20, .int .i64 5]) (xs := [.int .i64 20, .int .i64 5]) (H := H0) (x := gridM 20 5) (by simp) (spec_l5New_spec 20 5 (by omega) (by omega) H0.length)
  obtain ⟨vR, rfl, rr⟩ := rGrid_of r1
  have vc := cell_of rr
  obtain ⟨H3, s3, q3, r3⟩ := client_end (i := i) (f1.blk Z0 no_nil) rr (fun h => by have := b1 0 h; omega)
  obtain ⟨c, bl, e1, e2⟩ := goodClient.finS (by omega) r3 n1 b
  refine ⟨c, bl, S.spec_l19New.gives (k := 0) ?_, e2⟩
  have gw : gfill (fun i => ([(0, 1), (1, 1)] : List (Nat × Nat))[i]?) [.int .i64 0, .nils] [(0, .int .i64 (-1))] = some [.int .i64 (-1), .nils] := by simp [gfill, splice]
  have gc := client_fill i vR vc.2
  have t1' : kF false HH fn.spec_l5New [.int .i64 20, .int .i64 5] H0 = some (.agg [.int .i64 20, vR], H1) := t1
  unfold S.spec_l19New.run S.spec_l19New.n0
  rw [hal]
  simp [t1', gw, gc, s3, q3, e1, -kN_eq, -kF_OO, -kalloc_eq, -kstore_ptr, -kloadA_ptr]
end Go.Proofs.Ytlbnioapepelnaa.G

namespace Go.Proofs.Ytlbnioapepelnaa.G
open Go.RowKit
set_option linter.unusedVariables false
set_option linter.unusedSimpArgs false
abbrev zW : List GV := [.nils, .nils, .nils, .nils, .nils, .nils]
def world0 : WorldT := (chain0, [], [], [])
def worldM (n : Nat) : WorldT := (chainM n, [clientM 0, clientM 1], [], [])
def newWorldM (n : Int) : WorldT × Bool := if inB n 1 5 = true then (worldM n.toNat, true) else (world0, false)
theorem world_rel {H : Heap} {c : List GV} {v : GV} {a : ChainT} {cl : List ClientT} {Rc Rk : List Nat} (hc : rChain H c a Rc) (hk : rClientS H [v] cl Rk) : rWorld H (c ++ [v, .nils, .nils]) (a, cl, [], []) (Rc ++ Rk) :=
  ⟨c, [v, .nils, .nils], Rc, Rk, rfl, rfl, hc, [v], [.nils, .nils], Rk, [], rfl, by simp, hk, [.nils], [.nils], [], [], rfl, rfl, Or.inl ⟨rfl, rfl, Or.inr rfl⟩, Or.inl ⟨rfl, rfl, Or.inr rfl⟩⟩
theorem world_none {H : Heap} : rWorld H zW world0 [] := world_rel (c := [.nils, .nils, .nils]) (v := .nils) (Rc := []) (Rk := []) chain_none (Or.inl ⟨rfl, rfl, Or.inr rfl⟩)
theorem three {c : List GV} (h : c.length = 3) : ∃ x y z, c = [x, y, z] := by
  match c, h with
  | [x, y, z], _ => exact ⟨x, y, z, rfl⟩
theorem gfill_one {z cl : List GV} {n : Nat} (hz : z.length = n) (hl : cl.length = n) (hc : cl.all GV.isCell = true) : gfill (fun i => some (i * n, n)) (zeros z 1) [(0, .agg cl)] = some cl := by
  have e : zeros z 1 = z := List.append_nil z
  rw [e]
  unfold gfill
  simp only [cells_agg, Nat.zero_mul]
  rw [if_pos ⟨hl, by omega⟩]
  unfold gfill splice
  rw [List.take_zero, List.nil_append, Nat.zero_add, hl, ← hz, List.drop_length, List.append_nil]
/-- Clients gathered in a world's variable. -/
def WI (a : ChainT) (c : List GV) (Rc : List Nat) (p j : Nat) (H : Heap) : Prop := H[0]? = some zW ∧ rChain H c a Rc ∧ ∃ vC R, H[p]? = some (c ++ [vC, .nils, .nils]) ∧ rClientS H [vC] ((List.range j).map fun i : Nat => clientM (i : Int)) R ∧ R.Nodup ∧ ∀ i ∈ R, p < i
theorem WI.step {a : ChainT} {c : List GV} {Rc : List Nat} {p j : Nat} {H : Heap} (h : WI a c Rc p j H) (hcl : c.length = 3) (h0 : 0 < p) (hR : ∀ i ∈ Rc, 0 < i ∧ i < p) (hj : j < 2) :
    ∃ vC cl H1 H2 v' H4 H5, kload1 H (.ptr p 3 6) = some vC ∧ kF false HH fn.impl_NewClient [.int .i64 (j : Int)] H = some (.tup [.agg cl, .bool true], H1) ∧ kstore 9 (H1 ++ [zCl]) (.ptr H1.length 0 9) (.agg cl) = some H2 ∧ kload1 H2 (.ptr p 3 6) = some vC ∧ kloadA 9 H2 (.ptr H1.length 0 9) = some (.agg cl) ∧ gfill (fun i => some (i * 9, 9)) (zeros zCl 1) [(0, .agg cl)] = some cl ∧ kapp zCl 9 120 vC (.sl H2.length 0 1 1 9) (H2 ++ [cl]) = some (v', H4) ∧ kstore 1 H4 (.ptr p 3 6) v' = some H5 ∧ WI a c Rc p (j + 1) H5 := by
  obtain ⟨I0, hc, vC, R, Ip, hk, nd, hlo⟩ := h
  obtain ⟨c1, c2, c3, rfl⟩ := three hcl
  obtain ⟨cl, Rx, H1, t1, r1, n1, b1, f1, l1⟩ := fresh_tup goodClient (f := fn.impl_NewClient) (args := [.int .i64 (j : Int)]) (xs := [.int .i64 (j : Int)]) (H := H) (x := clientM (j : Int)) (by simp) (impl_NewClient_spec j (by omega) (by omega) H.length)
  have cll := goodClient.len r1
  have clc := goodClient.cell r1
  have hpl := (List.getElem?_eq_some_iff.1 Ip).1
  obtain ⟨H2, hH2⟩ : ∃ H2, H1 ++ [cl] = H2 := ⟨_, rfl⟩
  have f2 : Fr [] H1 H2 := by rw [← hH2]; exact .app
  have V2 : H2[H1.length]? = some cl := by rw [← hH2]; simp
  have st : kstore 9 (H1 ++ [zCl]) (.ptr H1.length 0 9) (.agg cl) = some H2 := by rw [← hH2]; exact var_at rfl cll clc
  have f12 := f1.trans f2
  have Ip2 := f12.blk Ip no_nil
  have q0 := kload1_at (o := 3) (tot := 6) Ip rfl
  have q2 := kload1_at (o := 3) (tot := 6) Ip2 rfl
  simp only [List.cons_append, List.nil_append, List.getElem?_cons_succ, List.getElem?_cons_zero] at q0 q2
  have hm := goodClientS.mem hk
  obtain ⟨v', H4, H5, R', a1, a2, a3, a4, a5, a6, a7⟩ := push goodClient (by omega) (z := zCl) (b := 120) rfl (by omega) (H := H2) (goodClientS.keep hk f12 (fun _ _ => no_nil)) nd (by simp; omega) (goodClient.keep r1 f2 (fun _ _ => no_nil)) n1 (fun i hi h => by have := b1 i hi; have := hm i h; omega) (p := p) (o := 3) (n := 6) Ip2 rfl (by omega) (fun h => by have := hlo p h; omega) (fun h => by have := b1 p h; omega)
  refine ⟨vC, cl, H1, H2, v', H4, H5, q0, t1, st, q2, kloadA_at (n := 9) V2 cll, gfill_one rfl cll clc, a1, a2, a7.blk (f12.blk I0 no_nil) (fun h => ?_), goodChain.keep (goodChain.keep hc f12 (fun _ _ => no_nil)) a7 (fun i hi h => ?_), v', R', a6, ?_, a4, fun i hi => ?_⟩
  · rcases List.mem_cons.1 h with h | h
    · omega
    · have := hlo 0 h; omega
  · have h2 := hR i hi
    rcases List.mem_cons.1 h with h | h
    · omega
    · have := hlo i h; omega
  · rw [List.range_succ, List.map_append]; exact a3
  · rcases a5 i hi with h | h | h
    · exact hlo i h
    · have := b1 i h; omega
    · have := f12.1; omega
theorem impl_NewWorld_spec (n : Int) (b : Nat) : ∃ c bl, OO fn.impl_NewWorld [.int .i64 n] b = some (.tup [.agg c, .bool (newWorldM n).2], bl) ∧ ∀ H T, H.length = b → rWorld (H ++ bl ++ T) c (newWorldM n).1 (List.range' b bl.length) := by
  obtain ⟨H0, hH0⟩ : ∃ H0 : Heap, [zW] = H0 := ⟨_, rfl⟩
  have l0 : H0.length = 1 := by rw [← hH0]; rfl
  have Z0 : H0[0]? = some zW := by rw [← hH0]; rfl
  have hal : ∀ {Q : Type} (K : GV → Heap → Option Q), kalloc zW [] K = K (.ptr 0 0 6) H0 := fun K => by rw [← hH0]; rfl
  obtain ⟨c, Rc, H1, t1, r1, n1, b1, f1, l1⟩ := fresh_tup goodChain (f := fn.impl_NewChain) (args := [.int .i64 n]) (xs := [.int .i64 n]) (H := H0) (x := newChainM n) (by simp) (impl_NewChain_spec n H0.length)
  have cl := goodChain.len r1
  have cc := goodChain.cell r1
  obtain ⟨H2, hH2⟩ : ∃ H2, H1 ++ [c] = H2 := ⟨_, rfl⟩
  have f2 : Fr [] H1 H2 := by rw [← hH2]; exact .app
  have l2 : H2.length = H1.length + 1 := by rw [← hH2]; simp
  have V2 : H2[H1.length]? = some c := by rw [← hH2]; simp
  have al : ∀ {Q : Type} (K : GV → Heap → Option Q), kalloc [.nils, .nils, .nils] H1 K = K (.ptr H1.length 0 3) (H1 ++ [[.nils, .nils, .nils]]) := fun K => rfl
  have st : kstore 3 (H1 ++ [[.nils, .nils, .nils]]) (.ptr H1.length 0 3) (.agg c) = some H2 := by rw [← hH2]; exact var_at rfl cl cc
  have q2 := kloadA_at (n := 3) V2 cl
  have Z2 := (f1.trans f2).blk Z0 no_nil
  have hl2 := (List.getElem?_eq_some_iff.1 Z2).1
  unfold newWorldM
  cases hin : inB n 1 5
  · rw [hin] at t1
    rw [if_neg (by decide)]
    have hs : H2.set 0 zW = H2 := by
      rw [List.getElem?_eq_some_iff] at Z2
      obtain ⟨h1, h2⟩ := Z2
      rw [← h2]; exact List.set_getElem_self h1
    have s3 : kstore 6 H2 (.ptr 0 0 6) (.agg zW) = some H2 := by rw [kstoreA_at (n := 6) Z2 rfl rfl rfl, hs]
    have q3 := kloadA_at (n := 6) Z2 rfl
    obtain ⟨c', bl, e1, e2⟩ := goodWorld.finT (t := false) (by omega) (world_none (H := H2)) List.nodup_nil b
    refine ⟨c', bl, S.impl_NewWorld.gives (k := 0) ?_, e2⟩
    have ge : gfill (fun i => ([(0, 3), (3, 1), (4, 1), (5, 1)] : List (Nat × Nat))[i]?) zW [] = some zW := rfl
    unfold S.impl_NewWorld.run S.impl_NewWorld.n0
    rw [hal]
    simp [t1, al, st, ge, s3, q3, e1, -kN_eq, -kF_OO, -kalloc_eq, -kstore_ptr, -kloadA_ptr]
  · rw [hin] at t1
    rw [if_pos rfl]
    have hch : newChainM n = chainM n.toNat := by unfold newChainM; rw [hin]; rfl
    rw [hch] at r1
    obtain ⟨c1, c2, c3, rfl⟩ := three cl
    obtain ⟨H3, hH3⟩ : ∃ H3, H2 ++ [[c1, c2, c3, .nils, .nils, .nils]] = H3 := ⟨_, rfl⟩
    have f3 : Fr [] H2 H3 := by rw [← hH3]; exact .app
    have W3 : H3[H2.length]? = some [c1, c2, c3, .nils, .nils, .nils] := by rw [← hH3]; simp
    have c4 : c1.isCell = true ∧ c2.isCell = true ∧ c3.isCell = true := by simpa [and_assoc] using cc
    have gw : gfill (fun i => ([(0, 3), (3, 1), (4, 1), (5, 1)] : List (Nat × Nat))[i]?) zW [(0, .agg [c1, c2, c3])] = some [c1, c2, c3, .nils, .nils, .nils] := by simp [gfill, splice, c4]
    have al3 : ∀ {Q : Type} (K : GV → Heap → Option Q), kalloc zW H2 K = K (.ptr H2.length 0 6) (H2 ++ [zW]) := fun K => rfl
    have st3 : kstore 6 (H2 ++ [zW]) (.ptr H2.length 0 6) (.agg [c1, c2, c3, .nils, .nils, .nils]) = some H3 := by rw [← hH3]; exact var_at rfl rfl (by simp [c4])
    have f13 := f2.trans f3
    refine Exists.elim (loop_inv (n := 2) (T := Heap) (Inv := WI (chainM n.toNat) [c1, c2, c3] Rc H2.length) (f := fun r j H => fun (G : GX → GV → GV → GV → Heap → Option (GV × List (List GV))) => S.impl_NewWorld.l8 3 G r (.ptr 0 0 6) (.bool false) (.ptr H2.length 0 6) (.int .i64 (j : Int)) H) (A := fun H => fun G => G (.ext 0) (.ptr 0 0 6) (.bool false) (.ptr H2.length 0 6) H) (s := H3) ?_ ?_ ⟨f3.blk Z2 no_nil, goodChain.keep r1 f13 (fun _ _ => no_nil), .nils, [], W3, Or.inl ⟨rfl, rfl, Or.inr rfl⟩, List.nodup_nil, fun i hi => (by cases hi)⟩ (m := 3) (by omega)) ?_
    · rintro j r H hj hi
      obtain ⟨vC, k, G1, G2, v', G4, G5, e1, e2, e3, e4, e5, e6, e7, e8, e9⟩ := hi.step rfl (by omega) (fun i hi => by have := b1 i hi; omega) hj
      refine ⟨G5, funext fun G => ?_, e9⟩
      have kj := kadd1 (n := j) (by omega)
      have g1 : kbin .lss (.int .i64 (j : Int)) (.int .i64 2) = some (.bool true) := by rw [kbin_lss, decide_eq_true (by omega)]
      have ax : ∀ {Q : Type} (K : GV → Heap → Option Q), kalloc zCl G1 K = K (.ptr G1.length 0 9) (G1 ++ [zCl]) := fun K => rfl
      have kx : ∀ {Q : Type} (K : GV → Heap → Option Q), kbs 1 9 k G2 K = K (.sl G2.length 0 1 1 9) (G2 ++ [k]) := fun K => rfl
      simp only [S.impl_NewWorld.l8]
      simp [g1, e2, ax, e3, e4, e5, e6, kx, e7, e8, kj, -kF_OO, -kload1_ptr, -kloadA_ptr, -kstore_ptr, -kalloc_eq, -kbin_lss, -kbin_add, -Int.natCast_add]
    · rintro r H _
      funext G
      have g1 : kbin .lss (.int .i64 ((2 : Nat) : Int)) (.int .i64 2) = some (.bool false) := by rw [kbin_lss, decide_eq_false (by omega)]
      simp only [S.impl_NewWorld.l8]
      simp only [S.impl_NewWorld.n9, g1]
      simp
    · rintro H ⟨k0, I0, hc, vC, R, Ip, hk, nd, hlo⟩
      have vc := cell_of hk
      have hl := (List.getElem?_eq_some_iff.1 I0).1
      have qp := kloadA_at (n := 6) Ip rfl
      have s0 := kstoreA_at (n := 6) I0 rfl (c' := [c1, c2, c3, vC, .nils, .nils]) rfl (by simp [c4, vc.2])
      have q0 := kloadA_at (n := 6) (List.getElem?_set_self (a := [c1, c2, c3, vC, GV.nils, GV.nils]) hl) rfl
      have fs : Fr [0] H (H.set 0 [c1, c2, c3, vC, .nils, .nils]) := .set (by simp)
      have wr := world_rel (goodChain.keep hc fs (fun i hi h => by rw [List.mem_singleton] at h; have := b1 i hi; omega)) (goodClientS.keep hk fs (fun i hi h => by rw [List.mem_singleton] at h; have := hlo i hi; omega))
      have ndw : (Rc ++ R).Nodup := by
        rw [List.nodup_append]
        exact ⟨n1, nd, fun i hi k hk e => by have := b1 i hi; have := hlo k hk; omega⟩
      obtain ⟨c', bl, e1, e2⟩ := goodWorld.finT (t := true) (by omega) wr ndw b
      refine ⟨c', bl, S.impl_NewWorld.gives (k := 3) ?_, e2⟩
      have a1 := fun G => congrFun k0 G
      simp only [show ((0 : Nat) : Int) = 0 from rfl] at a1
      simp only [List.cons_append, List.nil_append] at qp e1
      unfold S.impl_NewWorld.run S.impl_NewWorld.n0
      rw [hal]
      simp [t1, al, st, q2, gw, al3, st3, a1, qp, s0, q0, e1, -kN_eq, -kF_OO, -kalloc_eq, -kstore_ptr, -kloadA_ptr]
end Go.Proofs.Ytlbnioapepelnaa.G

namespace Go.Proofs.Ytlbnioapepelnaa.G
open Go.RowKit
set_option linter.unusedVariables false
set_option linter.unusedSimpArgs false
theorem client_frz {d : Nat} {h : Heap} : ∀ c x R, rClient h c x R → Frz (d + 3) h c (mClient false x) :=
  RSeq.frz (flat_frz (fun _ => rfl)) (RSeq.frz (RSl.frz' (RFl.good (es := 1) (mk := cs) (fun _ => rfl) (fun _ => rfl)) (flat_frz (fun _ => rfl))) (RSeq.frz (flat_frz (fun _ => rfl)) (RSeq.frz rGrid_frz (RSeq.frz (flat_frz (fun _ => rfl)) (RSeq.frz (RSeq.frz (flat_frz (fun _ => rfl)) (RSl.frz' (RFl.good (es := 1) (mk := ci) (fun _ => rfl) (fun _ => rfl)) (flat_frz (fun _ => rfl)))) (flat_frz (fun _ => rfl)))))))
theorem gfill_two {z c0 c1 : List GV} {n : Nat} (hz : z.length = n) (h0 : c0.length = n) (h1 : c1.length = n) : gfill (fun i => some (i * n, n)) (zeros z 2) [(0, .agg c0), (1, .agg c1)] = some (c0 ++ c1) := by
  have e : zeros z 2 = z ++ z := by show z ++ (z ++ []) = _; rw [List.append_nil]
  have s0 : splice (z ++ z) 0 c0 = c0 ++ z := by
    unfold splice
    rw [List.take_zero, List.nil_append, Nat.zero_add, h0, List.drop_append, List.drop_of_length_le (by omega), hz, Nat.sub_self, List.drop_zero, List.nil_append]
  have s1 : splice (c0 ++ z) n c1 = c0 ++ c1 := by
    unfold splice
    rw [List.take_append, List.take_of_length_le (by omega), List.drop_of_length_le (by simp; omega), h0, Nat.sub_self, List.take_zero, List.append_nil, List.append_nil]
  rw [e]
  unfold gfill
  simp only [cells_agg, Nat.zero_mul]
  rw [if_pos ⟨h0, by simp; omega⟩, s0]
  unfold gfill
  simp only [cells_agg, Nat.one_mul]
  rw [if_pos ⟨h1, by simp; omega⟩, s1]
  rfl
theorem spec_NewWorld_spec (n : Int) : NN fn.spec_NewWorld [.int .i64 n] = some (.tup [.agg (mWorld false (newWorldM n).1), .bool (newWorldM n).2]) := by
  obtain ⟨H0, hH0⟩ : ∃ H0 : Heap, [zW] = H0 := ⟨_, rfl⟩
  have l0 : H0.length = 1 := by rw [← hH0]; rfl
  have Z0 : H0[0]? = some zW := by rw [← hH0]; rfl
  have hal : ∀ {Q : Type} (K : GV → Heap → Option Q), kalloc zW [] K = K (.ptr 0 0 6) H0 := fun K => by rw [← hH0]; rfl
  have t1 : kN NN fn.spec_NewChain [.int .i64 n] H0 = some (.tup [.agg (mChain false (newChainM n)), .bool (inB n 1 5)]) := kN_at (xs := [.int .i64 n]) (by simp) (spec_NewChain_spec n)
  have cc : (mChain false (newChainM n)).all GV.isCell = true := by simp
  refine S.spec_NewWorld.gives (k := 0) ?_
  unfold newWorldM
  obtain ⟨a, ha⟩ : ∃ a, newChainM n = a := ⟨_, rfl⟩
  rw [ha] at t1 cc
  obtain ⟨c, hc⟩ : ∃ c, mChain false a = c := ⟨_, rfl⟩
  have cl : c.length = 3 := by rw [← hc]; rfl
  have cf : ∀ {d : Nat} {h : Heap}, Frz (d + 1) h c c := fun {d h} => by rw [← hc]; exact .cons frz_fzl (.cons frz_fzl (.cons frz_fzl .nil))
  rw [hc] at t1 cc
  obtain ⟨H1, hH1⟩ : ∃ H1, H0 ++ [c] = H1 := ⟨_, rfl⟩
  have f1 : Fr [] H0 H1 := by rw [← hH1]; exact .app
  have l1 : H1.length = 2 := by rw [← hH1]; simp [l0]
  have V1 : H1[1]? = some c := by rw [← hH1, ← l0]; simp
  have al : ∀ {Q : Type} (K : GV → Heap → Option Q), kalloc [.nils, .nils, .nils] H0 K = K (.ptr 1 0 3) (H0 ++ [[.nils, .nils, .nils]]) := fun K => by rw [← l0]; rfl
  have st : kstore 3 (H0 ++ [[.nils, .nils, .nils]]) (.ptr 1 0 3) (.agg c) = some H1 := by
    have := var_at (H := H0) (z := [.nils, .nils, .nils]) (c := c) (n := 3) rfl cl cc
    rw [l0, hH1] at this; exact this
  have q1 := kloadA_at (n := 3) V1 cl
  have Z1 := f1.blk Z0 no_nil
  cases hin : inB n 1 5
  · rw [hin] at t1
    rw [if_neg (by decide)]
    have hs : H1.set 0 zW = H1 := by
      rw [List.getElem?_eq_some_iff] at Z1
      obtain ⟨h1, h2⟩ := Z1
      rw [← h2]; exact List.set_getElem_self h1
    have s3 : kstore 6 H1 (.ptr 0 0 6) (.agg zW) = some H1 := by rw [kstoreA_at (n := 6) Z1 rfl rfl rfl, hs]
    have q3 := kloadA_at (n := 6) Z1 rfl
    have e1 : finN (.tup [.agg zW, .bool false]) H1 = some (.tup [.agg (mWorld false world0), .bool false]) := rfl
    have ge : gfill (fun i => ([(0, 3), (3, 1), (4, 1), (5, 1)] : List (Nat × Nat))[i]?) zW [] = some zW := rfl
    unfold S.spec_NewWorld.run S.spec_NewWorld.n0
    rw [hal]
    simp [t1, al, st, ge, s3, q3, e1, -kN_eq, -kF_OO, -kalloc_eq, -kstore_ptr, -kloadA_ptr]
  · rw [hin] at t1
    rw [if_pos rfl]
    have hch : chainM n.toNat = a := by rw [← ha]; unfold newChainM; rw [hin]; rfl
    obtain ⟨x0, R0, H2, t2, r2, n2, b2, f2, l2⟩ := fresh_agg goodClient (f := fn.spec_l19New) (args := [.int .i64 0]) (xs := [.int .i64 0]) (H := H1) (x := clientM 0) (by simp) (spec_l19New_spec 0 H1.length)
    obtain ⟨x1, R1, H3, t3, r3, n3, b3, f3, l3⟩ := fresh_agg goodClient (f := fn.spec_l19New) (args := [.int .i64 1]) (xs := [.int .i64 1]) (H := H2) (x := clientM 1) (by simp) (spec_l19New_spec 1 H2.length)
    have gf := gfill_two (z := zCl) (n := 9) rfl (goodClient.len r2) (goodClient.len r3)
    obtain ⟨H4, hH4⟩ : ∃ H4, H3 ++ [x0 ++ x1] = H4 := ⟨_, rfl⟩
    have f4 : Fr [] H3 H4 := by rw [← hH4]; exact .app
    have kx : ∀ {Q : Type} (K : GV → Heap → Option Q), kbs 2 9 (x0 ++ x1) H3 K = K (.sl H3.length 0 2 2 9) H4 := fun K => by rw [← hH4]; rfl
    have B4 : H4[H3.length]? = some (x0 ++ x1) := by rw [← hH4]; simp
    obtain ⟨c1, c2, c3, rfl⟩ := three cl
    have c4 : c1.isCell = true ∧ c2.isCell = true ∧ c3.isCell = true := by simpa [and_assoc] using cc
    have gw : gfill (fun i => ([(0, 3), (3, 1), (4, 1), (5, 1)] : List (Nat × Nat))[i]?) zW [(0, .agg [c1, c2, c3]), (1, .sl H3.length 0 2 2 9)] = some [c1, c2, c3, .sl H3.length 0 2 2 9, .nils, .nils] := by simp [gfill, splice, c4]
    have Z4 := (f2.trans (f3.trans f4)).blk Z1 no_nil
    have hl4 := (List.getElem?_eq_some_iff.1 Z4).1
    have s4 := kstoreA_at (n := 6) Z4 rfl (c' := [c1, c2, c3, .sl H3.length 0 2 2 9, .nils, .nils]) rfl (by simp [c4])
    have fs : Fr [0] H4 (H4.set 0 [c1, c2, c3, .sl H3.length 0 2 2 9, .nils, .nils]) := .set (by simp)
    have q4 := kloadA_at (n := 6) (List.getElem?_set_self (a := [c1, c2, c3, GV.sl H3.length 0 2 2 9, GV.nils, GV.nils]) hl4) rfl
    obtain ⟨H5, hH5⟩ : ∃ H5, H4.set 0 [c1, c2, c3, .sl H3.length 0 2 2 9, .nils, .nils] = H5 := ⟨_, rfl⟩
    rw [hH5] at s4 fs q4
    have hl3 : 2 ≤ H3.length := by omega
    have rk : rClientS H5 [.sl H3.length 0 2 2 9] [clientM 0, clientM 1] (H3.length :: (R0 ++ R1)) :=
      Or.inr ⟨H3.length, [x0, x1], [R0, R1], rfl, by rw [List.flatten_cons, List.flatten_cons, List.flatten_nil, List.append_nil]; exact fs.blk B4 (by rw [List.mem_singleton]; omega), .cons (goodClient.keep (goodClient.keep r2 (f3.trans f4) (fun _ _ => no_nil)) fs (fun i hi h => by rw [List.mem_singleton] at h; have := b2 i hi; omega)) (.cons (goodClient.keep (goodClient.keep r3 f4 (fun _ _ => no_nil)) fs (fun i hi h => by rw [List.mem_singleton] at h; have := b3 i hi; omega)) .nil), by simp⟩
    have fk := RSl.frz' goodClient (client_frz (d := 3)) _ _ _ rk
    have e1 : finN (.tup [.agg [c1, c2, c3, .sl H3.length 0 2 2 9, .nils, .nils], .bool true]) H5 = some (.tup [.agg (mWorld false (worldM n.toNat)), .bool true]) := by
      have e : mWorld false (worldM n.toNat) = [c1, c2, c3] ++ ([fzl false 9 (mClient false) [clientM 0, clientM 1]] ++ [mt, mt]) := by
        rw [← hc, ← hch]; rfl
      rw [e]
      exact finN_of (frz_tup (.cons (frz_agg (Frz.append cf (Frz.append fk (.cons frz_nils (.cons frz_nils .nil))))) (.cons frz_bool .nil)))
    unfold S.spec_NewWorld.run S.spec_NewWorld.n0
    rw [hal]
    simp [t1, al, st, q1, t2, t3, gf, kx, gw, s4, q4, e1, -kN_eq, -kF_OO, -kalloc_eq, -kstore_ptr, -kloadA_ptr]
theorem gridM_ok (c n : Nat) (hc : c ≤ 60) (hn : n ≤ 30) : okGrid (gridM c n) := by
  refine ⟨?_, fun row hr => ?_⟩
  · show (List.replicate n (rowM c)).length ≤ 1048576
    rw [List.length_replicate]; omega
  · have hr : row ∈ List.replicate n (rowM c) := hr
    rw [List.mem_replicate] at hr
    rw [hr.2]
    show (rowM c).length ≤ 1048576
    rw [rowM_len]; omega
theorem clientM_ok (i : Int) : okClient (clientM i) := ⟨⟨by simp [clientM], by simp [clientM]⟩, gridM_ok 20 5 (by omega) (by omega), (show (0 : Nat) ≤ 1048576 by omega)⟩
theorem chainM_ok (m : Nat) (hm : m ≤ 5) : okChain (chainM m) := by
  refine ⟨⟨?_, fun x hx => ?_⟩, ⟨?_, fun x hx => ?_⟩, ⟨?_, fun x hx => ?_⟩⟩
  · show (List.replicate m _).length ≤ _
    rw [List.length_replicate]; omega
  · have hx : x ∈ List.replicate m (([], 0) : List ByteArray × Int) := hx
    rw [List.mem_replicate] at hx
    rw [hx.2]
    exact ⟨by simp, by simp⟩
  · show (List.replicate (m - 1) _).length ≤ _
    rw [List.length_replicate]; omega
  · have hx : x ∈ List.replicate (m - 1) ([] : List ByteArray) := hx
    rw [List.mem_replicate] at hx
    rw [hx.2]
    exact ⟨by simp, by simp⟩
  · show (List.replicate (m - 1) _).length ≤ _
    rw [List.length_replicate]; omega
  · have hx : x ∈ List.replicate (m - 1) ([] : List Int) := hx
    rw [List.mem_replicate] at hx
    rw [hx.2]
    exact (show (0 : Nat) ≤ 1048576 by omega)
theorem newWorldM_ok (n : Int) : okWorld (newWorldM n).1 := by
  have e0 : okStringS [] := ⟨by simp, by simp⟩
  have e1 : okDatagramS [] := ⟨by simp, by simp⟩
  unfold newWorldM
  cases hin : inB n 1 5
  · rw [if_neg (by decide)]
    exact ⟨⟨⟨by simp [world0, chain0], by simp [world0, chain0]⟩, ⟨by simp [world0, chain0], by simp [world0, chain0]⟩, ⟨by simp [world0, chain0], by simp [world0, chain0]⟩⟩, ⟨by simp [world0], by simp [world0]⟩, e0, e1⟩
  · rw [if_pos rfl]
    rw [inB_iff] at hin
    refine ⟨chainM_ok n.toNat (by omega), ⟨by simp [worldM], fun x hx => ?_⟩, e0, e1⟩
    simp only [worldM, List.mem_cons, List.not_mem_nil, or_false] at hx
    rcases hx with rfl | rfl <;> exact clientM_ok _
theorem clientM_cnt (i : Int) : 1 + (cStringS (clientM i).2.1) + 1 + 1 + (cCellSS (clientM i).2.2.2.1.2) + 1 + 1 + (cInt64S (clientM i).2.2.2.2.2.1.2) + 1 ≤ 2000 := by
  have h1 : cStringS (clientM i).2.1 = 0 := rfl
  have h2 : cInt64S (clientM i).2.2.2.2.2.1.2 = 0 := rfl
  have h4 : cCellS (rowM 20) ≤ 20 * 7 := cntL_bound (by rw [rowM_len]; omega) fun x hx => Nat.le_refl _
  have h3 : cCellSS (clientM i).2.2.2.1.2 ≤ 5 * 140 := cntL_bound (M := 5) (B := 140) (Nat.le_of_eq List.length_replicate) fun x hx => by
    have hx : x ∈ List.replicate 5 (rowM 20) := hx
    rw [List.mem_replicate] at hx
    rw [hx.2]; exact h4
  omega
theorem newWorldM_cnt (n : Int) : cWorld (newWorldM n).1 ≤ 1000000 := by
  unfold newWorldM
  cases hin : inB n 1 5
  · rw [if_neg (by decide)]
    exact (show (0 : Nat) ≤ 1000000 by omega)
  · rw [if_pos rfl]
    rw [inB_iff] at hin
    obtain ⟨m, hm⟩ : ∃ m, n.toNat = m := ⟨_, rfl⟩
    have h1 : cServerS (chainM m).1 ≤ 5 * 1 := cntL_bound (by show (List.replicate m _).length ≤ _; rw [List.length_replicate]; omega) fun x hx => by
      have hx : x ∈ List.replicate m (([], 0) : List ByteArray × Int) := hx
      rw [List.mem_replicate] at hx
      rw [hx.2]; exact Nat.le_refl 1
    have h2 : cStringSS (chainM m).2.1 ≤ 5 * 0 := cntL_bound (by show (List.replicate (m - 1) _).length ≤ _; rw [List.length_replicate]; omega) fun x hx => by
      have hx : x ∈ List.replicate (m - 1) ([] : List ByteArray) := hx
      rw [List.mem_replicate] at hx
      rw [hx.2]; exact Nat.le_refl 0
    have h3 : cInt64SS (chainM m).2.2 ≤ 5 * 0 := cntL_bound (by show (List.replicate (m - 1) _).length ≤ _; rw [List.length_replicate]; omega) fun x hx => by
      have hx : x ∈ List.replicate (m - 1) ([] : List Int) := hx
      rw [List.mem_replicate] at hx
      rw [hx.2]; exact Nat.le_refl 0
    have h4 : cClientS [clientM 0, clientM 1] ≤ 2 * 2000 := cntL_bound (Nat.le_refl 2) fun x hx => by
      simp only [List.mem_cons, List.not_mem_nil, or_false] at hx
      rcases hx with rfl | rfl <;> exact clientM_cnt _
    rw [hm]
    show cServerS (chainM m).1 + cStringSS (chainM m).2.1 + cInt64SS (chainM m).2.2 + cClientS [clientM 0, clientM 1] + 0 + 0 ≤ 1000000
    omega
end Go.Proofs.Ytlbnioapepelnaa.G

namespace Go.Proofs.Ytlbnioapepelnaa.G
open Go.RowKit
set_option linter.unusedVariables false
set_option maxRecDepth 100000
noncomputable section
variable {R : Type} (k : Nat)
/-! laws_FnExactNewWorld -/
namespace S.laws_FnExactNewWorld
noncomputable def c0 : Code := bodyOf Try.f7
noncomputable def c1 : Code := cR c0
noncomputable def c2 : Code := cR c1
noncomputable def c3 : Code := cR c2
noncomputable def c4 : Code := cR c3
noncomputable def c5 : Code := cR c4
noncomputable def c6 : Code := cR c5
noncomputable def c7 : Code := cR c6
noncomputable def c8 : Code := cR c7
noncomputable def c9 : Code := cR c8
noncomputable def c10 : Code := cR c9
noncomputable def c11 : Code := cR c10
noncomputable def c12 : Code := cR c11
@[simp] def n12 {R : Type} (k : Nat) (G : KT1 R) (v2 v5 v7 : GV) (h : Heap) : Option R := (kloadA 6 h v5).bind fun v55 => (kN NN fn.laws_heldWorld [v55, (.int .i64 1)] h).bind fun v57 => (kbin .lss v57 (.int .i64 0)).bind fun v59 => kcond v59 (G .ret (.bool false) h) ((kbin .neq v57 v7).bind fun v62 => kcond v62 (G .ret (.bool false) h) (G .ret (.bool true) h))
theorem n12_eq (G : KT1 R) (σ : GS) (h : Heap) : KC k 63 c12 σ h (fun x σ h => G x (σ 2) h) = n12 k G (σ 2) (σ 5) (σ 7) h := by kernel_rfl
noncomputable def c13 : Code := cL c11
noncomputable def c14 : Code := cR c13
@[simp] def n14 {R : Type} (k : Nat) (G : KT3 R) (v2 v5 v7 v54 : GV) (h : Heap) : Option R := kcond v54 (G .ret (.bool false) v5 v7 h) (G .nrm v2 v5 v7 h)
theorem n14_eq (G : KT3 R) (σ : GS) (h : Heap) : KC k 63 c14 σ h (fun x σ h => G x (σ 2) (σ 5) (σ 7) h) = n14 k G (σ 2) (σ 5) (σ 7) (σ 54) h := by kernel_rfl
noncomputable def c15 : Code := cL c13
noncomputable def o15 : Array Oper := cO c15
@[simp] def g15_2 {R : Type} (k : Nat) (G : KT4 R) (v2 v5 v7 v50 v53 : GV) (h : Heap) : Option R := (kpick v50 (.bool true) v53).bind fun v54 => G .nrm v2 v5 v7 v54 h
theorem g15_2_eq (G : KT4 R) (σ : GS) (h : Heap) : kgroups PP cfg NN HH 63 o15 [(none, [8])] σ h (fun σ h => G .nrm (σ 2) (σ 5) (σ 7) (σ 54) h) = g15_2 k G (σ 2) (σ 5) (σ 7) (σ 50) (σ 53) h := by kernel_rfl
@[simp] def g15_1 (G : KT4 R) (v2 v4 v5 v7 v10 v50 : GV) (h : Heap) : Option R := bif tr false v50 then (keqB .neq v10 v4).bind fun v53 => g15_2 k G v2 v5 v7 v50 v53 h else g15_2 k G v2 v5 v7 v50 .un h
theorem g15_1_eq (G : KT4 R) (σ : GS) (h : Heap) : kgroups PP cfg NN HH 63 o15 [(some (4, false), [5, 6, 7]), (none, [8])] σ h (fun σ h => G .nrm (σ 2) (σ 5) (σ 7) (σ 54) h) = g15_1 k G (σ 2) (σ 4) (σ 5) (σ 7) (σ 10) (σ 50) h := (kgroups_cons (fun σ h => g15_2_eq k G σ h)).trans (by kernel_rfl)
@[simp] def g15_0 (G : KT4 R) (v2 v3 v4 v5 v7 v9 v10 : GV) (h : Heap) : Option R := (kloadA 6 h v9).bind fun v46 => (kloadA 6 h v3).bind fun v47 => (kN NN fn.laws_eqWorld [v46, v47] h).bind fun v48 => (kun .not v48).bind fun v49 => g15_1 k G v2 v4 v5 v7 v10 v49 h
theorem g15_0_eq (G : KT4 R) (σ : GS) (h : Heap) : kgroups PP cfg NN HH 63 o15 [(none, [0, 1, 2, 3, 4]), (some (4, false), [5, 6, 7]), (none, [8])] σ h (fun σ h => G .nrm (σ 2) (σ 5) (σ 7) (σ 54) h) = g15_0 k G (σ 2) (σ 3) (σ 4) (σ 5) (σ 7) (σ 9) (σ 10) h := (kgroups_cons (fun σ h => g15_1_eq k G σ h)).trans (by kernel_rfl)
@[simp] def n15 (G : KT4 R) (v2 v3 v4 v5 v7 v9 v10 : GV) (h : Heap) : Option R := g15_0 k G v2 v3 v4 v5 v7 v9 v10 h
theorem n15_eq (G : KT4 R) (σ : GS) (h : Heap) : KC k 63 c15 σ h (fun x σ h => G x (σ 2) (σ 5) (σ 7) (σ 54) h) = n15 k G (σ 2) (σ 3) (σ 4) (σ 5) (σ 7) (σ 9) (σ 10) h := (kregion_eq (id := 14) (draw := false) (ops := o15) (gs := [(none, [0, 1, 2, 3, 4]), (some (4, false), [5, 6, 7]), (none, [8])]) (by kernel_rfl) (by kernel_rfl) (by kernel_rfl)).trans (g15_0_eq k G σ h)
@[simp] def n13 (G : KT3 R) (v2 v3 v4 v5 v7 v9 v10 : GV) (h : Heap) : Option R := n15 k (fun x v2 v5 v7 v54 h => kx x (n14 k G v2 v5 v7 v54 h) (G x v2 v5 v7 h)) v2 v3 v4 v5 v7 v9 v10 h
theorem n13_eq (G : KT3 R) (σ : GS) (h : Heap) : KC k 63 c13 σ h (fun x σ h => G x (σ 2) (σ 5) (σ 7) h) = n13 k G (σ 2) (σ 3) (σ 4) (σ 5) (σ 7) (σ 9) (σ 10) h := (kseq (b := c14) rfl (fun σ h => n14_eq k G σ h)).trans (n15_eq k (fun x v2 v5 v7 v54 h => kx x (n14 k G v2 v5 v7 v54 h) (G x v2 v5 v7 h)) σ h)
@[simp] def n11 (G : KT1 R) (v2 v3 v4 v5 v7 v9 v10 : GV) (h : Heap) : Option R := n13 k (fun x v2 v5 v7 h => kx x (n12 k G v2 v5 v7 h) (G x v2 h)) v2 v3 v4 v5 v7 v9 v10 h
theorem n11_eq (G : KT1 R) (σ : GS) (h : Heap) : KC k 63 c11 σ h (fun x σ h => G x (σ 2) h) = n11 k G (σ 2) (σ 3) (σ 4) (σ 5) (σ 7) (σ 9) (σ 10) h := (kseq (b := c12) rfl (fun σ h => n12_eq k G σ h)).trans (n13_eq k (fun x v2 v5 v7 h => kx x (n12 k G v2 v5 v7 h) (G x v2 h)) σ h)
noncomputable def c16 : Code := cL c10
@[simp] def n10 (G : KT1 R) (v0 v2 v3 v4 v5 v7 : GV) (h : Heap) : Option R := (kF false HH fn.impl_NewWorld [v0] h).bind fun r => kr r fun v43 h => (kxt 0 v43).bind fun v44 => (kxt 1 v43).bind fun v45 => kalloc [.nils, .nils, .nils, .nils, .nils, .nils] h fun v9 h => (kstore 6 h v9 v44).bind fun h => n11 k G v2 v3 v4 v5 v7 v9 v45 h
theorem n10_eq (G : KT1 R) (σ : GS) (h : Heap) : KC k 63 c10 σ h (fun x σ h => G x (σ 2) h) = n10 k G (σ 0) (σ 2) (σ 3) (σ 4) (σ 5) (σ 7) h := (kseq (a := c16) (b := c11) rfl (fun σ h => n11_eq k G σ h)).trans (by kernel_rfl)
noncomputable def c17 : Code := cL c9
@[simp] def n9 (G : KT1 R) (v0 v2 v3 v4 v5 v7 v8 : GV) (h : Heap) : Option R := (kbin .neq v8 v7).bind fun v40 => kcond v40 (G .ret (.bool false) h) (n10 k G v0 v2 v3 v4 v5 v7 h)
theorem n9_eq (G : KT1 R) (σ : GS) (h : Heap) : KC k 63 c9 σ h (fun x σ h => G x (σ 2) h) = n9 k G (σ 0) (σ 2) (σ 3) (σ 4) (σ 5) (σ 7) (σ 8) h := (kseq (a := c17) (b := c10) rfl (fun σ h => n10_eq k G σ h)).trans (by kernel_rfl)
noncomputable def c18 : Code := cL c8
@[simp] def n8 (G : KT1 R) (v0 v2 v3 v4 v5 v7 v8 : GV) (h : Heap) : Option R := (kbin .lss v8 (.int .i64 0)).bind fun v37 => kcond v37 (G .ret (.bool false) h) (n9 k G v0 v2 v3 v4 v5 v7 v8 h)
theorem n8_eq (G : KT1 R) (σ : GS) (h : Heap) : KC k 63 c8 σ h (fun x σ h => G x (σ 2) h) = n8 k G (σ 0) (σ 2) (σ 3) (σ 4) (σ 5) (σ 7) (σ 8) h := (kseq (a := c18) (b := c9) rfl (fun σ h => n9_eq k G σ h)).trans (by kernel_rfl)
noncomputable def c19 : Code := cL c7
@[simp] def n7 (G : KT1 R) (v0 v2 v3 v4 v5 v7 v8 : GV) (h : Heap) : Option R := (kloadA 6 h v5).bind fun v33 => (kN NN fn.laws_heldWorld [v33, v8] h).bind fun v35 => n8 k G v0 v2 v3 v4 v5 v7 v35 h
theorem n7_eq (G : KT1 R) (σ : GS) (h : Heap) : KC k 63 c7 σ h (fun x σ h => G x (σ 2) h) = n7 k G (σ 0) (σ 2) (σ 3) (σ 4) (σ 5) (σ 7) (σ 8) h := (kseq (a := c19) (b := c8) rfl (fun σ h => n8_eq k G σ h)).trans (by kernel_rfl)
noncomputable def c20 : Code := cL c6
@[simp] def n6 (G : KT1 R) (v0 v2 v3 v4 v5 v7 : GV) (h : Heap) : Option R := n7 k G v0 v2 v3 v4 v5 v7 (.int .i64 1) h
theorem n6_eq (G : KT1 R) (σ : GS) (h : Heap) : KC k 63 c6 σ h (fun x σ h => G x (σ 2) h) = n6 k G (σ 0) (σ 2) (σ 3) (σ 4) (σ 5) (σ 7) h := (kseq (a := c20) (b := c7) rfl (fun σ h => n7_eq k G σ h)).trans (by kernel_rfl)
noncomputable def c21 : Code := cL c5
@[simp] def n5 (G : KT1 R) (v0 v2 v3 v4 v5 v7 : GV) (h : Heap) : Option R := (kloadA 6 h v5).bind fun v30 => (HH fn.laws_markWorld [v30, v7] h).bind fun r => kr r fun v32 h => n6 k G v0 v2 v3 v4 v5 v32 h
theorem n5_eq (G : KT1 R) (σ : GS) (h : Heap) : KC k 63 c5 σ h (fun x σ h => G x (σ 2) h) = n5 k G (σ 0) (σ 2) (σ 3) (σ 4) (σ 5) (σ 7) h := (kseq (a := c21) (b := c6) rfl (fun σ h => n6_eq k G σ h)).trans (by kernel_rfl)
noncomputable def c22 : Code := cL c4
@[simp] def n4 (G : KT1 R) (v0 v2 v3 v4 v5 : GV) (h : Heap) : Option R := n5 k G v0 v2 v3 v4 v5 (.int .i64 1) h
theorem n4_eq (G : KT1 R) (σ : GS) (h : Heap) : KC k 63 c4 σ h (fun x σ h => G x (σ 2) h) = n4 k G (σ 0) (σ 2) (σ 3) (σ 4) (σ 5) h := (kseq (a := c22) (b := c5) rfl (fun σ h => n5_eq k G σ h)).trans (by kernel_rfl)
noncomputable def c23 : Code := cL c3
noncomputable def c24 : Code := cR c23
@[simp] def n24 {R : Type} (k : Nat) (G : KT5 R) (v0 v2 v3 v4 v5 v29 : GV) (h : Heap) : Option R := kcond v29 (G .ret v0 (.bool false) v3 v4 v5 h) (G .nrm v0 v2 v3 v4 v5 h)
theorem n24_eq (G : KT5 R) (σ : GS) (h : Heap) : KC k 63 c24 σ h (fun x σ h => G x (σ 0) (σ 2) (σ 3) (σ 4) (σ 5) h) = n24 k G (σ 0) (σ 2) (σ 3) (σ 4) (σ 5) (σ 29) h := by kernel_rfl
noncomputable def c25 : Code := cL c23
noncomputable def o25 : Array Oper := cO c25
@[simp] def g25_2 {R : Type} (k : Nat) (G : KT6 R) (v0 v2 v3 v4 v5 v25 v28 : GV) (h : Heap) : Option R := (kpick v25 (.bool true) v28).bind fun v29 => G .nrm v0 v2 v3 v4 v5 v29 h
theorem g25_2_eq (G : KT6 R) (σ : GS) (h : Heap) : kgroups PP cfg NN HH 63 o25 [(none, [8])] σ h (fun σ h => G .nrm (σ 0) (σ 2) (σ 3) (σ 4) (σ 5) (σ 29) h) = g25_2 k G (σ 0) (σ 2) (σ 3) (σ 4) (σ 5) (σ 25) (σ 28) h := by kernel_rfl
@[simp] def g25_1 (G : KT6 R) (v0 v2 v3 v4 v5 v6 v25 : GV) (h : Heap) : Option R := bif tr false v25 then (keqB .neq v6 v4).bind fun v28 => g25_2 k G v0 v2 v3 v4 v5 v25 v28 h else g25_2 k G v0 v2 v3 v4 v5 v25 .un h
theorem g25_1_eq (G : KT6 R) (σ : GS) (h : Heap) : kgroups PP cfg NN HH 63 o25 [(some (4, false), [5, 6, 7]), (none, [8])] σ h (fun σ h => G .nrm (σ 0) (σ 2) (σ 3) (σ 4) (σ 5) (σ 29) h) = g25_1 k G (σ 0) (σ 2) (σ 3) (σ 4) (σ 5) (σ 6) (σ 25) h := (kgroups_cons (fun σ h => g25_2_eq k G σ h)).trans (by kernel_rfl)
@[simp] def g25_0 (G : KT6 R) (v0 v2 v3 v4 v5 v6 : GV) (h : Heap) : Option R := (kloadA 6 h v5).bind fun v21 => (kloadA 6 h v3).bind fun v22 => (kN NN fn.laws_eqWorld [v21, v22] h).bind fun v23 => (kun .not v23).bind fun v24 => g25_1 k G v0 v2 v3 v4 v5 v6 v24 h
theorem g25_0_eq (G : KT6 R) (σ : GS) (h : Heap) : kgroups PP cfg NN HH 63 o25 [(none, [0, 1, 2, 3, 4]), (some (4, false), [5, 6, 7]), (none, [8])] σ h (fun σ h => G .nrm (σ 0) (σ 2) (σ 3) (σ 4) (σ 5) (σ 29) h) = g25_0 k G (σ 0) (σ 2) (σ 3) (σ 4) (σ 5) (σ 6) h := (kgroups_cons (fun σ h => g25_1_eq k G σ h)).trans (by kernel_rfl)
@[simp] def n25 (G : KT6 R) (v0 v2 v3 v4 v5 v6 : GV) (h : Heap) : Option R := g25_0 k G v0 v2 v3 v4 v5 v6 h
theorem n25_eq (G : KT6 R) (σ : GS) (h : Heap) : KC k 63 c25 σ h (fun x σ h => G x (σ 0) (σ 2) (σ 3) (σ 4) (σ 5) (σ 29) h) = n25 k G (σ 0) (σ 2) (σ 3) (σ 4) (σ 5) (σ 6) h := (kregion_eq (id := 3) (draw := false) (ops := o25) (gs := [(none, [0, 1, 2, 3, 4]), (some (4, false), [5, 6, 7]), (none, [8])]) (by kernel_rfl) (by kernel_rfl) (by kernel_rfl)).trans (g25_0_eq k G σ h)
@[simp] def n23 (G : KT5 R) (v0 v2 v3 v4 v5 v6 : GV) (h : Heap) : Option R := n25 k (fun x v0 v2 v3 v4 v5 v29 h => kx x (n24 k G v0 v2 v3 v4 v5 v29 h) (G x v0 v2 v3 v4 v5 h)) v0 v2 v3 v4 v5 v6 h
theorem n23_eq (G : KT5 R) (σ : GS) (h : Heap) : KC k 63 c23 σ h (fun x σ h => G x (σ 0) (σ 2) (σ 3) (σ 4) (σ 5) h) = n23 k G (σ 0) (σ 2) (σ 3) (σ 4) (σ 5) (σ 6) h := (kseq (b := c24) rfl (fun σ h => n24_eq k G σ h)).trans (n25_eq k (fun x v0 v2 v3 v4 v5 v29 h => kx x (n24 k G v0 v2 v3 v4 v5 v29 h) (G x v0 v2 v3 v4 v5 h)) σ h)
@[simp] def n3 (G : KT1 R) (v0 v2 v3 v4 v5 v6 : GV) (h : Heap) : Option R := n23 k (fun x v0 v2 v3 v4 v5 h => kx x (n4 k G v0 v2 v3 v4 v5 h) (G x v2 h)) v0 v2 v3 v4 v5 v6 h
theorem n3_eq (G : KT1 R) (σ : GS) (h : Heap) : KC k 63 c3 σ h (fun x σ h => G x (σ 2) h) = n3 k G (σ 0) (σ 2) (σ 3) (σ 4) (σ 5) (σ 6) h := (kseq (b := c4) rfl (fun σ h => n4_eq k G σ h)).trans (n23_eq k (fun x v0 v2 v3 v4 v5 h => kx x (n4 k G v0 v2 v3 v4 v5 h) (G x v2 h)) σ h)
noncomputable def c26 : Code := cL c2
@[simp] def n2 (G : KT1 R) (v0 v2 v3 v4 : GV) (h : Heap) : Option R := (kF false HH fn.impl_NewWorld [v0] h).bind fun r => kr r fun v18 h => (kxt 0 v18).bind fun v19 => (kxt 1 v18).bind fun v20 => kalloc [.nils, .nils, .nils, .nils, .nils, .nils] h fun v5 h => (kstore 6 h v5 v19).bind fun h => n3 k G v0 v2 v3 v4 v5 v20 h
theorem n2_eq (G : KT1 R) (σ : GS) (h : Heap) : KC k 63 c2 σ h (fun x σ h => G x (σ 2) h) = n2 k G (σ 0) (σ 2) (σ 3) (σ 4) h := (kseq (a := c26) (b := c3) rfl (fun σ h => n3_eq k G σ h)).trans (by kernel_rfl)
noncomputable def c27 : Code := cL c1
@[simp] def n1 (G : KT1 R) (v0 v2 : GV) (h : Heap) : Option R := (kN NN fn.spec_NewWorld [v0] h).bind fun v13 => (kxt 0 v13).bind fun v14 => (kxt 1 v13).bind fun v15 => kalloc [.nils, .nils, .nils, .nils, .nils, .nils] h fun v3 h => (kstore 6 h v3 v14).bind fun h => n2 k G v0 v2 v3 v15 h
theorem n1_eq (G : KT1 R) (σ : GS) (h : Heap) : KC k 63 c1 σ h (fun x σ h => G x (σ 2) h) = n1 k G (σ 0) (σ 2) h := (kseq (a := c27) (b := c2) rfl (fun σ h => n2_eq k G σ h)).trans (by kernel_rfl)
noncomputable def c28 : Code := cL c0
@[simp] def n0 (G : KT1 R) (v0 : GV) (h : Heap) : Option R := n1 k G v0 (.bool false) h
theorem n0_eq (G : KT1 R) (σ : GS) (h : Heap) : KC k 63 c0 σ h (fun x σ h => G x (σ 2) h) = n0 k G (σ 0) h := (kseq (a := c28) (b := c1) rfl (fun σ h => n1_eq k G σ h)).trans (by kernel_rfl)
def run {R : Type} (k : Nat) (a0 : GV) (h : Heap) (fin : GV → Heap → Option R) : Option R := n0 k (fun x v2 h => kend x (fin v2 h)) a0 h
theorem run_eq {R : Type} (k : Nat) (a0 : GV) (h : Heap) (fin : GV → Heap → Option R) : kfun PP cfg NN HH k fn.laws_FnExactNewWorld [a0] h fin = run k a0 h fin := (kfun_eq (nt := 63) (c := c0) (show PP.funcs[fn.laws_FnExactNewWorld]? = some Try.f7 by kernel_rfl) (by kernel_rfl) (by kernel_rfl) (fun x σ h => by cases x <;> kernel_rfl)).trans (n0_eq k (fun x v2 h => kend x (fin v2 h)) _ h)
theorem gives {k : Nat} {a0 : GV} {v : GV} (e : run k a0 [] finN = some v) : NN fn.laws_FnExactNewWorld [a0] = some v := nω_of (by kernel_rfl) ((run_eq k a0 [] finN).trans e)
end S.laws_FnExactNewWorld
end
end Go.Proofs.Ytlbnioapepelnaa.G

namespace Go.Proofs.Ytlbnioapepelnaa.G
open Go.RowKit
set_option linter.unusedVariables false
set_option linter.unusedSimpArgs false
set_option maxRecDepth 100000
theorem dec_of_NewWorld {p : Prop} (i : Decidable p) (h : p) : @decide p i = true := by cases i <;> simp_all
theorem bors_pl_NewWorld {H : Heap} {g : GV} {gs xs : List GV} (hg : bor 9 H g = some (g, [])) (h : bors H gs = some xs) : bors H (g :: gs) = some (g :: xs) := by rw [bors_cons, hg, h]; rfl
theorem FnExactNewWorld_row (a0 : Int) (i0 : (Lit.int .i64 a0).wf = true) : NN fn.laws_FnExactNewWorld [(GV.int .i64 a0)] = some (.bool true) := by
  show NN fn.laws_FnExactNewWorld [.int .i64 a0] = some (.bool true)
  apply S.laws_FnExactNewWorld.gives (k := 0)
  generalize hH0 : ([] : Heap) = H0
  have l0 : H0.length = 0 := by rw [← hH0]; rfl
  have okr := newWorldM_ok a0
  have sp := spec_NewWorld_spec a0
  have im := impl_NewWorld_spec a0
  obtain ⟨w0, w1, hres⟩ : ∃ w0 w1, newWorldM a0 = (w0, w1) := ⟨_, _, rfl⟩
  have xf := newWorldM_cnt a0
  rw [hres] at xf
  try simp only at xf
  rw [hres] at okr sp
  simp only [hres] at im okr sp
  have ok0 : okWorld w0 := okr
  have cw0 := cWorld_le ok0
  have bW0 : ∀ (H : Heap) (gs zs : List GV), bors H gs = some zs → bors H (.agg (mWorld false w0) :: gs) = some (.agg (mWorld true w0) :: zs) := fun H gs zs h => by
    rw [bors_cons, h]; simp
  have hWL0 : (mWorld false w0).length = 6 := rfl
  have hWc0 : (mWorld false w0).all GV.isCell = true := by simp
  obtain ⟨W0, hW0⟩ : ∃ W, mWorld false w0 = W := ⟨_, rfl⟩
  rw [hW0] at bW0 hWL0 hWc0 sp
  have esWorld : ∀ x : ((List ((List (ByteArray) × Int)) × List (List (ByteArray)) × List (List (Int))) × List ((Int × List (ByteArray) × Int × (Int × List (List ((Int × (Int × Int × Bool × Bool × Bool) × Int)))) × Int × (Int × List (Int)) × Int)) × List (ByteArray) × List ((Int × ByteArray))), okWorld x → NN fn.laws_eqWorld [.agg (mWorld true x), .agg (mWorld true x)] = some (.bool true) := fun x hm => by
    obtain ⟨⟨q_1_1, q_1_2, q_1_3⟩, q_2, q_3, q_4⟩ := x
    have := laws_eqWorld_spec q_1_1 q_1_1 q_1_2 q_1_2 q_1_3 q_1_3 q_2 q_2 q_3 q_3 q_4 q_4 hm
    exact this.trans (congrArg (fun b => some (GV.bool b)) (dec_of_NewWorld _ rfl))
  have ec0 := esWorld w0 ok0
  have s1 : kN NN fn.spec_NewWorld [.int .i64 a0] H0 = some (.tup [.agg W0, .bool w1]) := kN_at (bors_pl_NewWorld (by simp) (by simp)) sp
  have v2 := var_at (H := H0) (z := [.nils, .nils, .nils, .nils, .nils, .nils]) (c := W0) (n := 6) rfl hWL0 hWc0
  obtain ⟨H2, hH2⟩ : ∃ H', H0 ++ [W0] = H' := ⟨_, rfl⟩
  have f2 : Fr [] H0 H2 := by rw [← hH2]; exact .app
  have l2 : H2.length = H0.length + 1 := by rw [← hH2]; simp
  have BW0_2 : H2[H0.length]? = some W0 := by rw [← hH2]; simp
  rw [hH2] at v2
  obtain ⟨g3, R3, H3, t3, r3_, n3, b3, f3, l3⟩ := fresh_tup goodWorld (t := w1) (f := fn.impl_NewWorld) (args := [.int .i64 a0]) (xs := [.int .i64 a0]) (H := H2) (x := w0) (bors_pl_NewWorld (by simp) (by simp)) (im H2.length)
  have BW0_3 := f3.blk BW0_2 no_nil
  have glG0 := goodWorld.len r3_
  have gcG0 := goodWorld.cell r3_
  have v4 := var_at (H := H3) (z := [.nils, .nils, .nils, .nils, .nils, .nils]) (c := g3) (n := 6) rfl glG0 gcG0
  obtain ⟨H4, hH4⟩ : ∃ H', H3 ++ [g3] = H' := ⟨_, rfl⟩
  have f4 : Fr [] H3 H4 := by rw [← hH4]; exact .app
  have l4 : H4.length = H3.length + 1 := by rw [← hH4]; simp
  have BG0_4 : H4[H3.length]? = some g3 := by rw [← hH4]; simp
  rw [hH4] at v4
  have BW0_4 := f4.blk BW0_3 no_nil
  have r3_4 := goodWorld.keep r3_ f4 (fun _ _ => no_nil)
  have e5 : kN NN fn.laws_eqWorld [.agg g3, .agg W0] H4 = some (.bool true) := kN_at (bors_agg goodWorld (by omega) r3_4 (bW0 _ _ _ (by simp))) ec0
  have kt1 : keqB .neq (.bool w1) (.bool w1) = some (.bool false) := by cases w1 <;> rfl
  have kn7 : kbin .lss (.int .i64 ((1 : Nat) : Int)) (.int .i64 0) = some (.bool false) := by rw [kbin_lss, decide_eq_false (by omega)]
  have e8 : kN NN fn.laws_eqWorld [.agg g3, .agg W0] H4 = some (.bool true) := kN_at (bors_agg goodWorld (by omega) r3_4 (bW0 _ _ _ (by simp))) ec0
  obtain ⟨H10, m10, rr10, f10⟩ := laws_markWorld_spec H4 g3 w0 R3 (1) ok0 r3_4 n3 (by omega)
  have l10 := f10.1
  simp only [show ((1 : Nat) : Int) = 1 from rfl] at m10
  have BW0_10 := f10.blk BW0_4 (b3.no (by omega))
  have BG0_10 := f10.blk BG0_4 (b3.no (by omega))
  have hd11 := laws_heldWorld_spec w0 (1) ok0 (by omega)
  have q11 : kN NN fn.laws_heldWorld [.agg g3, .int .i64 ((1 : Nat) : Int)] H10 = some (.int .i64 ((1 + cWorld w0 : Nat) : Int)) := kN_at (bors_agg goodWorld (by omega) rr10 (bors_pl_NewWorld (by simp) (by simp))) hd11
  simp only [show ((1 : Nat) : Int) = 1 from rfl] at q11
  have kn11 : kbin .lss (.int .i64 ((1 + cWorld w0 : Nat) : Int)) (.int .i64 0) = some (.bool false) := by rw [kbin_lss, decide_eq_false (by omega)]
  have kq : kbin .neq (.int .i64 ((1 + cWorld w0 : Nat) : Int)) (.int .i64 ((1 + cWorld w0 : Nat) : Int)) = some (.bool false) := by simp
  obtain ⟨g12, R12, H12, t12, r12_, n12, b12, f12, l12⟩ := fresh_tup goodWorld (t := w1) (f := fn.impl_NewWorld) (args := [.int .i64 a0]) (xs := [.int .i64 a0]) (H := H10) (x := w0) (bors_pl_NewWorld (by simp) (by simp)) (im H10.length)
  have BW0_12 := f12.blk BW0_10 no_nil
  have BG0_12 := f12.blk BG0_10 no_nil
  have r3_12 := goodWorld.keep rr10 f12 (fun _ _ => no_nil)
  have glY0 := goodWorld.len r12_
  have gcY0 := goodWorld.cell r12_
  have v13 := var_at (H := H12) (z := [.nils, .nils, .nils, .nils, .nils, .nils]) (c := g12) (n := 6) rfl glY0 gcY0
  obtain ⟨H13, hH13⟩ : ∃ H', H12 ++ [g12] = H' := ⟨_, rfl⟩
  have f13 : Fr [] H12 H13 := by rw [← hH13]; exact .app
  have l13 : H13.length = H12.length + 1 := by rw [← hH13]; simp
  have BY0_13 : H13[H12.length]? = some g12 := by rw [← hH13]; simp
  rw [hH13] at v13
  have BW0_13 := f13.blk BW0_12 no_nil
  have BG0_13 := f13.blk BG0_12 no_nil
  have r3_13 := goodWorld.keep r3_12 f13 (fun _ _ => no_nil)
  have r12_13 := goodWorld.keep r12_ f13 (fun _ _ => no_nil)
  have e14 : kN NN fn.laws_eqWorld [.agg g12, .agg W0] H13 = some (.bool true) := kN_at (bors_agg goodWorld (by omega) r12_13 (bW0 _ _ _ (by simp))) ec0
  have hd16 := laws_heldWorld_spec w0 (1) ok0 (by omega)
  have q16 : kN NN fn.laws_heldWorld [.agg g3, .int .i64 ((1 : Nat) : Int)] H13 = some (.int .i64 ((1 + cWorld w0 : Nat) : Int)) := kN_at (bors_agg goodWorld (by omega) r3_13 (bors_pl_NewWorld (by simp) (by simp))) hd16
  simp only [show ((1 : Nat) : Int) = 1 from rfl] at q16
  have kn16 : kbin .lss (.int .i64 ((1 + cWorld w0 : Nat) : Int)) (.int .i64 0) = some (.bool false) := by rw [kbin_lss, decide_eq_false (by omega)]
  simp only [S.laws_FnExactNewWorld.run, S.laws_FnExactNewWorld.n0, S.laws_FnExactNewWorld.n1, S.laws_FnExactNewWorld.n2, Option.bind_some, kr_mk, kxt_tup, List.getElem?_cons_zero, List.getElem?_cons_succ, kcond_bool, cond_true, cond_false, kun_not, Bool.not_true, Bool.not_false, kpick_bool, tr_bool, tr_un, kx_nrm, kx_ret, kb_nrm, kb_ret, kend_ret, kend_nrm, kold_eq, krs_eq, finN_bool, klenS_str, beq_self_eq_true, beq_false, Bool.false_eq_true, BEq.rfl, Bool.beq_eq_decide_eq, decide_true, decide_false, reduceCtorEq, kalloc_at, s1, v2, hH2, t3, v4, hH4, kloadA_at BG0_4 glG0, kloadA_at BW0_4 hWL0, e5, kt1, kn7, e8, m10, kloadA_at BG0_10 glG0, q11, kn11, kq, t12, v13, hH13, kloadA_at BY0_13 glY0, kloadA_at BW0_13 hWL0, e14, kloadA_at BG0_13 glG0, q16, kn16, List.length_cons, List.length_nil, Nat.zero_add, Nat.reduceAdd]
  try simp only [S.laws_FnExactNewWorld.n3, S.laws_FnExactNewWorld.n23, S.laws_FnExactNewWorld.n25, S.laws_FnExactNewWorld.g25_0, Option.bind_some, kr_mk, kxt_tup, List.getElem?_cons_zero, List.getElem?_cons_succ, kcond_bool, cond_true, cond_false, kun_not, Bool.not_true, Bool.not_false, kpick_bool, tr_bool, tr_un, kx_nrm, kx_ret, kb_nrm, kb_ret, kend_ret, kend_nrm, kold_eq, krs_eq, finN_bool, klenS_str, beq_self_eq_true, beq_false, Bool.false_eq_true, BEq.rfl, Bool.beq_eq_decide_eq, decide_true, decide_false, reduceCtorEq, kalloc_at, s1, v2, hH2, t3, v4, hH4, kloadA_at BG0_4 glG0, kloadA_at BW0_4 hWL0, e5, kt1, kn7, e8, m10, kloadA_at BG0_10 glG0, q11, kn11, kq, t12, v13, hH13, kloadA_at BY0_13 glY0, kloadA_at BW0_13 hWL0, e14, kloadA_at BG0_13 glG0, q16, kn16, List.length_cons, List.length_nil, Nat.zero_add, Nat.reduceAdd]
  try simp only [S.laws_FnExactNewWorld.g25_1, S.laws_FnExactNewWorld.g25_2, S.laws_FnExactNewWorld.n24, S.laws_FnExactNewWorld.n4, Option.bind_some, kr_mk, kxt_tup, List.getElem?_cons_zero, List.getElem?_cons_succ, kcond_bool, cond_true, cond_false, kun_not, Bool.not_true, Bool.not_false, kpick_bool, tr_bool, tr_un, kx_nrm, kx_ret, kb_nrm, kb_ret, kend_ret, kend_nrm, kold_eq, krs_eq, finN_bool, klenS_str, beq_self_eq_true, beq_false, Bool.false_eq_true, BEq.rfl, Bool.beq_eq_decide_eq, decide_true, decide_false, reduceCtorEq, kalloc_at, s1, v2, hH2, t3, v4, hH4, kloadA_at BG0_4 glG0, kloadA_at BW0_4 hWL0, e5, kt1, kn7, e8, m10, kloadA_at BG0_10 glG0, q11, kn11, kq, t12, v13, hH13, kloadA_at BY0_13 glY0, kloadA_at BW0_13 hWL0, e14, kloadA_at BG0_13 glG0, q16, kn16, List.length_cons, List.length_nil, Nat.zero_add, Nat.reduceAdd]
  try simp only [S.laws_FnExactNewWorld.n5, S.laws_FnExactNewWorld.n6, S.laws_FnExactNewWorld.n7, S.laws_FnExactNewWorld.n8, Option.bind_some, kr_mk, kxt_tup, List.getElem?_cons_zero, List.getElem?_cons_succ, kcond_bool, cond_true, cond_false, kun_not, Bool.not_true, Bool.not_false, kpick_bool, tr_bool, tr_un, kx_nrm, kx_ret, kb_nrm, kb_ret, kend_ret, kend_nrm, kold_eq, krs_eq, finN_bool, klenS_str, beq_self_eq_true, beq_false, Bool.false_eq_true, BEq.rfl, Bool.beq_eq_decide_eq, decide_true, decide_false, reduceCtorEq, kalloc_at, s1, v2, hH2, t3, v4, hH4, kloadA_at BG0_4 glG0, kloadA_at BW0_4 hWL0, e5, kt1, kn7, e8, m10, kloadA_at BG0_10 glG0, q11, kn11, kq, t12, v13, hH13, kloadA_at BY0_13 glY0, kloadA_at BW0_13 hWL0, e14, kloadA_at BG0_13 glG0, q16, kn16, List.length_cons, List.length_nil, Nat.zero_add, Nat.reduceAdd]
  try simp only [S.laws_FnExactNewWorld.n9, S.laws_FnExactNewWorld.n10, S.laws_FnExactNewWorld.n11, S.laws_FnExactNewWorld.n13, Option.bind_some, kr_mk, kxt_tup, List.getElem?_cons_zero, List.getElem?_cons_succ, kcond_bool, cond_true, cond_false, kun_not, Bool.not_true, Bool.not_false, kpick_bool, tr_bool, tr_un, kx_nrm, kx_ret, kb_nrm, kb_ret, kend_ret, kend_nrm, kold_eq, krs_eq, finN_bool, klenS_str, beq_self_eq_true, beq_false, Bool.false_eq_true, BEq.rfl, Bool.beq_eq_decide_eq, decide_true, decide_false, reduceCtorEq, kalloc_at, s1, v2, hH2, t3, v4, hH4, kloadA_at BG0_4 glG0, kloadA_at BW0_4 hWL0, e5, kt1, kn7, e8, m10, kloadA_at BG0_10 glG0, q11, kn11, kq, t12, v13, hH13, kloadA_at BY0_13 glY0, kloadA_at BW0_13 hWL0, e14, kloadA_at BG0_13 glG0, q16, kn16, List.length_cons, List.length_nil, Nat.zero_add, Nat.reduceAdd]
  try simp only [S.laws_FnExactNewWorld.n15, S.laws_FnExactNewWorld.g15_0, S.laws_FnExactNewWorld.g15_1, S.laws_FnExactNewWorld.g15_2, Option.bind_some, kr_mk, kxt_tup, List.getElem?_cons_zero, List.getElem?_cons_succ, kcond_bool, cond_true, cond_false, kun_not, Bool.not_true, Bool.not_false, kpick_bool, tr_bool, tr_un, kx_nrm, kx_ret, kb_nrm, kb_ret, kend_ret, kend_nrm, kold_eq, krs_eq, finN_bool, klenS_str, beq_self_eq_true, beq_false, Bool.false_eq_true, BEq.rfl, Bool.beq_eq_decide_eq, decide_true, decide_false, reduceCtorEq, kalloc_at, s1, v2, hH2, t3, v4, hH4, kloadA_at BG0_4 glG0, kloadA_at BW0_4 hWL0, e5, kt1, kn7, e8, m10, kloadA_at BG0_10 glG0, q11, kn11, kq, t12, v13, hH13, kloadA_at BY0_13 glY0, kloadA_at BW0_13 hWL0, e14, kloadA_at BG0_13 glG0, q16, kn16, List.length_cons, List.length_nil, Nat.zero_add, Nat.reduceAdd]
  try simp only [S.laws_FnExactNewWorld.n14, S.laws_FnExactNewWorld.n12, Option.bind_some, kr_mk, kxt_tup, List.getElem?_cons_zero, List.getElem?_cons_succ, kcond_bool, cond_true, cond_false, kun_not, Bool.not_true, Bool.not_false, kpick_bool, tr_bool, tr_un, kx_nrm, kx_ret, kb_nrm, kb_ret, kend_ret, kend_nrm, kold_eq, krs_eq, finN_bool, klenS_str, beq_self_eq_true, beq_false, Bool.false_eq_true, BEq.rfl, Bool.beq_eq_decide_eq, decide_true, decide_false, reduceCtorEq, kalloc_at, s1, v2, hH2, t3, v4, hH4, kloadA_at BG0_4 glG0, kloadA_at BW0_4 hWL0, e5, kt1, kn7, e8, m10, kloadA_at BG0_10 glG0, q11, kn11, kq, t12, v13, hH13, kloadA_at BY0_13 glY0, kloadA_at BW0_13 hWL0, e14, kloadA_at BG0_13 glG0, q16, kn16, List.length_cons, List.length_nil, Nat.zero_add, Nat.reduceAdd]
end Go.Proofs.Ytlbnioapepelnaa.G

namespace Go.Proofs.Ytlbnioapepelnaa.G
open Go.RowKit Go.ChangeShapes Go.WideShapes Go.ChangeAt
set_option linter.unusedVariables false

theorem frz_true {d : Nat} {h : Heap} {v : GV} {r : List Nat} (e : frz d h v = some (.bool true, r)) : v = .bool true := by
  cases d with
  | zero => cases e
  | succ d =>
    cases v with
    | bool b => cases e; rfl
    | sl i off len cap es =>
      simp only [frz, Option.bind_eq_bind, Option.bind_eq_some_iff] at e
      obtain ⟨cs, _, xs, _, e⟩ := e
      split at e
      · cases len <;> cases e
      · cases e
    | fz t n es cells => cases n <;> cases t <;> cases e
    | agg cs => simp only [frz, Option.bind_eq_bind, Option.bind_eq_some_iff] at e; obtain ⟨xs, _, e⟩ := e; cases e
    | tup cs => simp only [frz, Option.bind_eq_bind, Option.bind_eq_some_iff] at e; obtain ⟨xs, _, e⟩ := e; cases e
    | _ => cases e

theorem law_N {P : Program} {C : Cfg} (hM : P.follows .mixedOrders = true) (hN : NameOk P) (hX : XSound P C) {f : FuncId} {args : List GV} {us : List Value} {W : World} (hx : C.ext f = none) (e : nω P C f args = some (.bool true))
    (hgl : GL W (fun c => c < W.heap.size)) (hv : VRs W E0 (fun _ => False) args (fun c => c < W.heap.size) us) : Calls P f us.toArray W fun e w' => e = .returned (.bool true) ∧ Below W.heap.size W w' := by
  unfold nω at e
  simp only [hx] at e
  obtain ⟨⟨v, h'⟩, h1, h2⟩ := Option.bind_eq_some_iff.1 e
  obtain ⟨⟨v', r⟩, h3, h4⟩ := Option.map_eq_some_iff.1 h2
  simp only at h4 h3
  subst h4
  have := frz_true h3
  subst this
  obtain ⟨k, lg, h5⟩ := kω_some.1 h1
  exact law_calls hM hN hX (k := k) (by rw [h5]; rfl) (fun _ h => h) hgl (VRs_mono (w := W) ⟨fun _ _ h => h, fun _ _ _ h => h, fun _ h => h.elim⟩ _ _ _ _ (fun _ h => .inl h) (fun _ _ => rfl) hv)

theorem one_cell' {v u : Value} (h : v.cells.toList = [u]) (hv : ∀ cs, v = .agg cs → False) : v = u := by
  cases v with
  | agg cs => exact (hv cs rfl).elim
  | _ => simpa [Value.cells] using h

/-- A value of one cell, told. -/
theorem told_one {W : World} {g : GV} {v : Value} (h : Told W [g] v.cells.toList) (hv : ∀ cs, v = .agg cs → False) : VR W E0 (fun _ => False) g (fun c => c < W.heap.size) v := by
  obtain ⟨u, us, h1, h2, h3⟩ := h
  simp only [VRsi] at h3
  subst h3
  rw [one_cell' h1 hv]
  exact h2
theorem told_agg {W : World} {cs : List GV} {v : Value} (h : Told W cs v.cells.toList) (hv : ∃ us, v = .agg us) : VR W E0 (fun _ => False) (.agg cs) (fun c => c < W.heap.size) v := by
  obtain ⟨us, rfl⟩ := hv
  exact ⟨us, rfl, h⟩

/-- A slice, the size of its elements told. -/
theorem tells_sl {α : Type} {P : Program} {t e es : Nat} {mk : α → List GV} {I : α → Prop} (ht : P.underlying t = some (.slice e)) (hs : P.cellsOf t = 1) (hes : P.cellsOf e = es) (he : Tells P e mk I) : Tells P t (fun xs : List α => [fzl true es mk xs]) (inSl I) := by
  subst hes
  exact tells_slice ht hs he

theorem tells_st {α : Type} {P : Program} {t : TypeId} {fs : Array Field} {l : List Field} {o sz : Nat} {mk : α → List GV} {I : α → Prop} (ht : P.underlying t = some (.struct fs)) (hl : fs.toList = l) (h : TellsAt P l o sz mk I) (ho : o = 0) (hs : P.cellsOf t = sz) : Tells P t mk I := by
  subst hl; subst ho; subst hs
  exact tells_struct ht h

/-- What the arguments read as before the call they read as behind it, if nothing that was there has changed. -/
theorem below_allT {H : Type} {enc : TypeId × Value → H} {P : Program} (hl : laidOutB P = true) {W W' : World} (hb : Below W.heap.size W W') :
    ∀ {ts : List TypeId} {vs : List Value} {ds : List (DataW H)} {ps : List MemPlace}, (∀ t ∈ ts, P.readableRec t = true ∧ t < P.types.size) →
      DataW.TrodAll enc P W 0 (fun _ => true) true ts vs ds ps → DataW.TrodAll enc P W' 0 (fun b => decide (b < W.heap.size)) true ts vs ds ps
  | [], [], [], _, _, h => h
  | t :: ts, v :: vs, d :: ds, ps, hr, h => by
    obtain ⟨p, q, h1, h2, rfl⟩ := h
    obtain ⟨a, b⟩ := hr t (by simp)
    exact ⟨p, q, Below.trod hl a b h1 hb (by obtain ⟨m, hm⟩ := h1; exact DataW.trod_lt m _ _ _ hm), below_allT hl hb (fun t ht => hr t (by simp [ht])) h2, rfl⟩
  | [], [], _ :: _, _, _, h => h.elim
  | [], _ :: _, _, _, _, h => h.elim
  | _ :: _, [], _, _, _, h => h.elim
  | _ :: _, _ :: _, [], _, _, h => h.elim


end Go.Proofs.Ytlbnioapepelnaa.G
