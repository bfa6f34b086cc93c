/- Records: both take the same records. -/
import Derived.Test.YtklhdbkaejbajaaDoorTDisk
import Derived.Test.YtklhdbkaejbajaaDoorTRl
import Derived.Test.YtklhdbkaejbajaaDoorSR
namespace Go.Proofs.YtklhdbkaejbajaaDoor.G
open Go.RowKit Go.Lib
set_option linter.unusedVariables false
set_option linter.unusedSimpArgs false

/-- Texts in memory. -/
abbrev rTexts : Rel (List ByteArray) := RSl 1 (RFl cs)
theorem goodTexts : Good 1 2 (fun xs : List ByteArray => [fzl true 1 cs xs]) rTexts := RSl.good (RFl.good (fun _ => rfl) (fun _ => rfl))
open Classical in
/-- The records with which a disk begins, and how many bytes they take. -/
noncomputable def recsGo : Nat → List UInt8 → List (List UInt8) × Nat
  | 0, _ => ([], 0)
  | f + 1, d => if h : ∃ t, Begins d t then (h.choose :: (recsGo f (d.drop (recM h.choose).length)).1, (recM h.choose).length + (recsGo f (d.drop (recM h.choose).length)).2) else ([], 0)
theorem recsGo_pos {f : Nat} {d t : List UInt8} (h : Begins d t) : recsGo (f + 1) d = (t :: (recsGo f (d.drop (recM t).length)).1, (recM t).length + (recsGo f (d.drop (recM t).length)).2) := by
  have hx : ∃ t, Begins d t := ⟨t, h⟩
  have e : hx.choose = t := hx.choose_spec.uniq h
  rw [recsGo, dif_pos hx, e]
theorem recsGo_neg {f : Nat} {d : List UInt8} (h : ∀ t, ¬ Begins d t) : recsGo (f + 1) d = ([], 0) := by
  rw [recsGo, dif_neg fun ⟨t, ht⟩ => h t ht]
theorem recsGo_b : ∀ (f : Nat) (d : List UInt8), (recsGo f d).1.length ≤ d.length ∧ ∀ t ∈ (recsGo f d).1, t.length ≤ 5000
  | 0, d => ⟨Nat.zero_le _, fun t h => by cases h⟩
  | f + 1, d => by
    by_cases hx : ∃ t, Begins d t
    · obtain ⟨t, ht⟩ := hx
      rw [recsGo_pos ht]
      obtain ⟨a1, a2⟩ := recsGo_b f (d.drop (recM t).length)
      have := (recM_len ht.1).1
      have := ht.2.1
      rw [List.length_drop] at a1
      refine ⟨by simp only [List.length_cons]; omega, fun t' h => ?_⟩
      rcases List.mem_cons.1 h with rfl | h
      · exact ht.1
      · exact a2 t' h
    · rw [recsGo_neg fun t ht => hx ⟨t, ht⟩]
      exact ⟨Nat.zero_le _, fun t h => by cases h⟩
theorem l3_all {R : Type} (k : Nat) (G : KT2 R) (d : List UInt8) (hd : d.length ≤ 1048576) (v2 v3 : GV) : ∀ (f a : Nat) (xs : List ByteArray) (v : GV) (H : Heap), a ≤ d.length → d.length - a < f → BufG cs v xs H → xs.length ≤ a →
    ∃ v' H', S.impl_Records.l3 k G f (.str (bs d)) v2 v3 v (.int .i64 (a : Nat)) H = G .ret v' (.int .i64 ((a + (recsGo f (d.drop a)).2 : Nat) : Int)) H' ∧ BufG cs v' (xs ++ (recsGo f (d.drop a)).1.map bs) H'
  | 0, a, xs, v, H, _, h, _, _ => by omega
  | f + 1, a, xs, v, H, ha, hf, hb, hx => by
    have sl : kslS (.str (bs d)) (some (.int .i64 (a : Nat))) none none = some (.str (bs (d.drop a))) := slS_from ha
    rcases impl_takeRecord_spec (d.drop a) (by rw [List.length_drop]; omega) with ⟨t, ht, e⟩ | ⟨hn, x, e⟩
    · rw [recsGo_pos ht]
      have b1 := (recM_len ht.1).1
      have b2 := ht.2.1
      rw [List.length_drop] at b2
      obtain ⟨v', H', a1, a2⟩ := hb.app (mk := cs) (fun _ => rfl) (fun _ => rfl) (z := [.str { data := #[] }]) rfl (sz := 16) (by omega) (m := [bs t]) (by simp) (by simp; omega)
      have a1' : kapp [.str { data := #[] }] 1 16 v (.sl H.length 0 1 1 1) (H ++ [[GV.str (bs t)]]) = some (v', H') := a1
      obtain ⟨v'', H'', c1, c2⟩ := l3_all k G d hd v2 v3 f (a + (recM t).length) (xs ++ [bs t]) v' H' (by omega) (by omega) a2 (by simp; omega)
      rw [List.drop_drop]
      refine ⟨v'', H'', ?_, by simpa using c2⟩
      rw [Nat.add_assoc] at c1
      rw [← c1]
      have t1 : ∀ H, kN NN fn.impl_takeRecord [.str (bs (d.drop a))] H = _ := fun H => kN_at (by simp) e
      have r1 : ∀ H, kN NN fn.impl_Record [.str (bs t)] H = _ := fun H => kN_at (by simp) (impl_Record_spec t (by have := ht.1; omega))
      have kr1 := klenS_bs (recM t)
      have gf := gfill_one' (v := .str (bs t)) (z := [.str { data := #[] }]) rfl rfl
      have ad : kbin .add (.int .i64 (a : Nat)) (.int .i64 ((recM t).length : Nat)) = some (.int .i64 ((a + (recM t).length : Nat) : Int)) := by rw [kbin_add, wrap_id (by omega) (by omega)]; congr 2
      generalize GV.str (bs (recM t)) = E3 at *
      generalize GV.str (bs (d.drop a)) = E1 at *
      generalize GV.str (bs t) = E2 at *
      generalize GV.str (bs d) = D at *
      generalize GV.int .i64 ((a + (recM t).length : Nat) : Int) = A' at *
      generalize GV.int .i64 ((recM t).length : Nat) = M at *
      generalize GV.int .i64 (a : Nat) = A at *
      simp [S.impl_Records.l3, sl, t1, r1, kr1, gf, kbs_eq, a1', ad, -kN_eq]
    · rw [recsGo_neg hn]
      refine ⟨v, H, ?_, by simpa using hb⟩
      have t1 : ∀ H, kN NN fn.impl_takeRecord [.str (bs (d.drop a))] H = _ := fun H => kN_at (by simp) e
      rw [Nat.add_zero]
      generalize GV.str (bs x) = E2 at *
      generalize GV.str (bs (d.drop a)) = E1 at *
      generalize GV.str (bs d) = D at *
      generalize GV.int .i64 (a : Nat) = A at *
      simp [S.impl_Records.l3, sl, t1, -kN_eq]
theorem l4_all {R : Type} (k : Nat) (G : KT2 R) (d : List UInt8) (hd : d.length ≤ 1048576) (v2 v3 : GV) : ∀ (f a : Nat) (xs : List ByteArray) (v : GV) (H : Heap), a ≤ d.length → d.length - a < f → BufG cs v xs H → xs.length ≤ a →
    ∃ v' H', S.spec_Records.l4 k G f (.str (bs d)) v2 v3 v (.int .i64 (a : Nat)) H = G .ret v' (.int .i64 ((a + (recsGo f (d.drop a)).2 : Nat) : Int)) H' ∧ BufG cs v' (xs ++ (recsGo f (d.drop a)).1.map bs) H'
  | 0, a, xs, v, H, _, h, _, _ => by omega
  | f + 1, a, xs, v, H, ha, hf, hb, hx => by
    have sl : kslS (.str (bs d)) (some (.int .i64 (a : Nat))) none none = some (.str (bs (d.drop a))) := slS_from ha
    rcases spec_l16Record_spec (d.drop a) (by rw [List.length_drop]; omega) with ⟨t, ht, e⟩ | ⟨hn, e⟩
    · rw [recsGo_pos ht]
      have b1 := (recM_len ht.1).1
      have b2 := ht.2.1
      rw [List.length_drop] at b2
      obtain ⟨v', H', a1, a2⟩ := hb.app (mk := cs) (fun _ => rfl) (fun _ => rfl) (z := [.str { data := #[] }]) rfl (sz := 16) (by omega) (m := [bs t]) (by simp) (by simp; omega)
      have a1' : kapp [.str { data := #[] }] 1 16 v (.sl H.length 0 1 1 1) (H ++ [[GV.str (bs t)]]) = some (v', H') := a1
      obtain ⟨v'', H'', c1, c2⟩ := l4_all k G d hd v2 v3 f (a + (recM t).length) (xs ++ [bs t]) v' H' (by omega) (by omega) a2 (by simp; omega)
      rw [List.drop_drop]
      refine ⟨v'', H'', ?_, by simpa using c2⟩
      rw [Nat.add_assoc] at c1
      rw [← c1]
      have t1 : ∀ H, kN NN fn.spec_l16Record [.str (bs (d.drop a))] H = _ := fun H => kN_at (by simp) e
      have gf := gfill_one' (v := .str (bs t)) (z := [.str { data := #[] }]) rfl rfl
      have ad : kbin .add (.int .i64 (a : Nat)) (.int .i64 ((recM t).length : Nat)) = some (.int .i64 ((a + (recM t).length : Nat) : Int)) := by rw [kbin_add, wrap_id (by omega) (by omega)]; congr 2
      have z : kbin .eql (.int .i64 ((recM t).length : Nat)) (.int .i64 0) = some (.bool false) := by rw [kbin_eql, decide_eq_false (by omega)]
      generalize GV.str (bs (d.drop a)) = E1 at *
      generalize GV.str (bs t) = E2 at *
      generalize GV.str (bs d) = D at *
      generalize GV.int .i64 ((a + (recM t).length : Nat) : Int) = A' at *
      generalize GV.int .i64 ((recM t).length : Nat) = M at *
      generalize GV.int .i64 (a : Nat) = A at *
      simp [S.spec_Records.l4, sl, t1, z, gf, kbs_eq, a1', ad, -kN_eq]
    · rw [recsGo_neg hn]
      refine ⟨v, H, ?_, by simpa using hb⟩
      have t1 : ∀ H, kN NN fn.spec_l16Record [.str (bs (d.drop a))] H = _ := fun H => kN_at (by simp) e
      rw [Nat.add_zero]
      generalize GV.str (bs (d.drop a)) = E1 at *
      generalize GV.str (bs d) = D at *
      generalize GV.int .i64 (a : Nat) = A at *
      simp [S.spec_Records.l4, sl, t1, -kN_eq]

/-! What is handed over. -/
theorem All3_fl {α : Type} {mk : α → List GV} {h : Heap} : ∀ (l : List α), All3 (RFl mk h) (l.map mk) l (l.map fun _ => [])
  | [] => .nil
  | x :: l => .cons ⟨rfl, rfl⟩ (All3_fl l)
theorem bufG_rsl {α : Type} {mk : α → List GV} {v : GV} {l : List α} {h : Heap} (hb : BufG mk v l h) : ∃ R, RSl 1 (RFl mk) h [v] l R ∧ R.Nodup := by
  rcases hb with ⟨rfl, rfl⟩ | ⟨b, rfl, hh⟩
  · exact ⟨[], .inl ⟨rfl, rfl, .inl rfl⟩, List.nodup_nil⟩
  · have e : ∀ l : List α, (l.map fun _ => ([] : List Nat)).flatten = [] := fun l => by induction l <;> simp_all
    exact ⟨[b], .inr ⟨b, l.map mk, l.map fun _ => [], rfl, by rw [hh, List.flatMap_def], All3_fl l, by rw [e]⟩, by simp⟩
theorem Good.finI {α : Type} {d : Nat} {mk : α → List GV} {E : Rel α} (hE : Good 1 d mk E) (hd : d ≤ 8) {h : Heap} {v : GV} {x : α} {R : List Nat} {n : Int} (he : E h [v] x R) (nd : R.Nodup) (b : Nat) : ∃ v' bl, finO b (.tup [v, .int .i64 n]) h = some (.tup [v', .int .i64 n], bl) ∧ ∀ H T, H.length = b → E (H ++ bl ++ T) [v'] x (List.range' b bl.length) := by
  obtain ⟨c', vis, bl, a1, a2, a3⟩ := hE.own he (8 - d) b
  rw [show 8 - d + d = 8 by omega] at a1
  unfold ownL at a1
  obtain ⟨r, b1, b2⟩ := Option.bind_eq_some_iff.1 a1
  obtain ⟨q, b3, b4⟩ := Option.bind_eq_some_iff.1 b2
  obtain ⟨⟩ := b3
  simp only [Option.some.injEq, Prod.mk.injEq, List.append_nil] at b4
  obtain ⟨rfl, rfl, rfl⟩ := b4
  refine ⟨r.1, r.2.2, ?_, a3⟩
  unfold finO ownOk
  have e : Go.Proofs.YtklhdbkaejbajaaDoor.G.own 9 h b (.tup [v, .int .i64 n]) = some (.tup [r.1, .int .i64 n], r.2.1, r.2.2) := by
    show (ownL (Go.Proofs.YtklhdbkaejbajaaDoor.G.own 8 h) b [v, .int .i64 n]).bind _ = _
    unfold ownL
    rw [b1]
    simp [ownL, Go.Proofs.YtklhdbkaejbajaaDoor.G.own]
  simp only [e, Option.bind_some, a2, nodupB_of nd, cond_true]
theorem fresh_tupI {α : Type} {d : Nat} {mk : α → List GV} {E : Rel α} (hE : Good 1 d mk E) {f : FuncId} {args xs : List GV} {H : Heap} {x : α} {n : Int} (hb : bors H args = some xs) (he : ∃ v bl, OO f xs H.length = some (.tup [v, .int .i64 n], bl) ∧ ∀ H' T, H'.length = H.length → E (H' ++ bl ++ T) [v] x (List.range' H.length bl.length)) :
    ∃ v R H', kF false HH f args H = some (.tup [v, .int .i64 n], H') ∧ E H' [v] x R ∧ R.Nodup ∧ Bd R H.length H'.length ∧ Fr [] H H' ∧ H.length ≤ H'.length := by
  obtain ⟨c, bl, h1, h2⟩ := he
  refine ⟨c, _, H ++ bl, by rw [kF_OO, hb]; simp [h1], by simpa using h2 H [] rfl, List.nodup_range', fun i hi => ?_, .app, by simp⟩
  rw [List.mem_range'_1] at hi
  simp; omega
noncomputable def recsM (d : List UInt8) : List ByteArray := (recsGo (d.length + 1) d).1.map bs
noncomputable def recsN (d : List UInt8) : Int := ((recsGo (d.length + 1) d).2 : Nat)
theorem impl_Records_spec (d : List UInt8) (hd : d.length ≤ 1048576) (b : Nat) : ∃ v bl, OO fn.impl_Records [.str (bs d)] b = some (.tup [v, .int .i64 (recsN d)], bl) ∧ ∀ H T, H.length = b → rTexts (H ++ bl ++ T) [v] (recsM d) (List.range' b bl.length) := by
  obtain ⟨v, H, e1, e2⟩ := l3_all (d.length + 1) (fun x v2 v3 h => kb 0 x fun x => kend x (finO b (.tup [v2, v3]) h)) d hd .nils (.int .i64 0) (d.length + 1) 0 [] .emp [] (Nat.zero_le _) (by omega) (.inl ⟨rfl, rfl⟩) (Nat.le_refl _)
  rw [List.drop_zero, Nat.zero_add] at e1
  rw [List.drop_zero, List.nil_append] at e2
  obtain ⟨R, r1, r2⟩ := bufG_rsl e2
  obtain ⟨v', bl, f1, f2⟩ := goodTexts.finI (by omega) (n := recsN d) r1 r2 b
  refine ⟨v', bl, S.impl_Records.gives (k := d.length + 1) ?_, f2⟩
  exact e1.trans (by simpa [recsN] using f1)
theorem spec_Records_spec (d : List UInt8) (hd : d.length ≤ 1048576) : NN fn.spec_Records [.str (bs d)] = some (.tup [fzl false 1 cs (recsM d), .int .i64 (recsN d)]) := by
  obtain ⟨v, H, e1, e2⟩ := l4_all (d.length + 1) (fun x v2 v3 h => kb 0 x fun x => kend x (finN (.tup [v2, v3]) h)) d hd .nils (.int .i64 0) (d.length + 1) 0 [] .emp [] (Nat.zero_le _) (by omega) (.inl ⟨rfl, rfl⟩) (Nat.le_refl _)
  rw [List.drop_zero, Nat.zero_add] at e1
  rw [List.drop_zero, List.nil_append] at e2
  obtain ⟨r, hr⟩ := e2.frz (d := 7) (fun _ => rfl) (fun a _ => .cs)
  have fz : finN (.tup [v, .int .i64 (recsN d)]) H = some (.tup [fzl false 1 cs (recsM d), .int .i64 (recsN d)]) := finN_of (frz_tup (.cons hr (.cons rfl .nil)))
  refine S.spec_Records.gives (k := d.length + 1) ?_
  exact e1.trans (by simpa [recsN] using fz)
end Go.Proofs.YtklhdbkaejbajaaDoor.G
