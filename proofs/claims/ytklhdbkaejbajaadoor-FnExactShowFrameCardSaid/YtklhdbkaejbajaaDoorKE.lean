/- Library functions that are told by a rule of their own. -/
import Derived.Test.YtklhdbkaejbajaaDoorK6
import Derived.Lib.ItoaNum
import Derived.Lib.ParseIntB
import Derived.Lib.IndexMore
import Derived.Lib.SplitLaws
import Derived.Lib.Strings
import Derived.Lib.Join
namespace Go.Proofs.YtklhdbkaejbajaaDoor.G
open Go.RowKit
set_option linter.unusedVariables false

/-- strconv.FormatInt, base 10. -/
def rFormatInt : List GV → Option GV
  | [.int .i64 n, .int .i64 (.ofNat 10)] => if -9223372036854775808 ≤ n ∧ n ≤ 9223372036854775807 then some (.str ⟨(Lib.itoa n).toArray⟩) else none
  | _ => none
/-- strconv.ParseInt, base 10, 64 bits. -/
def rParseInt : List GV → Option GV
  | [.str s, .int .i64 (.ofNat 10), .int .i64 (.ofNat 64)] =>
    if s.size ≤ 281474976710656 then
      match Lib.parseIntB 64 s.data.toList with
      | .ok v => some (.tup [.int .i64 v, .nili])
      | .range => some (.tup [.int .i64 (Lib.intSat 64 s.data.toList), .ifc])
      | _ => some (.tup [.int .i64 0, .ifc])
    else none
  | _ => none
/-- strings.Cut. -/
def rCut : List GV → Option GV
  | [.str s, .str sep] =>
    if s.size < 4294967281 then some (.tup [.str ⟨(Lib.cut s.data.toList sep.data.toList).1.toArray⟩, .str ⟨(Lib.cut s.data.toList sep.data.toList).2.1.toArray⟩, .bool (Lib.cut s.data.toList sep.data.toList).2.2]) else none
  | _ => none
/-- strings.IndexByte. -/
def rIndexByte : List GV → Option GV
  | [.str s, .int .u8 c] => some (.int .i64 (Lib.indexByte s.data.toList c.toNat.toUInt8))
  | _ => none
/-- strings.Split. -/
def rSplit : List GV → Option GV
  | [.str s, .str sep] => if s.size < 4294967281 ∧ 1 ≤ sep.size then some (.fz false (Lib.countB s sep + 1) 1 ((Lib.splitB sep 0 (Lib.countB s sep) s).map .str)) else none
  | _ => none
/-- strings.Count, at a text that is not empty. -/
def rCountS : List GV → Option GV
  | [.str s, .str sep] => if s.size < 4294967281 ∧ 1 ≤ sep.size then some (.int .i64 (Lib.countB s sep)) else none
  | _ => none
/-- strings.Index. -/
def rIndexS : List GV → Option GV
  | [.str s, .str sep] => if s.size < 4294967281 then some (.int .i64 (Lib.index s.data.toList sep.data.toList)) else none
  | _ => none
def strOf : GV → Option ByteArray
  | .str s => some s
  | _ => none
/-- strings.Join. -/
def rJoin : List GV → Option GV
  | [.fz _ 0 _ _, .str _] => some (.str ⟨#[]⟩)
  | [.fz _ (n + 1) (.succ .zero) cells, .str sep] =>
    (cells.mapM strOf).bind fun xs => if xs.length = n + 1 ∧ xs.length ≤ 140737488355328 ∧ (Lib.join (xs.map (·.data.toList)) sep.data.toList).length ≤ 140737488355328 then some (.str ⟨(Lib.join (xs.map (·.data.toList)) sep.data.toList).toArray⟩) else none
  | _ => none

/-! What the rules hand back names no block. -/
theorem nb_rFormatInt {xs : List GV} {v : GV} (e : rFormatInt xs = some v) : Bk NB v := by
  unfold rFormatInt at e
  split at e
  · split at e
    · cases e; trivial
    · cases e
  · cases e
theorem nb_rParseInt {xs : List GV} {v : GV} (e : rParseInt xs = some v) : Bk NB v := by
  unfold rParseInt at e
  split at e
  · split at e
    · split at e <;> (cases e; exact ⟨trivial, trivial, trivial⟩)
    · cases e
  · cases e
theorem nb_rCut {xs : List GV} {v : GV} (e : rCut xs = some v) : Bk NB v := by
  unfold rCut at e
  split at e
  · split at e
    · cases e; exact ⟨trivial, trivial, trivial, trivial⟩
    · cases e
  · cases e
theorem nb_rIndexByte {xs : List GV} {v : GV} (e : rIndexByte xs = some v) : Bk NB v := by
  unfold rIndexByte at e
  split at e
  · cases e; trivial
  · cases e
theorem nb_rSplit {xs : List GV} {v : GV} (e : rSplit xs = some v) : Bk NB v := by
  unfold rSplit at e
  split at e
  · split at e
    · cases e
      exact Bks_iff.2 fun g hg => by obtain ⟨b, _, rfl⟩ := List.mem_map.1 hg; trivial
    · cases e
  · cases e
theorem nb_rCountS {xs : List GV} {v : GV} (e : rCountS xs = some v) : Bk NB v := by
  unfold rCountS at e
  split at e
  · split at e
    · cases e; trivial
    · cases e
  · cases e
theorem nb_rIndexS {xs : List GV} {v : GV} (e : rIndexS xs = some v) : Bk NB v := by
  unfold rIndexS at e
  split at e
  · split at e
    · cases e; trivial
    · cases e
  · cases e
theorem nb_rJoin {xs : List GV} {v : GV} (e : rJoin xs = some v) : Bk NB v := by
  unfold rJoin at e
  split at e
  · cases e; trivial
  · obtain ⟨ys, _, e⟩ := Option.bind_eq_some_iff.1 e
    split at e
    · cases e; trivial
    · cases e
  · cases e

/-! What the rules ask of the library. -/
section
variable (P : Program) (f : FuncId)
def oFormatInt : Prop := ∀ (n : Int) (w : World) (Pp : Nat → Prop), GL w Pp → -9223372036854775808 ≤ n → n ≤ 9223372036854775807 →
  Calls P f #[.int .i64 n, .int .i64 10] w fun e w' => e = .returned (.string ⟨(Lib.itoa n).toArray⟩) ∧ Below w.heap.size w w'
def oParseInt : Prop := ∀ (s : ByteArray) (w : World) (Pp : Nat → Prop), GL w Pp → s.size ≤ 281474976710656 →
  (∀ v, Lib.parseIntB 64 s.data.toList = .ok v → Calls P f #[.string s, .int .i64 10, .int .i64 64] w fun e w' => e = .returned (.tuple #[.int .i64 v, .nilIface]) ∧ Below w.heap.size w w') ∧
  ((∀ v, Lib.parseIntB 64 s.data.toList ≠ .ok v) → Lib.parseIntB 64 s.data.toList ≠ .range → Calls P f #[.string s, .int .i64 10, .int .i64 64] w fun e w' => (∃ t x, e = .returned (.tuple #[.int .i64 0, .iface t x])) ∧ Below w.heap.size w w') ∧
  (Lib.parseIntB 64 s.data.toList = .range → Calls P f #[.string s, .int .i64 10, .int .i64 64] w fun e w' => (∃ t x, e = .returned (.tuple #[.int .i64 (Lib.intSat 64 s.data.toList), .iface t x])) ∧ Below w.heap.size w w')
def oCut : Prop := ∀ (s sep : ByteArray) (w : World) (Pp : Nat → Prop), GL w Pp → s.size < 4294967281 →
  Calls P f #[.string s, .string sep] w fun e w' => e = .returned (.tuple #[.string ⟨(Lib.cut s.data.toList sep.data.toList).1.toArray⟩, .string ⟨(Lib.cut s.data.toList sep.data.toList).2.1.toArray⟩, .bool (Lib.cut s.data.toList sep.data.toList).2.2]) ∧ Below w.heap.size w w'
def oIndexByte : Prop := ∀ (s : ByteArray) (c : Int) (w : World), Calls P f #[.string s, .int .u8 c] w fun e w' => e = .returned (.int .i64 (Lib.indexByte s.data.toList c.toNat.toUInt8)) ∧ w' = w
def oSplit : Prop := ∀ (s sep : ByteArray) (w : World) (Pp : Nat → Prop), GL w Pp → s.size < 4294967281 → 1 ≤ sep.size →
  Calls P f #[.string s, .string sep] w fun e w' => e = .returned (.slice (some ⟨w.heap.size, 0, none⟩) (Lib.countB s sep + 1) (Lib.countB s sep + 1)) ∧ ∃ ty, w' = w.alloc (.cells ((Lib.splitB sep 0 (Lib.countB s sep) s).map Value.string).toArray ty)
def oCountS : Prop := ∀ (s sep : ByteArray) (w : World) (Pp : Nat → Prop), GL w Pp → s.size < 4294967281 → 1 ≤ sep.size →
  Calls P f #[.string s, .string sep] w fun e w' => e = .returned (.int .i64 (Lib.countB s sep)) ∧ w' = w
def oIndexS : Prop := ∀ (s sep : ByteArray) (w : World) (Pp : Nat → Prop), GL w Pp → s.size < 4294967281 →
  Calls P f #[.string s, .string sep] w fun e w' => e = .returned (.int .i64 (Lib.index s.data.toList sep.data.toList)) ∧ w' = w
def oJoin : Prop := (∀ (a : Option Addr) (c : Nat) (sep : ByteArray) (w : World), Calls P f #[.slice a 0 c, .string sep] w fun e w' => e = .returned (.string ⟨#[]⟩) ∧ w' = w) ∧
  ∀ (bk o c : Nat) (xs : List ByteArray) (sep : ByteArray) (w : World), (∀ (j : Nat) x, xs[j]? = some x → w.cell? ⟨bk, o + j, none⟩ = some (.string x)) → bk < w.heap.size → xs.length ≤ 140737488355328 → xs.length ≤ c →
    (Lib.join (xs.map (·.data.toList)) sep.data.toList).length ≤ 140737488355328 →
    Calls P f #[.slice (some ⟨bk, o, none⟩) xs.length c, .string sep] w fun e w' => e = .returned (.string ⟨(Lib.join (xs.map (·.data.toList)) sep.data.toList).toArray⟩) ∧ Below w.heap.size w w'
end
/-- A rule and the library's function. -/
def RuleOk (P : Program) (f : FuncId) (e : List GV → Option GV) : Prop := ∀ (args : List GV) (v : GV) (us : List Value) (w : World) (Pp Pt : Nat → Prop),
  e args = some v → VRs w E0 Pp args Pt us → (∀ c, Pp c ∨ Pt c → c < w.heap.size) → GL w Pp →
  Calls P f us.toArray w fun | .returned u, w' => VR w' E0 (fun c => w.heap.size ≤ c ∧ c < w'.heap.size) v (fun _ => False) u ∧ Below w.heap.size w w' | _, _ => False

section
variable {P : Program} {f : FuncId}
theorem rule1 {us : List Value} {w : World} {v : GV} {u : Value} {Q : World → Prop} (h : Calls P f us.toArray w fun e w' => e = .returned u ∧ Q w') (hq : ∀ w', Q w' → Below w.heap.size w w') (hv : ∀ w', VR w' E0 (fun c => w.heap.size ≤ c ∧ c < w'.heap.size) v (fun _ => False) u) :
    Calls P f us.toArray w fun | .returned u, w' => VR w' E0 (fun c => w.heap.size ≤ c ∧ c < w'.heap.size) v (fun _ => False) u ∧ Below w.heap.size w w' | _, _ => False :=
  Calls.mono h fun en w' ⟨he, hb⟩ => by subst he; exact ⟨hv w', hq w' hb⟩
theorem ruleFormatInt (h : oFormatInt P f) : RuleOk P f rFormatInt := by
  intro args v us w Pp Pt e hv hlt hgl
  unfold rFormatInt at e
  split at e
  · rename_i n
    split at e
    · rename_i hn
      cases e
      obtain ⟨u1, us1, rfl, h1, u2, us2, rfl, h2, h3⟩ := hv
      simp only [VRi, VRsi] at h1 h2 h3
      subst h1 h2 h3
      exact rule1 (h n w Pp hgl hn.1 hn.2) (fun _ h => h) fun _ => rfl
    · cases e
  · cases e
theorem ruleParseInt (h : oParseInt P f) : RuleOk P f rParseInt := by
  intro args v us w Pp Pt e hv hlt hgl
  unfold rParseInt at e
  split at e
  · rename_i s
    split at e
    · rename_i hn
      obtain ⟨u1, us1, rfl, h1, u2, us2, rfl, h2, u3, us3, rfl, h3, h4⟩ := hv
      simp only [VRi, VRsi] at h1 h2 h3 h4
      subst h1 h2 h3 h4
      obtain ⟨g1, g2, g3⟩ := h s w Pp hgl hn
      split at e
      · rename_i v hp
        cases e
        exact rule1 (g1 v hp) (fun _ h => h) fun _ => ⟨_, rfl, _, _, rfl, rfl, _, _, rfl, rfl, rfl⟩
      · rename_i hp
        cases e
        refine Calls.mono (g3 hp) fun en w' ⟨⟨t, x, he⟩, hb⟩ => ?_
        subst he
        exact ⟨⟨_, rfl, _, _, rfl, rfl, _, _, rfl, ⟨t, x, rfl⟩, rfl⟩, hb⟩
      · rename_i hp1 hp2
        cases e
        refine Calls.mono (g2 hp1 hp2) fun en w' ⟨⟨t, x, he⟩, hb⟩ => ?_
        subst he
        exact ⟨⟨_, rfl, _, _, rfl, rfl, _, _, rfl, ⟨t, x, rfl⟩, rfl⟩, hb⟩
    · cases e
  · cases e
theorem ruleCut (h : oCut P f) : RuleOk P f rCut := by
  intro args v us w Pp Pt e hv hlt hgl
  unfold rCut at e
  split at e
  · rename_i s sep
    split at e
    · rename_i hn
      cases e
      obtain ⟨u1, us1, rfl, h1, u2, us2, rfl, h2, h3⟩ := hv
      simp only [VRi, VRsi] at h1 h2 h3
      subst h1 h2 h3
      exact rule1 (h s sep w Pp hgl hn) (fun _ h => h) fun _ => ⟨_, rfl, _, _, rfl, rfl, _, _, rfl, rfl, _, _, rfl, rfl, rfl⟩
    · cases e
  · cases e
theorem ruleIndexByte (h : oIndexByte P f) : RuleOk P f rIndexByte := by
  intro args v us w Pp Pt e hv hlt hgl
  unfold rIndexByte at e
  split at e
  · rename_i s c
    cases e
    obtain ⟨u1, us1, rfl, h1, u2, us2, rfl, h2, h3⟩ := hv
    simp only [VRi, VRsi] at h1 h2 h3
    subst h1 h2 h3
    exact rule1 (h s c w) (fun _ h => h ▸ Below.refl _ _) fun _ => rfl
  · cases e
theorem ruleCountS (h : oCountS P f) : RuleOk P f rCountS := by
  intro args v us w Pp Pt e hv hlt hgl
  unfold rCountS at e
  split at e
  · rename_i s sep
    split at e
    · rename_i hn
      cases e
      obtain ⟨u1, us1, rfl, h1, u2, us2, rfl, h2, h3⟩ := hv
      simp only [VRi, VRsi] at h1 h2 h3
      subst h1 h2 h3
      exact rule1 (h s sep w Pp hgl hn.1 hn.2) (fun _ h => h ▸ Below.refl _ _) fun _ => rfl
    · cases e
  · cases e
theorem ruleIndexS (h : oIndexS P f) : RuleOk P f rIndexS := by
  intro args v us w Pp Pt e hv hlt hgl
  unfold rIndexS at e
  split at e
  · rename_i s sep
    split at e
    · rename_i hn
      cases e
      obtain ⟨u1, us1, rfl, h1, u2, us2, rfl, h2, h3⟩ := hv
      simp only [VRi, VRsi] at h1 h2 h3
      subst h1 h2 h3
      exact rule1 (h s sep w Pp hgl hn) (fun _ h => h ▸ Below.refl _ _) fun _ => rfl
    · cases e
  · cases e
theorem ruleSplit (h : oSplit P f) : RuleOk P f rSplit := by
  intro args v us w Pp Pt e hv hlt hgl
  unfold rSplit at e
  split at e
  · rename_i s sep
    split at e
    · rename_i hn
      cases e
      obtain ⟨u1, us1, rfl, h1, u2, us2, rfl, h2, h3⟩ := hv
      simp only [VRi, VRsi] at h1 h2 h3
      subst h1 h2 h3
      refine Calls.mono (h s sep w Pp hgl hn.1 hn.2) fun en w' ⟨he, ty, hw⟩ => ?_
      subst he hw
      have hl : (Lib.splitB sep 0 (Lib.countB s sep) s).length = Lib.countB s sep + 1 := Lib.splitB_all sep hn.2 0 _ s rfl
      refine ⟨.inr ⟨⟨w.heap.size, 0, none⟩, _, rfl, Nat.le_refl _, by simp [hl], fun _ => ⟨?_, (Lib.splitB sep 0 (Lib.countB s sep) s).map Value.string, ?_, ?_⟩⟩, ⟨rfl, rfl, rfl, ?_, fun k hk => ?_⟩⟩
      · rw [if_neg (by simp)]
        show w.heap.size ≤ w.heap.size ∧ w.heap.size < (w.heap.push _).size
        simp
      · refine VRs_of (by simp) fun j g u e1 e2 => ?_
        rw [List.getElem?_map, Option.map_eq_some_iff] at e1 e2
        obtain ⟨x, hx, rfl⟩ := e1
        obtain ⟨y, hy, rfl⟩ := e2
        rw [hx] at hy
        cases hy
        rfl
      · intro j u hu
        unfold World.cell?
        rw [add_block, heap_alloc_new]
        have e0 : (({ block := w.heap.size, off := 0, spot := none } : Addr).add j).spot = none ∧ (({ block := w.heap.size, off := 0, spot := none } : Addr).add j).off = j := by unfold Addr.add; split <;> simp_all
        simp only [e0.1, e0.2]
        simpa using hu
      · show w.heap.size ≤ (w.heap.push _).size
        simp
      · show (w.heap.push _)[k]? = _
        rw [Array.getElem?_push]; simp; omega
    · cases e
  · cases e
theorem mapM_str : ∀ {cells : List GV} {xs : List ByteArray}, cells.mapM strOf = some xs → cells = xs.map .str
  | [], xs, e => by simp at e; subst e; rfl
  | c :: cells, xs, e => by
    simp only [List.mapM_cons, Option.bind_eq_bind, Option.bind_eq_some_iff, Option.pure_def, Option.some.injEq] at e
    obtain ⟨x, h1, ys, h2, rfl⟩ := e
    cases c with
    | str s => cases h1; rw [mapM_str h2]; rfl
    | _ => cases h1
theorem ruleJoin (h : oJoin P f) : RuleOk P f rJoin := by
  intro args v us w Pp Pt e hv hlt hgl
  unfold rJoin at e
  split at e
  · cases e
    obtain ⟨u1, us1, rfl, h1, u2, us2, rfl, h2, h3⟩ := hv
    simp only [VRsi] at h3
    simp only [VRi] at h2
    subst h2 h3
    rcases h1 with ⟨_, _, _, rfl⟩ | ⟨A, cap', rfl, _⟩
    · exact rule1 (h.1 none 0 _ w) (fun _ h => h ▸ Below.refl _ _) fun _ => rfl
    · exact rule1 (h.1 (some A) cap' _ w) (fun _ h => h ▸ Below.refl _ _) fun _ => rfl
  · rename_i n cells sep
    obtain ⟨xs, hx, e⟩ := Option.bind_eq_some_iff.1 e
    split at e
    · rename_i hc
      obtain ⟨c1, c2, c3⟩ := hc
      cases e
      have hcs := mapM_str hx
      obtain ⟨u1, us1, rfl, h1, u2, us2, rfl, h2, h3⟩ := hv
      simp only [VRsi] at h3
      simp only [VRi] at h2
      subst h2 h3
      obtain ⟨A, cap', rfl, h4, h5, h6⟩ := h1.resolve_left (by simp)
      have hne : cells ≠ [] := fun e => by rw [e] at h5; simp at h5
      obtain ⟨h7, us, h8, h9⟩ := h6 hne
      have hul := VRs_len h8
      have hcell : ∀ (j : Nat) x, xs[j]? = some x → w.cell? (A.add j) = some (.string x) := fun j x hj => by
        obtain ⟨u, hu, hvu⟩ := VRs_get h8 j (.str x) (by rw [hcs, List.getElem?_map, hj]; rfl)
        rw [h9 j u hu]
        exact congrArg some hvu
      have h0 : 0 < xs.length := by omega
      have hsp : A.spot = none := by
        have := hcell 0 xs[0] (List.getElem?_eq_getElem h0)
        unfold Addr.add World.cell? at this
        rw [if_pos rfl] at this
        split at this
        · split at this
          · cases this
          · rename_i hn; simpa using hn
        · cases this
      have hA : ∀ j, A.add j = ⟨A.block, A.off + j, none⟩ := fun j => by
        unfold Addr.add
        split
        · rename_i hj; subst hj; cases A; simp_all
        · rfl
      have hA0 : A = ⟨A.block, A.off, none⟩ := by cases A; simp_all
      have hb : A.block < w.heap.size := by
        split at h7
        · exact hlt _ h7.symm
        · exact hlt _ (.inl h7)
      rw [hA0, Nat.succ_eq_add_one, ← c1]
      exact rule1 (h.2 A.block A.off cap' xs sep w (fun j x hj => by rw [← hA]; exact hcell j x hj) hb c2 (by omega) c3) (fun _ h => h) fun _ => rfl
    · cases e
  · cases e
end
end Go.Proofs.YtklhdbkaejbajaaDoor.G
