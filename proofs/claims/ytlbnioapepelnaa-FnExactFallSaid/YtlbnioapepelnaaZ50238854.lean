/- Written by mgen.py: types, and what the functions of the laws that go over them answer; how such data lie in memory, their marks. -/
import Derived.Test.YtlbnioapepelnaaZ39430fd3
import Derived.Test.YtlbnioapepelnaaZe43b1442
set_option linter.unusedSimpArgs false
set_option linter.unusedVariables false
namespace Go.Proofs.Ytlbnioapepelnaa.G
open Go.RowKit
/-! The text of a mark. -/
noncomputable def mtext (k : Nat) : ByteArray := match NN fn.laws_markText [.int .i64 (k : Int)] with | some (.str s) => s | _ => default
theorem markText_loop {R : Type} : ∀ (r n : Nat) (s : ByteArray) (v2 : GV) (h : Heap), n < 10 ^ r → n ≤ 4611686018427387904 → s.size + r ≤ 1000 → ∃ s' h', s'.size ≤ 1000 ∧ ∀ (k : Nat) (G : GX → GV → GV → Heap → Option R), S.laws_markText.l6 k G (r + 1) (.int .i64 (n : Int)) v2 (.str s) h = G (.ext 0) v2 (.str s') h' := by
  intro r
  induction r with
  | zero =>
    intro n s v2 h hn hn' hs
    have : n = 0 := by simpa using hn
    subst this
    refine ⟨s, h, by omega, fun k G => ?_⟩
    simp [S.laws_markText.l6]
  | succ r ih =>
    intro n s v2 h hn hn' hs
    by_cases h0 : n = 0
    · subst h0
      refine ⟨s, h, by omega, fun k G => ?_⟩
      simp [S.laws_markText.l6]
    · have g0 : (0 : Int) < n := by omega
      have hd : n / 10 < 10 ^ r := by rw [Nat.pow_succ] at hn; omega
      have hq : (n : Int).tdiv 10 = ((n / 10 : Nat) : Int) := by rw [Int.tdiv_eq_ediv_of_nonneg (by omega)]; omega
      have w : IntKind.i64.wrap (((n / 10 : Nat) : Int)) = ((n / 10 : Nat) : Int) := by rw [wrap_id] <;> omega
      have e1 : kbin .quo (.int .i64 (n : Int)) (.int .i64 10) = some (.int .i64 ((n / 10 : Nat) : Int)) := by rw [kbin_quo (by omega), hq, w]
      obtain ⟨d, hd1⟩ : ∃ d : Int, kbin .rem (.int .i64 (n : Int)) (.int .i64 10) = some (.int .i64 d) := ⟨_, kbin_rem (by omega)⟩
      obtain ⟨s1, h1, hs1, ih1⟩ := ih (n / 10) ((⟨#[UInt8.ofNat (IntKind.u8.wrap (IntKind.i64.wrap (48 + d))).toNat]⟩ : ByteArray) ++ s) v2 (h ++ [[.int .u8 (IntKind.u8.wrap (IntKind.i64.wrap (48 + d)))]]) hd (by omega) (by rw [ByteArray.size_append]; show 1 + s.size + r ≤ 1000; omega)
      refine ⟨s1, h1, hs1, fun k G => ?_⟩
      have e2 : kbstr (h ++ [[.int .u8 (IntKind.u8.wrap (IntKind.i64.wrap (48 + d)))]]) (.sl h.length 0 1 1 1) = some (.str ⟨#[UInt8.ofNat (IntKind.u8.wrap (IntKind.i64.wrap (48 + d))).toNat]⟩) := by
        simp [kbstr, gcells, gbyte]
      have e3 := kbin_sadd (a := ⟨#[UInt8.ofNat (IntKind.u8.wrap (IntKind.i64.wrap (48 + d))).toNat]⟩) (b := s) (by show 1 + s.size ≤ maxLen; simp only [maxLen]; omega)
      have g1 : 0 < n := by omega
      rw [S.laws_markText.l6]
      simp [g0, g1, hd1, gfill, zeros, kbs, e2, e3, -Int.natCast_ediv, e1, ih1]
theorem laws_markText_spec (k : Nat) (hk : k ≤ 4611686018427387904) : NN fn.laws_markText [.int .i64 (k : Int)] = some (.str (mtext k)) := by
  have : ∃ s, NN fn.laws_markText [.int .i64 (k : Int)] = some (.str s) := by
    by_cases h0 : k = 0
    · subst h0
      refine ⟨_, S.laws_markText.gives (k := 0) (v := .str ⟨#[109, 48]⟩) ?_⟩
      simp [S.laws_markText.run]
    · obtain ⟨s, h, hs, e⟩ := markText_loop (R := GV) 30 k ⟨#[]⟩ (.str ⟨#[]⟩) [] (by omega) hk (by show 0 + 30 ≤ 1000; omega)
      refine ⟨_, S.laws_markText.gives (k := 31) (v := .str (⟨#[109]⟩ ++ s)) ?_⟩
      have g0 : ¬ ((k : Int) ≤ 0) := by omega
      have e3 := kbin_sadd (a := ⟨#[109]⟩) (b := s) (by show 1 + s.size ≤ maxLen; simp only [maxLen]; omega)
      simp [S.laws_markText.run, g0, h0, e, e3]
  obtain ⟨s, hs⟩ := this
  have : mtext k = s := by unfold mtext; rw [hs]
  rw [this, hs]


/-! StringS -/
abbrev mStringS (t : Bool) (a : List (ByteArray)) : List GV := [fzl t 1 cs a]
def zStringS (a : List (ByteArray)) : Nat := a.length + (a.map fun x => x.size).sum
def okStringS (a : List (ByteArray)) : Prop := a.length ≤ 1048576 ∧ ∀ x ∈ a, x.size ≤ 1048576
theorem okStringS_of {a : List (ByteArray)} (h : zStringS a ≤ 1048576) : okStringS a := by
  unfold zStringS at h
  refine ⟨by omega, fun x hx => ?_⟩
  have : x.size ≤ _ := sum_mem (c := fun x => x.size) hx
  omega
@[simp] theorem kload1_StringS {h : Heap} {t : Bool} {xs : List (List (ByteArray))} {j : Nat} : kload1 h (elp t (mStringS t) xs j) = xs[j]?.map fun a => fzl t 1 cs a := kload1_elp _ (fun _ => rfl)
@[simp] theorem kia_StringS {t : Bool} {xs : List (List (ByteArray))} {k : IntKind} {i : Int} : kia 1 (fzl t 1 (mStringS t) xs) (.int k i) = if 0 ≤ i ∧ i < xs.length then some (elp t (mStringS t) xs i.toNat) else none := kia_fzl (es := 1) (fun _ => rfl)
theorem ld_StringS {d : Nat} {t : Bool} (a : List (ByteArray)) : (mStringS t a).map (lend (d + 1)) = mStringS true a := map_cons' (lend_fzl (d := d) (mk := cs) (mk' := cs) (fun a => map_cons' lend_str rfl) a) (rfl)
@[simp] theorem bor_StringS {d : Nat} {h : Heap} {t : Bool} {xs : List (List (ByteArray))} : bor (d + 3) h (fzl t 1 (mStringS t) xs) = some (fzl true 1 (mStringS true) xs, []) := bor_fzl (d := d + 2) (fun a => ld_StringS (d := d + 1) a) xs
open Classical in
theorem laws_eqStringS_spec (xs ys : List (ByteArray)) (hm : okStringS xs) : NN fn.laws_eqStringS [fzl true 1 cs xs, fzl true 1 cs ys] = some (.bool (decide (xs = ys))) := by
  apply S.laws_eqStringS.gives (k := xs.length + 1)
  have hm' : xs.length ≤ 1048576 := hm.1
  simp [S.laws_eqStringS.run]
  by_cases hl : xs.length = ys.length
  · have hi : (xs.length : Int) = ys.length := by omega
    simp [hi]
    refine (loop_all (f := fun r j => S.laws_eqStringS.l6 _ _ r _ _ _ (.int .i64 (j : Int)) _) (A := some (GV.bool true)) (B := some (GV.bool false)) (n := xs.length) (P := fun j => xs[j]? = ys[j]?) (fun j r hj => ?_) (fun r => ?_) (xs.length + 1) 0 (by omega) (by omega)).trans ?_
    · have h1 : (j : Int) < xs.length := by omega
      have h2 : (j : Int) < ys.length := by omega
      have h3 : j < ys.length := by omega
      have w := wrap_succ (n := j) (by simp only [maxLen]; omega)
      by_cases hc : xs[j] = ys[j]
      · simp [S.laws_eqStringS.l6, h1, h2, get_of hj, get_of h3, w, hc]
      · simp [S.laws_eqStringS.l6, h1, h2, get_of hj, get_of h3, w, hc]
    · simp [S.laws_eqStringS.l6]
    · simp [list_eq_iff hl]
      by_cases hx : xs = ys <;> simp [hx]
  · have : ¬ ((xs.length : Int) = ys.length) := by omega
    have hne : xs ≠ ys := fun h => hl (by rw [h])
    simp [this, hne]

/-! Int64S -/
abbrev mInt64S (t : Bool) (a : List (Int)) : List GV := [fzl t 1 ci a]
abbrev zInt64S (a : List (Int)) : Nat := a.length
abbrev okInt64S (a : List (Int)) : Prop := a.length ≤ 1048576
@[simp] theorem kload1_Int64S {h : Heap} {t : Bool} {xs : List (List (Int))} {j : Nat} : kload1 h (elp t (mInt64S t) xs j) = xs[j]?.map fun a => fzl t 1 ci a := kload1_elp _ (fun _ => rfl)
@[simp] theorem kia_Int64S {t : Bool} {xs : List (List (Int))} {k : IntKind} {i : Int} : kia 1 (fzl t 1 (mInt64S t) xs) (.int k i) = if 0 ≤ i ∧ i < xs.length then some (elp t (mInt64S t) xs i.toNat) else none := kia_fzl (es := 1) (fun _ => rfl)
theorem ld_Int64S {d : Nat} {t : Bool} (a : List (Int)) : (mInt64S t a).map (lend (d + 1)) = mInt64S true a := map_cons' (lend_fzl (d := d) (mk := ci) (mk' := ci) (fun a => map_cons' lend_int rfl) a) (rfl)
@[simp] theorem bor_Int64S {d : Nat} {h : Heap} {t : Bool} {xs : List (List (Int))} : bor (d + 3) h (fzl t 1 (mInt64S t) xs) = some (fzl true 1 (mInt64S true) xs, []) := bor_fzl (d := d + 2) (fun a => ld_Int64S (d := d + 1) a) xs
open Classical in
theorem laws_eqInt64S_spec (xs ys : List (Int)) (hm : okInt64S xs) : NN fn.laws_eqInt64S [fzl true 1 ci xs, fzl true 1 ci ys] = some (.bool (decide (xs = ys))) := by
  apply S.laws_eqInt64S.gives (k := xs.length + 1)
  have hm' : xs.length ≤ 1048576 := hm
  simp [S.laws_eqInt64S.run]
  by_cases hl : xs.length = ys.length
  · have hi : (xs.length : Int) = ys.length := by omega
    simp [hi]
    refine (loop_all (f := fun r j => S.laws_eqInt64S.l6 _ _ r _ _ _ (.int .i64 (j : Int)) _) (A := some (GV.bool true)) (B := some (GV.bool false)) (n := xs.length) (P := fun j => xs[j]? = ys[j]?) (fun j r hj => ?_) (fun r => ?_) (xs.length + 1) 0 (by omega) (by omega)).trans ?_
    · have h1 : (j : Int) < xs.length := by omega
      have h2 : (j : Int) < ys.length := by omega
      have h3 : j < ys.length := by omega
      have w := wrap_succ (n := j) (by simp only [maxLen]; omega)
      by_cases hc : xs[j] = ys[j]
      · simp [S.laws_eqInt64S.l6, h1, h2, get_of hj, get_of h3, w, hc]
      · simp [S.laws_eqInt64S.l6, h1, h2, get_of hj, get_of h3, w, hc]
    · simp [S.laws_eqInt64S.l6]
    · simp [list_eq_iff hl]
      by_cases hx : xs = ys <;> simp [hx]
  · have : ¬ ((xs.length : Int) = ys.length) := by omega
    have hne : xs ≠ ys := fun h => hl (by rw [h])
    simp [this, hne]
abbrev rStringS : Rel (List (ByteArray)) := RSl 1 (RFl cs)
theorem goodStringS : Good 1 2 (mStringS true) rStringS := RSl.good (RFl.good (es := 1) (mk := cs) (fun _ => rfl) (fun _ => rfl))
def cStringS (xs : List (ByteArray)) : Nat := cntL (fun x => 1) xs
noncomputable def kStringS (xs : List (ByteArray)) (k : Nat) : List (ByteArray) := markL (fun x k => mtext (k)) (fun x => 1) xs k
theorem cStringS_le {xs : List (ByteArray)} (h : okStringS xs) : cStringS xs ≤ 1048576 := cntL_bound (M := 1048576) (B := 1) (h.1) (fun x hx => by show _ ≤ _; omega)
theorem laws_heldStringS_spec (xs : List (ByteArray)) (k : Nat) (hok : okStringS xs) (hk : k + cStringS xs ≤ 4611686018427387904) : NN fn.laws_heldStringS [(fzl true 1 cs (kStringS xs k)), .int .i64 (k : Int)] = some (.int .i64 ((k + cStringS xs : Nat) : Int)) := by
  have hlim : k + cntL (fun x => 1) xs ≤ 4611686018427387904 := hk
  have hlen : xs.length ≤ 1048576 := hok.1
  obtain ⟨ys, hys⟩ : ∃ ys, kStringS xs k = ys := ⟨_, rfl⟩
  have hl : ys.length = xs.length := by rw [← hys]; exact markL_len _ _
  have hg : ∀ j (hj : j < xs.length), ys[j]? = some (mtext ((k + cntL (fun x => 1) (xs.take j)))) := fun j hj => by rw [← hys]; exact markL_get xs k j hj
  rw [hys]
  apply S.laws_heldStringS.gives (k := xs.length + 1)
  have key := loop_to (f := fun r j => fun (G : GX → GV → GV → Heap → Option GV) => S.laws_heldStringS.l5 (xs.length + 1) G r (fzl true 1 cs ys) (.int .i64 ((k + cntL (fun x => 1) (xs.take j) : Nat) : Int)) (.int .i64 0) (.int .i64 (j : Int)) []) (A := fun G => G (.ext 0) (.int .i64 ((k + cStringS xs : Nat) : Int)) (.int .i64 0) []) (n := xs.length) ?_ ?_ (xs.length + 1) 0 (by omega) (by omega)
  · have key' := fun G => congrFun key G
    simp only [List.take_zero, cntL, List.map_nil, List.sum_nil, Nat.add_zero, show ((0 : Nat) : Int) = 0 from rfl] at key'
    simp [S.laws_heldStringS.run, key', -Int.natCast_add]
  · intro j r hj
    have g1 : (j : Int) < (ys.length : Int) := by omega
    have kj := kadd1 (n := j) (by omega)
    have q1 := cntL_take (c := (fun x => 1)) hj
    have q2 := cntL_le (c := (fun x => 1)) (xs := xs) (j + 1)
    have hgj := hg j hj
    try simp only at q1
    rw [q1, ← Nat.add_assoc]
    obtain ⟨K, hK⟩ : ∃ K, k + cntL (fun x => 1) (xs.take j) = K := ⟨_, rfl⟩
    have hKb : K + (1) ≤ 4611686018427387904 := by omega
    rw [hK] at hgj ⊢
    have t0 := laws_markText_spec (K) (by omega)
    have ka0 := kadd1 (n := K) (by omega)
    funext G
    simp only [S.laws_heldStringS.l5]
    simp [g1, hgj, kj, t0, ka0, -Int.natCast_add, -kbin_add]
    try rfl
  · intro r
    funext G
    have g1 : ¬ ((xs.length : Int) < (ys.length : Int)) := by omega
    simp only [S.laws_heldStringS.l5, List.take_length]
    simp [g1, -Int.natCast_add]
    try rfl
abbrev rInt64S : Rel (List (Int)) := RSl 1 (RFl ci)
theorem goodInt64S : Good 1 2 (fun xs : List Int => [fzl true 1 ci xs]) rInt64S := RSl.good (RFl.good (es := 1) (mk := ci) (fun _ => rfl) (fun _ => rfl))
def cInt64S (xs : List (Int)) : Nat := cntL (fun x => 1) xs
noncomputable def kInt64S (xs : List (Int)) (k : Nat) : List (Int) := markL (fun x k => ((k : Nat) : Int)) (fun x => 1) xs k
theorem cInt64S_le {xs : List (Int)} (h : okInt64S xs) : cInt64S xs ≤ 1048576 := cntL_bound (M := 1048576) (B := 1) (h) (fun x hx => by show _ ≤ _; omega)
theorem laws_heldInt64S_spec (xs : List (Int)) (k : Nat) (hok : okInt64S xs) (hk : k + cInt64S xs ≤ 4611686018427387904) : NN fn.laws_heldInt64S [(fzl true 1 ci (kInt64S xs k)), .int .i64 (k : Int)] = some (.int .i64 ((k + cInt64S xs : Nat) : Int)) := by
  have hlim : k + cntL (fun x => 1) xs ≤ 4611686018427387904 := hk
  have hlen : xs.length ≤ 1048576 := hok
  obtain ⟨ys, hys⟩ : ∃ ys, kInt64S xs k = ys := ⟨_, rfl⟩
  have hl : ys.length = xs.length := by rw [← hys]; exact markL_len _ _
  have hg : ∀ j (hj : j < xs.length), ys[j]? = some ((((k + cntL (fun x => 1) (xs.take j)) : Nat) : Int)) := fun j hj => by rw [← hys]; exact markL_get xs k j hj
  rw [hys]
  apply S.laws_heldInt64S.gives (k := xs.length + 1)
  have key := loop_to (f := fun r j => fun (G : GX → GV → GV → Heap → Option GV) => S.laws_heldInt64S.l5 (xs.length + 1) G r (fzl true 1 ci ys) (.int .i64 ((k + cntL (fun x => 1) (xs.take j) : Nat) : Int)) (.int .i64 0) (.int .i64 (j : Int)) []) (A := fun G => G (.ext 0) (.int .i64 ((k + cInt64S xs : Nat) : Int)) (.int .i64 0) []) (n := xs.length) ?_ ?_ (xs.length + 1) 0 (by omega) (by omega)
  · have key' := fun G => congrFun key G
    simp only [List.take_zero, cntL, List.map_nil, List.sum_nil, Nat.add_zero, show ((0 : Nat) : Int) = 0 from rfl] at key'
    simp [S.laws_heldInt64S.run, key', -Int.natCast_add]
  · intro j r hj
    have g1 : (j : Int) < (ys.length : Int) := by omega
    have kj := kadd1 (n := j) (by omega)
    have q1 := cntL_take (c := (fun x => 1)) hj
    have q2 := cntL_le (c := (fun x => 1)) (xs := xs) (j + 1)
    have hgj := hg j hj
    try simp only at q1
    rw [q1, ← Nat.add_assoc]
    obtain ⟨K, hK⟩ : ∃ K, k + cntL (fun x => 1) (xs.take j) = K := ⟨_, rfl⟩
    have hKb : K + (1) ≤ 4611686018427387904 := by omega
    rw [hK] at hgj ⊢
    have ka0 := kadd1 (n := K) (by omega)
    funext G
    simp only [S.laws_heldInt64S.l5]
    simp [g1, hgj, kj, ka0, -Int.natCast_add, -kbin_add]
    try rfl
  · intro r
    funext G
    have g1 : ¬ ((xs.length : Int) < (ys.length : Int)) := by omega
    simp only [S.laws_heldInt64S.l5, List.take_length]
    simp [g1, -Int.natCast_add]
    try rfl
theorem laws_markStringS_spec (h : Heap) (v : GV) (xs : List (ByteArray)) (R : List Nat) (k : Nat) (hok : okStringS xs) (he : rStringS h [v] xs R) (nd : R.Nodup) (hk : k + cStringS xs ≤ 4611686018427387904) : ∃ h', HH fn.laws_markStringS [v, .int .i64 (k : Int)] h = some (.int .i64 ((k + cStringS xs : Nat) : Int), h') ∧ rStringS h' [v] (kStringS xs k) R ∧ Fr R h h' := by
  have hlim : k + cntL (fun x => 1) xs ≤ 4611686018427387904 := hk
  have hlen : xs.length ≤ 1048576 := hok.1
  have key := mark_loop (E := (RFl cs)) (RFl.good (es := 1) (mk := cs) (fun _ => rfl) (fun _ => rfl)) (m := (fun x k => mtext (k))) (c := (fun x => 1)) (v := v) (xs := xs) (R := R) (k := k) nd (f := fun r j k h => fun (G : GX → GV → GV → Heap → Option (GV × Heap)) => S.laws_markStringS.l5 (xs.length + 1) G r v (.int .i64 (k : Int)) (.int .i64 0) (.int .i64 (j : Int)) h) (A := fun k h => fun G => G (.ext 0) (.int .i64 (k : Int)) (.int .i64 0) h) ?_ ?_ he (xs.length + 1) (by omega)
  · obtain ⟨h', a1, a2, a3⟩ := key
    refine ⟨h', S.laws_markStringS.gives (k := xs.length + 1) ?_, a2, a3⟩
    have a1' := fun G => congrFun a1 G
    simp only [show ((0 : Nat) : Int) = 0 from rfl] at a1'
    simp [S.laws_markStringS.run, a1', -Int.natCast_add]
    rfl
  · intro j r h ys he hl hj hy
    obtain ⟨b, css, c, r0, hv, hb, fl, hcn, hc, fe, hE, hbr, hbR, hrR, nd0, hup⟩ := RSl.focus (RFl.good (es := 1) (mk := cs) (fun _ => rfl) (fun _ => rfl)) he nd (j := j) (by omega)
    have ey : ys[j]'(by omega) = xs[j] := by rw [List.getElem?_eq_getElem (by omega)] at hy; exact Option.some.inj hy
    rw [ey] at hE
    rw [hl] at hv hcn
    have hcl := fe c (List.mem_of_getElem? hc)
    have hb0 : h[b]? = some (css.set j c).flatten := by rw [set_get_self hc]; exact hb
    have q1 := cntL_take (c := (fun x => 1)) hj
    have q2 := cntL_le (c := (fun x => 1)) (xs := xs) (j + 1)
    try simp only at q1
    obtain ⟨K, hK⟩ : ∃ K, k + cntL (fun x => 1) (xs.take j) = K := ⟨_, rfl⟩
    have hKb : K + (1) ≤ 4611686018427387904 := by omega
    rw [hK]
    clear hK q1 q2
    have hm := (RSl.good (RFl.good (es := 1) (mk := cs) (fun _ => rfl) (fun _ => rfl))).mem he
    have hbl := (List.getElem?_eq_some_iff.1 hb).1
    have kj := kadd1 (n := j) (by omega)
    have k0 : kia 1 (.sl b 0 xs.length xs.length 1) (.int .i64 (j : Int)) = some (.ptr b (j) (xs.length)) := kia_at hj (by omega) (by omega)
    obtain ⟨rfl, rfl⟩ := hE
    have t0 := laws_markText_spec (K) (by omega)
    obtain ⟨H1, m1, hb1, f1⟩ := st_leaf (es := 1) (off := 0) (x := (.str (mtext (K)))) (o := j) (tot := xs.length) hb0 fe hcn hj hcl (by omega) rfl rfl (by omega) (by omega)
    have g1 : Fr R h H1 := f1.sub (fun i hi => by rw [List.mem_singleton] at hi; rw [hi]; exact hbR)
    have ka0 := kadd1 (n := K) (by omega)
    have hcl1 : ((cs xs[j]).set 0 (.str (mtext (K)))).length = 1 := by rw [List.length_set]; exact hcl
    refine ⟨H1, ?_, hup H1 ((cs xs[j]).set 0 (.str (mtext (K)))) _ hb1 ⟨rfl, rfl⟩ (fun i hi hib hir => ?_), g1⟩
    · funext G
      simp only [S.laws_markStringS.l5, S.laws_markStringS.n8, S.laws_markStringS.n10, S.laws_markStringS.n9, S.laws_markStringS.n7, S.laws_markStringS.n6, hv, klen_sl, klt, decide_eq_true hj, kcond_bool, cond_true, kx_nrm, kb_nrm, Option.bind_some, kr_mk, kfa_ptr, kj, Nat.add_zero, kN_eq, bors_cons, bors_nil, bor_int, k0, t0, m1, ka0]
      try rfl
    · exact (f1.2 i (hm i hi) (by simpa using hib))
  · intro r h ys he hl
    have e1 := he.len
    rw [hl] at e1
    funext G
    simp only [S.laws_markStringS.l5, S.laws_markStringS.n6, S.laws_markStringS.n7, S.laws_markStringS.n8, S.laws_markStringS.n9, S.laws_markStringS.n10, e1, klt, Nat.lt_irrefl, decide_false, kcond_bool, cond_false, Option.bind_some, kx_ext, kb_ext]
    try rfl
theorem laws_markInt64S_spec (h : Heap) (v : GV) (xs : List (Int)) (R : List Nat) (k : Nat) (hok : okInt64S xs) (he : rInt64S h [v] xs R) (nd : R.Nodup) (hk : k + cInt64S xs ≤ 4611686018427387904) : ∃ h', HH fn.laws_markInt64S [v, .int .i64 (k : Int)] h = some (.int .i64 ((k + cInt64S xs : Nat) : Int), h') ∧ rInt64S h' [v] (kInt64S xs k) R ∧ Fr R h h' := by
  have hlim : k + cntL (fun x => 1) xs ≤ 4611686018427387904 := hk
  have hlen : xs.length ≤ 1048576 := hok
  have key := mark_loop (E := (RFl ci)) (RFl.good (es := 1) (mk := ci) (fun _ => rfl) (fun _ => rfl)) (m := (fun x k => ((k : Nat) : Int))) (c := (fun x => 1)) (v := v) (xs := xs) (R := R) (k := k) nd (f := fun r j k h => fun (G : GX → GV → GV → Heap → Option (GV × Heap)) => S.laws_markInt64S.l5 (xs.length + 1) G r v (.int .i64 (k : Int)) (.int .i64 0) (.int .i64 (j : Int)) h) (A := fun k h => fun G => G (.ext 0) (.int .i64 (k : Int)) (.int .i64 0) h) ?_ ?_ he (xs.length + 1) (by omega)
  · obtain ⟨h', a1, a2, a3⟩ := key
    refine ⟨h', S.laws_markInt64S.gives (k := xs.length + 1) ?_, a2, a3⟩
    have a1' := fun G => congrFun a1 G
    simp only [show ((0 : Nat) : Int) = 0 from rfl] at a1'
    simp [S.laws_markInt64S.run, a1', -Int.natCast_add]
    rfl
  · intro j r h ys he hl hj hy
    obtain ⟨b, css, c, r0, hv, hb, fl, hcn, hc, fe, hE, hbr, hbR, hrR, nd0, hup⟩ := RSl.focus (RFl.good (es := 1) (mk := ci) (fun _ => rfl) (fun _ => rfl)) he nd (j := j) (by omega)
    have ey : ys[j]'(by omega) = xs[j] := by rw [List.getElem?_eq_getElem (by omega)] at hy; exact Option.some.inj hy
    rw [ey] at hE
    rw [hl] at hv hcn
    have hcl := fe c (List.mem_of_getElem? hc)
    have hb0 : h[b]? = some (css.set j c).flatten := by rw [set_get_self hc]; exact hb
    have q1 := cntL_take (c := (fun x => 1)) hj
    have q2 := cntL_le (c := (fun x => 1)) (xs := xs) (j + 1)
    try simp only at q1
    obtain ⟨K, hK⟩ : ∃ K, k + cntL (fun x => 1) (xs.take j) = K := ⟨_, rfl⟩
    have hKb : K + (1) ≤ 4611686018427387904 := by omega
    rw [hK]
    clear hK q1 q2
    have hm := (RSl.good (RFl.good (es := 1) (mk := ci) (fun _ => rfl) (fun _ => rfl))).mem he
    have hbl := (List.getElem?_eq_some_iff.1 hb).1
    have kj := kadd1 (n := j) (by omega)
    have k0 : kia 1 (.sl b 0 xs.length xs.length 1) (.int .i64 (j : Int)) = some (.ptr b (j) (xs.length)) := kia_at hj (by omega) (by omega)
    obtain ⟨rfl, rfl⟩ := hE
    obtain ⟨H1, m1, hb1, f1⟩ := st_leaf (es := 1) (off := 0) (x := (.int .i64 ((K : Nat) : Int))) (o := j) (tot := xs.length) hb0 fe hcn hj hcl (by omega) rfl rfl (by omega) (by omega)
    have g1 : Fr R h H1 := f1.sub (fun i hi => by rw [List.mem_singleton] at hi; rw [hi]; exact hbR)
    have ka0 := kadd1 (n := K) (by omega)
    have hcl1 : ((ci xs[j]).set 0 (.int .i64 ((K : Nat) : Int))).length = 1 := by rw [List.length_set]; exact hcl
    refine ⟨H1, ?_, hup H1 ((ci xs[j]).set 0 (.int .i64 ((K : Nat) : Int))) _ hb1 ⟨rfl, rfl⟩ (fun i hi hib hir => ?_), g1⟩
    · funext G
      simp only [S.laws_markInt64S.l5, S.laws_markInt64S.n8, S.laws_markInt64S.n10, S.laws_markInt64S.n9, S.laws_markInt64S.n7, S.laws_markInt64S.n6, hv, klen_sl, klt, decide_eq_true hj, kcond_bool, cond_true, kx_nrm, kb_nrm, Option.bind_some, kr_mk, kfa_ptr, kj, Nat.add_zero, kN_eq, bors_cons, bors_nil, bor_int, k0, m1, ka0]
      try rfl
    · exact (f1.2 i (hm i hi) (by simpa using hib))
  · intro r h ys he hl
    have e1 := he.len
    rw [hl] at e1
    funext G
    simp only [S.laws_markInt64S.l5, S.laws_markInt64S.n6, S.laws_markInt64S.n7, S.laws_markInt64S.n8, S.laws_markInt64S.n9, S.laws_markInt64S.n10, e1, klt, Nat.lt_irrefl, decide_false, kcond_bool, cond_false, Option.bind_some, kx_ext, kb_ext]
    try rfl
theorem laws_szStringS_spec (xs : List (ByteArray)) (left : Int) (hi : inSl (fun x1 : ByteArray => x1.size ≤ maxLen) xs) (hl : 0 ≤ left) (hl' : left ≤ 1048576) : NN fn.laws_szStringS [fzl true 1 cs xs, .int .i64 left] = some (.int .i64 (if left < (zStringS xs : Int) then -1 else left - zStringS xs)) := by
  apply S.laws_szStringS.gives (k := xs.length + 1)
  have w := wrap_sub hl hl' hi.1
  simp [S.laws_szStringS.run, w]
  by_cases h : left < xs.length
  · have h1 : left - xs.length < 0 := by omega
    have h2 : left < (zStringS xs : Int) := by unfold zStringS; omega
    simp [h, h1, h2]
  · have h1 : ¬ (left - xs.length < 0) := by omega
    simp [h, h1]
    refine (loop_sz (xs := xs) (c := fun x => x.size) (f := fun r j l => S.laws_szStringS.l7 _ _ r _ (.int .i64 l) _ (.int .i64 (j : Int)) _) (A := fun l => some (GV.int .i64 l)) (B := some (GV.int .i64 (-1))) (fun j r l hj h0 h0' => ?_) (fun r l => ?_) (xs.length + 1) 0 _ (by omega) (by omega) (by omega) (by omega)).trans ?_
    · have g1 : (j : Int) < xs.length := by omega
      have ws := wrap_succ (n := j) (by have := hi.1; omega)
      have w2 := wrap_sub h0 h0' (hi.2 _ (List.getElem_mem hj))
      by_cases hc : l < ((xs[j].size : Nat) : Int)
      · have hc' : l - ((xs[j].size : Nat) : Int) < 0 := by omega
        simp [S.laws_szStringS.l7, g1, get_of hj, ws, w2, hc, hc']
      · have hc' : ¬ (l - ((xs[j].size : Nat) : Int) < 0) := by omega
        simp [S.laws_szStringS.l7, g1, get_of hj, ws, w2, hc, hc']
    · simp [S.laws_szStringS.l7]
    · simp only [List.drop_zero]
      have e : ((zStringS xs : Nat) : Int) = (xs.length : Int) + ((xs.map fun x => x.size).sum : Nat) := by unfold zStringS; omega
      by_cases hc : left < (zStringS xs : Int)
      · rw [if_pos hc, if_pos (by omega)]
      · rw [if_neg hc, if_neg (by omega)]
        congr 2; omega
theorem laws_szInt64S_spec (xs : List (Int)) (left : Int) (hm : xs.length ≤ maxLen) (hl : 0 ≤ left) (hl' : left ≤ 1048576) : NN fn.laws_szInt64S [fzl true 1 ci xs, .int .i64 left] = some (.int .i64 (if left < (zInt64S xs : Int) then -1 else left - zInt64S xs)) := by
  apply S.laws_szInt64S.gives (k := 0)
  have w := wrap_sub hl hl' hm
  simp [S.laws_szInt64S.run, w]
  by_cases h : left < xs.length
  · have : left - xs.length < 0 := by omega
    simp [h, this]
  · have : ¬ (left - xs.length < 0) := by omega
    simp [h, this]
theorem laws_toStringS_spec (xs : List (ByteArray)) (hm : okStringS xs) (b : Nat) : ∃ v bl, OO fn.laws_toStringS [fzl true 1 cs xs] b = some (v, bl) ∧ ∀ H T, H.length = b → rStringS (H ++ bl ++ T) [v] xs (List.range' b bl.length) := by
  have hm' : xs.length ≤ 1048576 := hm.1
  have hk := kmake_eq (z := [(.str { data := #[] })]) (es := 1) (b := 16) (h := []) hm' (by omega) rfl
  have key := fill_loop (E := (RFl cs)) (RFl.good (es := 1) (mk := cs) (fun _ => rfl) (fun _ => rfl)) (z := [(.str { data := #[] })]) rfl (xs := xs) (f := fun r j h => fun (G : GX → GV → GV → Heap → Option (GV × List (List GV))) => S.laws_toStringS.l6 (xs.length + 1) G r (fzl true 1 cs xs) .nils (.sl 0 0 xs.length xs.length 1) (.int .i64 (j : Int)) h) (A := fun h => fun G => G (.ext 0) .nils (.sl 0 0 xs.length xs.length 1) h) ?_ ?_ (xs.length + 1) (by omega)
  · obtain ⟨css, B, Rs, a1, a2, a3⟩ := key
    have he : rStringS (css.flatten :: B) [.sl 0 0 xs.length xs.length 1] xs (List.range' 0 (B.length + 1)) := Or.inr ⟨0, css, Rs, rfl, rfl, a2, by rw [a3, List.range'_succ]⟩
    obtain ⟨v, bl, f1, f2⟩ := goodStringS.fin (by omega) he List.nodup_range' b
    refine ⟨v, bl, S.laws_toStringS.gives (k := xs.length + 1) ?_, f2⟩
    have a1' := fun G => congrFun a1 G
    simp only [show ((0 : Nat) : Int) = 0 from rfl] at a1'
    simp [S.laws_toStringS.run, hk, a1', f1]
  · intro j r cells B hj hcl
    have g1 : (j : Int) < xs.length := by omega
    have w := wrap_succ (n := j) (by simp only [maxLen]; omega)
    have hj' : j * 1 + 1 ≤ xs.length * 1 := by omega
    have hj2 : j + 1 ≤ xs.length := hj
    refine ⟨cs xs[j], [], rfl, fun H T _ => ⟨rfl, rfl⟩, funext fun G => ?_⟩
    simp only [S.laws_toStringS.l6]
    simp [g1, get_of hj, hj, hj', hj2, w, hcl, -splice]
  · intro r h
    funext G
    simp [S.laws_toStringS.l6]
theorem laws_toInt64S_spec (xs : List (Int)) (hm : okInt64S xs) (b : Nat) : ∃ v bl, OO fn.laws_toInt64S [fzl true 1 ci xs] b = some (v, bl) ∧ ∀ H T, H.length = b → rInt64S (H ++ bl ++ T) [v] xs (List.range' b bl.length) := by
  have hm' : xs.length ≤ 1048576 := hm
  have hk := kmake_eq (z := [(.int .i64 0)]) (es := 1) (b := 8) (h := []) hm' (by omega) rfl
  have key := fill_loop (E := (RFl ci)) (RFl.good (es := 1) (mk := ci) (fun _ => rfl) (fun _ => rfl)) (z := [(.int .i64 0)]) rfl (xs := xs) (f := fun r j h => fun (G : GX → GV → GV → Heap → Option (GV × List (List GV))) => S.laws_toInt64S.l6 (xs.length + 1) G r (fzl true 1 ci xs) .nils (.sl 0 0 xs.length xs.length 1) (.int .i64 (j : Int)) h) (A := fun h => fun G => G (.ext 0) .nils (.sl 0 0 xs.length xs.length 1) h) ?_ ?_ (xs.length + 1) (by omega)
  · obtain ⟨css, B, Rs, a1, a2, a3⟩ := key
    have he : rInt64S (css.flatten :: B) [.sl 0 0 xs.length xs.length 1] xs (List.range' 0 (B.length + 1)) := Or.inr ⟨0, css, Rs, rfl, rfl, a2, by rw [a3, List.range'_succ]⟩
    obtain ⟨v, bl, f1, f2⟩ := goodInt64S.fin (by omega) he List.nodup_range' b
    refine ⟨v, bl, S.laws_toInt64S.gives (k := xs.length + 1) ?_, f2⟩
    have a1' := fun G => congrFun a1 G
    simp only [show ((0 : Nat) : Int) = 0 from rfl] at a1'
    simp [S.laws_toInt64S.run, hk, a1', f1]
  · intro j r cells B hj hcl
    have g1 : (j : Int) < xs.length := by omega
    have w := wrap_succ (n := j) (by simp only [maxLen]; omega)
    have hj' : j * 1 + 1 ≤ xs.length * 1 := by omega
    have hj2 : j + 1 ≤ xs.length := hj
    refine ⟨ci xs[j], [], rfl, fun H T _ => ⟨rfl, rfl⟩, funext fun G => ?_⟩
    simp only [S.laws_toInt64S.l6]
    simp [g1, get_of hj, hj, hj', hj2, w, hcl, -splice]
  · intro r h
    funext G
    simp [S.laws_toInt64S.l6]

/-! Server -/
abbrev mServer (t : Bool) (a : (List (ByteArray) × Int)) : List GV := [fzl t 1 cs a.1, .int .i64 a.2]
def zServer (a : (List (ByteArray) × Int)) : Nat := zStringS a.1
def okServer (a : (List (ByteArray) × Int)) : Prop := okStringS a.1
theorem okServer_of {a : (List (ByteArray) × Int)} (h : zServer a ≤ 1048576) : okServer a := by
  unfold zServer at h
  exact okStringS_of (by omega)
@[simp] theorem kloadA_Server {h : Heap} {t : Bool} {xs : List (List (ByteArray) × Int)} {j : Nat} : kloadA 2 h (elp t (mServer t) xs j) = xs[j]?.map fun a => .agg (mServer t a) := kloadA_elp (mk := mServer t) (es := 2) (fun _ => rfl) (by omega)
@[simp] theorem kload1_Server_0 {h : Heap} {t : Bool} {xs : List ((List (ByteArray) × Int))} {j : Nat} : kload1 h (elf t (mServer t) xs j 0) = xs[j]?.bind fun a => (mServer t a)[0]? := kload1_elf (mk := mServer t) (es := 2) (fun _ => rfl) (by omega)
@[simp] theorem kload1_Server_1 {h : Heap} {t : Bool} {xs : List ((List (ByteArray) × Int))} {j : Nat} : kload1 h (elf t (mServer t) xs j 1) = xs[j]?.bind fun a => (mServer t a)[1]? := kload1_elf (mk := mServer t) (es := 2) (fun _ => rfl) (by omega)
@[simp] theorem kia_Server {t : Bool} {xs : List ((List (ByteArray) × Int))} {k : IntKind} {i : Int} : kia 2 (fzl t 2 (mServer t) xs) (.int k i) = if 0 ≤ i ∧ i < xs.length then some (elp t (mServer t) xs i.toNat) else none := kia_fzl (es := 2) (fun _ => rfl)
theorem ld_Server {d : Nat} {t : Bool} (a : (List (ByteArray) × Int)) : (mServer t a).map (lend (d + 1)) = mServer true a := map_cons' (lend_fzl (d := d) (mk := cs) (mk' := cs) (fun a => map_cons' lend_str rfl) a.1) (map_cons' lend_int (rfl))
@[simp] theorem bor_Server {d : Nat} {h : Heap} {t : Bool} {xs : List ((List (ByteArray) × Int))} : bor (d + 3) h (fzl t 2 (mServer t) xs) = some (fzl true 2 (mServer true) xs, []) := bor_fzl (d := d + 2) (fun a => ld_Server (d := d + 1) a) xs
open Classical in
theorem laws_eqServer_spec (a_1 b_1 : List (ByteArray)) (a_2 b_2 : Int) (hm : okServer (a_1, a_2)) : NN fn.laws_eqServer [.agg [fzl true 1 cs a_1, .int .i64 a_2], .agg [fzl true 1 cs b_1, .int .i64 b_2]] = some (.bool (decide ((a_1, a_2) = (b_1, b_2)))) := by
  apply S.laws_eqServer.gives (k := 0)
  unfold okServer at hm
  have s0 := laws_eqStringS_spec a_1 b_1 hm
  by_cases c0 : a_1 = b_1
  rotate_left
  · have e : ¬ ((a_1, a_2) = (b_1, b_2)) := fun e => c0 (by simp only [Prod.mk.injEq] at e ⊢; simp [e])
    rw [decide_eq_false e]
    rw [decide_eq_false c0] at s0
    simp [S.laws_eqServer.run, s0]
  rw [decide_eq_true c0] at s0
  by_cases c1 : a_2 = b_2
  rotate_left
  · have e : ¬ ((a_1, a_2) = (b_1, b_2)) := fun e => c1 (by simp only [Prod.mk.injEq] at e ⊢; simp [e])
    rw [decide_eq_false e]
    simp [S.laws_eqServer.run, s0, c1]
  have e : (a_1, a_2) = (b_1, b_2) := by rw [c0, c1]
  rw [decide_eq_true e]
  simp [S.laws_eqServer.run, s0, c1]

/-! StringSS -/
abbrev mStringSS (t : Bool) (a : List (List (ByteArray))) : List GV := [fzl t 1 (mStringS t) a]
def zStringSS (a : List (List (ByteArray))) : Nat := a.length + (a.map fun x => zStringS x).sum
def okStringSS (a : List (List (ByteArray))) : Prop := a.length ≤ 1048576 ∧ ∀ x ∈ a, okStringS x
theorem okStringSS_of {a : List (List (ByteArray))} (h : zStringSS a ≤ 1048576) : okStringSS a := by
  unfold zStringSS at h
  refine ⟨by omega, fun x hx => ?_⟩
  have : zStringS x ≤ _ := sum_mem (c := fun x => zStringS x) hx
  exact okStringS_of (by omega)
@[simp] theorem kload1_StringSS {h : Heap} {t : Bool} {xs : List (List (List (ByteArray)))} {j : Nat} : kload1 h (elp t (mStringSS t) xs j) = xs[j]?.map fun a => fzl t 1 (mStringS t) a := kload1_elp _ (fun _ => rfl)
@[simp] theorem kia_StringSS {t : Bool} {xs : List (List (List (ByteArray)))} {k : IntKind} {i : Int} : kia 1 (fzl t 1 (mStringSS t) xs) (.int k i) = if 0 ≤ i ∧ i < xs.length then some (elp t (mStringSS t) xs i.toNat) else none := kia_fzl (es := 1) (fun _ => rfl)
theorem ld_StringSS {d : Nat} {t : Bool} (a : List (List (ByteArray))) : (mStringSS t a).map (lend (d + 2)) = mStringSS true a := map_cons' (lend_fzl (d := d + 1) (mk := (mStringS t)) (mk' := (mStringS true)) (fun a => ld_StringS (d := d) a) a) (rfl)
@[simp] theorem bor_StringSS {d : Nat} {h : Heap} {t : Bool} {xs : List (List (List (ByteArray)))} : bor (d + 4) h (fzl t 1 (mStringSS t) xs) = some (fzl true 1 (mStringSS true) xs, []) := bor_fzl (d := d + 3) (fun a => ld_StringSS (d := d + 1) a) xs
open Classical in
theorem laws_eqStringSS_spec (xs ys : List (List (ByteArray))) (hm : okStringSS xs) : NN fn.laws_eqStringSS [fzl true 1 (mStringS true) xs, fzl true 1 (mStringS true) ys] = some (.bool (decide (xs = ys))) := by
  apply S.laws_eqStringSS.gives (k := xs.length + 1)
  have hm' : xs.length ≤ 1048576 := hm.1
  simp [S.laws_eqStringSS.run]
  by_cases hl : xs.length = ys.length
  · have hi : (xs.length : Int) = ys.length := by omega
    simp [hi]
    refine (loop_all (f := fun r j => S.laws_eqStringSS.l6 _ _ r _ _ _ (.int .i64 (j : Int)) _) (A := some (GV.bool true)) (B := some (GV.bool false)) (n := xs.length) (P := fun j => xs[j]? = ys[j]?) (fun j r hj => ?_) (fun r => ?_) (xs.length + 1) 0 (by omega) (by omega)).trans ?_
    · have h1 : (j : Int) < xs.length := by omega
      have h2 : (j : Int) < ys.length := by omega
      have h3 : j < ys.length := by omega
      have w := wrap_succ (n := j) (by simp only [maxLen]; omega)
      have sp := laws_eqStringS_spec xs[j] ys[j] (hm.2 _ (List.getElem_mem hj))
      by_cases hc : xs[j] = ys[j]
      · have e1 : xs[j] = ys[j] := hc
        rw [decide_eq_true e1] at sp
        refine Eq.trans ?_ (if_pos (by rw [get_of hj, get_of h3, hc])).symm
        simp [S.laws_eqStringSS.l6, h1, h2, get_of hj, get_of h3, w, sp]
      · have e1 : ¬ (xs[j] = ys[j]) := hc
        rw [decide_eq_false e1] at sp
        refine Eq.trans ?_ (if_neg (by rw [get_of hj, get_of h3]; exact fun h => hc (Option.some.inj h))).symm
        simp [S.laws_eqStringSS.l6, h1, h2, get_of hj, get_of h3, w, sp]
    · simp [S.laws_eqStringSS.l6]
    · simp [list_eq_iff hl]
      by_cases hx : xs = ys <;> simp [hx]
  · have : ¬ ((xs.length : Int) = ys.length) := by omega
    have hne : xs ≠ ys := fun h => hl (by rw [h])
    simp [this, hne]

/-! Int64SS -/
abbrev mInt64SS (t : Bool) (a : List (List (Int))) : List GV := [fzl t 1 (mInt64S t) a]
def zInt64SS (a : List (List (Int))) : Nat := a.length + (a.map fun x => zInt64S x).sum
def okInt64SS (a : List (List (Int))) : Prop := a.length ≤ 1048576 ∧ ∀ x ∈ a, okInt64S x
theorem okInt64SS_of {a : List (List (Int))} (h : zInt64SS a ≤ 1048576) : okInt64SS a := by
  unfold zInt64SS at h
  refine ⟨by omega, fun x hx => ?_⟩
  have : zInt64S x ≤ _ := sum_mem (c := fun x => zInt64S x) hx
  show zInt64S x ≤ _
  omega
@[simp] theorem kload1_Int64SS {h : Heap} {t : Bool} {xs : List (List (List (Int)))} {j : Nat} : kload1 h (elp t (mInt64SS t) xs j) = xs[j]?.map fun a => fzl t 1 (mInt64S t) a := kload1_elp _ (fun _ => rfl)
@[simp] theorem kia_Int64SS {t : Bool} {xs : List (List (List (Int)))} {k : IntKind} {i : Int} : kia 1 (fzl t 1 (mInt64SS t) xs) (.int k i) = if 0 ≤ i ∧ i < xs.length then some (elp t (mInt64SS t) xs i.toNat) else none := kia_fzl (es := 1) (fun _ => rfl)
theorem ld_Int64SS {d : Nat} {t : Bool} (a : List (List (Int))) : (mInt64SS t a).map (lend (d + 2)) = mInt64SS true a := map_cons' (lend_fzl (d := d + 1) (mk := (mInt64S t)) (mk' := (mInt64S true)) (fun a => ld_Int64S (d := d) a) a) (rfl)
@[simp] theorem bor_Int64SS {d : Nat} {h : Heap} {t : Bool} {xs : List (List (List (Int)))} : bor (d + 4) h (fzl t 1 (mInt64SS t) xs) = some (fzl true 1 (mInt64SS true) xs, []) := bor_fzl (d := d + 3) (fun a => ld_Int64SS (d := d + 1) a) xs
open Classical in
theorem laws_eqInt64SS_spec (xs ys : List (List (Int))) (hm : okInt64SS xs) : NN fn.laws_eqInt64SS [fzl true 1 (mInt64S true) xs, fzl true 1 (mInt64S true) ys] = some (.bool (decide (xs = ys))) := by
  apply S.laws_eqInt64SS.gives (k := xs.length + 1)
  have hm' : xs.length ≤ 1048576 := hm.1
  simp [S.laws_eqInt64SS.run]
  by_cases hl : xs.length = ys.length
  · have hi : (xs.length : Int) = ys.length := by omega
    simp [hi]
    refine (loop_all (f := fun r j => S.laws_eqInt64SS.l6 _ _ r _ _ _ (.int .i64 (j : Int)) _) (A := some (GV.bool true)) (B := some (GV.bool false)) (n := xs.length) (P := fun j => xs[j]? = ys[j]?) (fun j r hj => ?_) (fun r => ?_) (xs.length + 1) 0 (by omega) (by omega)).trans ?_
    · have h1 : (j : Int) < xs.length := by omega
      have h2 : (j : Int) < ys.length := by omega
      have h3 : j < ys.length := by omega
      have w := wrap_succ (n := j) (by simp only [maxLen]; omega)
      have sp := laws_eqInt64S_spec xs[j] ys[j] (hm.2 _ (List.getElem_mem hj))
      by_cases hc : xs[j] = ys[j]
      · have e1 : xs[j] = ys[j] := hc
        rw [decide_eq_true e1] at sp
        refine Eq.trans ?_ (if_pos (by rw [get_of hj, get_of h3, hc])).symm
        simp [S.laws_eqInt64SS.l6, h1, h2, get_of hj, get_of h3, w, sp]
      · have e1 : ¬ (xs[j] = ys[j]) := hc
        rw [decide_eq_false e1] at sp
        refine Eq.trans ?_ (if_neg (by rw [get_of hj, get_of h3]; exact fun h => hc (Option.some.inj h))).symm
        simp [S.laws_eqInt64SS.l6, h1, h2, get_of hj, get_of h3, w, sp]
    · simp [S.laws_eqInt64SS.l6]
    · simp [list_eq_iff hl]
      by_cases hx : xs = ys <;> simp [hx]
  · have : ¬ ((xs.length : Int) = ys.length) := by omega
    have hne : xs ≠ ys := fun h => hl (by rw [h])
    simp [this, hne]
abbrev rStringSS : Rel (List (List (ByteArray))) := RSl 1 rStringS
theorem goodStringSS : Good 1 3 (mStringSS true) rStringSS := RSl.good goodStringS
def cStringSS (xs : List (List (ByteArray))) : Nat := cntL (fun x => (cStringS x)) xs
noncomputable def kStringSS (xs : List (List (ByteArray))) (k : Nat) : List (List (ByteArray)) := markL (fun x k => kStringS x (k)) (fun x => (cStringS x)) xs k
theorem cStringSS_le {xs : List (List (ByteArray))} (h : okStringSS xs) : cStringSS xs ≤ 1099511627776 := cntL_bound (M := 1048576) (B := 1048576) (h.1) (fun x hx => by have := cStringS_le (h.2 x hx); show _ ≤ _; omega)
theorem laws_heldStringSS_spec (xs : List (List (ByteArray))) (k : Nat) (hok : okStringSS xs) (hk : k + cStringSS xs ≤ 4611686018427387904) : NN fn.laws_heldStringSS [(fzl true 1 (mStringS true) (kStringSS xs k)), .int .i64 (k : Int)] = some (.int .i64 ((k + cStringSS xs : Nat) : Int)) := by
  have hlim : k + cntL (fun x => (cStringS x)) xs ≤ 4611686018427387904 := hk
  have hlen : xs.length ≤ 1048576 := hok.1
  obtain ⟨ys, hys⟩ : ∃ ys, kStringSS xs k = ys := ⟨_, rfl⟩
  have hl : ys.length = xs.length := by rw [← hys]; exact markL_len _ _
  have hg : ∀ j (hj : j < xs.length), ys[j]? = some (kStringS xs[j] ((k + cntL (fun x => (cStringS x)) (xs.take j)))) := fun j hj => by rw [← hys]; exact markL_get xs k j hj
  rw [hys]
  apply S.laws_heldStringSS.gives (k := xs.length + 1)
  have key := loop_to (f := fun r j => fun (G : GX → GV → GV → Heap → Option GV) => S.laws_heldStringSS.l5 (xs.length + 1) G r (fzl true 1 (mStringS true) ys) (.int .i64 ((k + cntL (fun x => (cStringS x)) (xs.take j) : Nat) : Int)) (.int .i64 0) (.int .i64 (j : Int)) []) (A := fun G => G (.ext 0) (.int .i64 ((k + cStringSS xs : Nat) : Int)) (.int .i64 0) []) (n := xs.length) ?_ ?_ (xs.length + 1) 0 (by omega) (by omega)
  · have key' := fun G => congrFun key G
    simp only [List.take_zero, cntL, List.map_nil, List.sum_nil, Nat.add_zero, show ((0 : Nat) : Int) = 0 from rfl] at key'
    simp [S.laws_heldStringSS.run, key', -Int.natCast_add]
  · intro j r hj
    have g1 : (j : Int) < (ys.length : Int) := by omega
    have kj := kadd1 (n := j) (by omega)
    have q1 := cntL_take (c := (fun x => (cStringS x))) hj
    have q2 := cntL_le (c := (fun x => (cStringS x))) (xs := xs) (j + 1)
    have hgj := hg j hj
    try simp only at q1
    rw [q1, ← Nat.add_assoc]
    obtain ⟨K, hK⟩ : ∃ K, k + cntL (fun x => (cStringS x)) (xs.take j) = K := ⟨_, rfl⟩
    have hKb : K + ((cStringS xs[j])) ≤ 4611686018427387904 := by omega
    rw [hK] at hgj ⊢
    have s0 := laws_heldStringS_spec (xs[j]) (K) (hok.2 _ (List.getElem_mem hj)) (by omega)
    have z0 : ¬ (((K + (cStringS xs[j]) : Nat) : Int) < 0) := by omega
    funext G
    simp only [S.laws_heldStringSS.l5]
    simp [g1, hgj, kj, s0, z0, -Int.natCast_add, -kbin_add]
    try rfl
  · intro r
    funext G
    have g1 : ¬ ((xs.length : Int) < (ys.length : Int)) := by omega
    simp only [S.laws_heldStringSS.l5, List.take_length]
    simp [g1, -Int.natCast_add]
    try rfl
abbrev rInt64SS : Rel (List (List (Int))) := RSl 1 rInt64S
theorem goodInt64SS : Good 1 3 (mInt64SS true) rInt64SS := RSl.good goodInt64S
def cInt64SS (xs : List (List (Int))) : Nat := cntL (fun x => (cInt64S x)) xs
noncomputable def kInt64SS (xs : List (List (Int))) (k : Nat) : List (List (Int)) := markL (fun x k => kInt64S x (k)) (fun x => (cInt64S x)) xs k
theorem cInt64SS_le {xs : List (List (Int))} (h : okInt64SS xs) : cInt64SS xs ≤ 1099511627776 := cntL_bound (M := 1048576) (B := 1048576) (h.1) (fun x hx => by have := cInt64S_le (h.2 x hx); show _ ≤ _; omega)
theorem laws_heldInt64SS_spec (xs : List (List (Int))) (k : Nat) (hok : okInt64SS xs) (hk : k + cInt64SS xs ≤ 4611686018427387904) : NN fn.laws_heldInt64SS [(fzl true 1 (mInt64S true) (kInt64SS xs k)), .int .i64 (k : Int)] = some (.int .i64 ((k + cInt64SS xs : Nat) : Int)) := by
  have hlim : k + cntL (fun x => (cInt64S x)) xs ≤ 4611686018427387904 := hk
  have hlen : xs.length ≤ 1048576 := hok.1
  obtain ⟨ys, hys⟩ : ∃ ys, kInt64SS xs k = ys := ⟨_, rfl⟩
  have hl : ys.length = xs.length := by rw [← hys]; exact markL_len _ _
  have hg : ∀ j (hj : j < xs.length), ys[j]? = some (kInt64S xs[j] ((k + cntL (fun x => (cInt64S x)) (xs.take j)))) := fun j hj => by rw [← hys]; exact markL_get xs k j hj
  rw [hys]
  apply S.laws_heldInt64SS.gives (k := xs.length + 1)
  have key := loop_to (f := fun r j => fun (G : GX → GV → GV → Heap → Option GV) => S.laws_heldInt64SS.l5 (xs.length + 1) G r (fzl true 1 (mInt64S true) ys) (.int .i64 ((k + cntL (fun x => (cInt64S x)) (xs.take j) : Nat) : Int)) (.int .i64 0) (.int .i64 (j : Int)) []) (A := fun G => G (.ext 0) (.int .i64 ((k + cInt64SS xs : Nat) : Int)) (.int .i64 0) []) (n := xs.length) ?_ ?_ (xs.length + 1) 0 (by omega) (by omega)
  · have key' := fun G => congrFun key G
    simp only [List.take_zero, cntL, List.map_nil, List.sum_nil, Nat.add_zero, show ((0 : Nat) : Int) = 0 from rfl] at key'
    simp [S.laws_heldInt64SS.run, key', -Int.natCast_add]
  · intro j r hj
    have g1 : (j : Int) < (ys.length : Int) := by omega
    have kj := kadd1 (n := j) (by omega)
    have q1 := cntL_take (c := (fun x => (cInt64S x))) hj
    have q2 := cntL_le (c := (fun x => (cInt64S x))) (xs := xs) (j + 1)
    have hgj := hg j hj
    try simp only at q1
    rw [q1, ← Nat.add_assoc]
    obtain ⟨K, hK⟩ : ∃ K, k + cntL (fun x => (cInt64S x)) (xs.take j) = K := ⟨_, rfl⟩
    have hKb : K + ((cInt64S xs[j])) ≤ 4611686018427387904 := by omega
    rw [hK] at hgj ⊢
    have s0 := laws_heldInt64S_spec (xs[j]) (K) (hok.2 _ (List.getElem_mem hj)) (by omega)
    have z0 : ¬ (((K + (cInt64S xs[j]) : Nat) : Int) < 0) := by omega
    funext G
    simp only [S.laws_heldInt64SS.l5]
    simp [g1, hgj, kj, s0, z0, -Int.natCast_add, -kbin_add]
    try rfl
  · intro r
    funext G
    have g1 : ¬ ((xs.length : Int) < (ys.length : Int)) := by omega
    simp only [S.laws_heldInt64SS.l5, List.take_length]
    simp [g1, -Int.natCast_add]
    try rfl
theorem laws_markStringSS_spec (h : Heap) (v : GV) (xs : List (List (ByteArray))) (R : List Nat) (k : Nat) (hok : okStringSS xs) (he : rStringSS h [v] xs R) (nd : R.Nodup) (hk : k + cStringSS xs ≤ 4611686018427387904) : ∃ h', HH fn.laws_markStringSS [v, .int .i64 (k : Int)] h = some (.int .i64 ((k + cStringSS xs : Nat) : Int), h') ∧ rStringSS h' [v] (kStringSS xs k) R ∧ Fr R h h' := by
  have hlim : k + cntL (fun x => (cStringS x)) xs ≤ 4611686018427387904 := hk
  have hlen : xs.length ≤ 1048576 := hok.1
  have key := mark_loop (E := rStringS) goodStringS (m := (fun x k => kStringS x (k))) (c := (fun x => (cStringS x))) (v := v) (xs := xs) (R := R) (k := k) nd (f := fun r j k h => fun (G : GX → GV → GV → Heap → Option (GV × Heap)) => S.laws_markStringSS.l5 (xs.length + 1) G r v (.int .i64 (k : Int)) (.int .i64 0) (.int .i64 (j : Int)) h) (A := fun k h => fun G => G (.ext 0) (.int .i64 (k : Int)) (.int .i64 0) h) ?_ ?_ he (xs.length + 1) (by omega)
  · obtain ⟨h', a1, a2, a3⟩ := key
    refine ⟨h', S.laws_markStringSS.gives (k := xs.length + 1) ?_, a2, a3⟩
    have a1' := fun G => congrFun a1 G
    simp only [show ((0 : Nat) : Int) = 0 from rfl] at a1'
    simp [S.laws_markStringSS.run, a1', -Int.natCast_add]
    rfl
  · intro j r h ys he hl hj hy
    obtain ⟨b, css, c, r0, hv, hb, fl, hcn, hc, fe, hE, hbr, hbR, hrR, nd0, hup⟩ := RSl.focus goodStringS he nd (j := j) (by omega)
    have ey : ys[j]'(by omega) = xs[j] := by rw [List.getElem?_eq_getElem (by omega)] at hy; exact Option.some.inj hy
    rw [ey] at hE
    rw [hl] at hv hcn
    have hcl := fe c (List.mem_of_getElem? hc)
    have hb0 : h[b]? = some (css.set j c).flatten := by rw [set_get_self hc]; exact hb
    have q1 := cntL_take (c := (fun x => (cStringS x))) hj
    have q2 := cntL_le (c := (fun x => (cStringS x))) (xs := xs) (j + 1)
    try simp only at q1
    obtain ⟨K, hK⟩ : ∃ K, k + cntL (fun x => (cStringS x)) (xs.take j) = K := ⟨_, rfl⟩
    have hKb : K + ((cStringS xs[j])) ≤ 4611686018427387904 := by omega
    rw [hK]
    clear hK q1 q2
    have hm := (RSl.good goodStringS).mem he
    have hbl := (List.getElem?_eq_some_iff.1 hb).1
    have kj := kadd1 (n := j) (by omega)
    have k0 : kia 1 (.sl b 0 xs.length xs.length 1) (.int .i64 (j : Int)) = some (.ptr b (j) (xs.length)) := kia_at hj (by omega) (by omega)
    obtain ⟨v0, rfl⟩ : ∃ v0, c = [v0] := List.length_eq_one_iff.1 hcl
    have l0 : kload1 h (.ptr b (j) (xs.length)) = some v0 := by rw [ld_leaf (es := 1) (off := 0) hb0 fe hcn hj hcl (by omega) (by omega) (by omega)]; rfl
    have nd1 := nd0
    obtain ⟨H1, m1, x1, f1⟩ := laws_markStringS_spec h v0 (xs[j]) r0 (K) (hok.2 _ (List.getElem_mem hj)) hE nd1 (by omega)
    have hb1 : H1[b]? = some (css.set j [v0]).flatten := by rw [f1.2 b hbl (by simpa using hbr)]; exact hb0
    have g1 : Fr R h H1 := f1.sub (fun i hi => hrR i (by simpa using hi))
    refine ⟨H1, ?_, hup H1 [v0] _ hb1 x1 (fun i hi hib hir => ?_), g1⟩
    · funext G
      simp only [S.laws_markStringSS.l5, S.laws_markStringSS.n8, S.laws_markStringSS.n10, S.laws_markStringSS.n9, S.laws_markStringSS.n7, S.laws_markStringSS.n6, hv, klen_sl, klt, decide_eq_true hj, kcond_bool, cond_true, kx_nrm, kb_nrm, Option.bind_some, kr_mk, kfa_ptr, kj, Nat.add_zero, kN_eq, bors_cons, bors_nil, bor_int, k0, l0, m1]
      try rfl
    · exact (f1.2 i (hm i hi) (by simpa using hir))
  · intro r h ys he hl
    have e1 := he.len
    rw [hl] at e1
    funext G
    simp only [S.laws_markStringSS.l5, S.laws_markStringSS.n6, S.laws_markStringSS.n7, S.laws_markStringSS.n8, S.laws_markStringSS.n9, S.laws_markStringSS.n10, e1, klt, Nat.lt_irrefl, decide_false, kcond_bool, cond_false, Option.bind_some, kx_ext, kb_ext]
    try rfl
theorem laws_markInt64SS_spec (h : Heap) (v : GV) (xs : List (List (Int))) (R : List Nat) (k : Nat) (hok : okInt64SS xs) (he : rInt64SS h [v] xs R) (nd : R.Nodup) (hk : k + cInt64SS xs ≤ 4611686018427387904) : ∃ h', HH fn.laws_markInt64SS [v, .int .i64 (k : Int)] h = some (.int .i64 ((k + cInt64SS xs : Nat) : Int), h') ∧ rInt64SS h' [v] (kInt64SS xs k) R ∧ Fr R h h' := by
  have hlim : k + cntL (fun x => (cInt64S x)) xs ≤ 4611686018427387904 := hk
  have hlen : xs.length ≤ 1048576 := hok.1
  have key := mark_loop (E := rInt64S) goodInt64S (m := (fun x k => kInt64S x (k))) (c := (fun x => (cInt64S x))) (v := v) (xs := xs) (R := R) (k := k) nd (f := fun r j k h => fun (G : GX → GV → GV → Heap → Option (GV × Heap)) => S.laws_markInt64SS.l5 (xs.length + 1) G r v (.int .i64 (k : Int)) (.int .i64 0) (.int .i64 (j : Int)) h) (A := fun k h => fun G => G (.ext 0) (.int .i64 (k : Int)) (.int .i64 0) h) ?_ ?_ he (xs.length + 1) (by omega)
  · obtain ⟨h', a1, a2, a3⟩ := key
    refine ⟨h', S.laws_markInt64SS.gives (k := xs.length + 1) ?_, a2, a3⟩
    have a1' := fun G => congrFun a1 G
    simp only [show ((0 : Nat) : Int) = 0 from rfl] at a1'
    simp [S.laws_markInt64SS.run, a1', -Int.natCast_add]
    rfl
  · intro j r h ys he hl hj hy
    obtain ⟨b, css, c, r0, hv, hb, fl, hcn, hc, fe, hE, hbr, hbR, hrR, nd0, hup⟩ := RSl.focus goodInt64S he nd (j := j) (by omega)
    have ey : ys[j]'(by omega) = xs[j] := by rw [List.getElem?_eq_getElem (by omega)] at hy; exact Option.some.inj hy
    rw [ey] at hE
    rw [hl] at hv hcn
    have hcl := fe c (List.mem_of_getElem? hc)
    have hb0 : h[b]? = some (css.set j c).flatten := by rw [set_get_self hc]; exact hb
    have q1 := cntL_take (c := (fun x => (cInt64S x))) hj
    have q2 := cntL_le (c := (fun x => (cInt64S x))) (xs := xs) (j + 1)
    try simp only at q1
    obtain ⟨K, hK⟩ : ∃ K, k + cntL (fun x => (cInt64S x)) (xs.take j) = K := ⟨_, rfl⟩
    have hKb : K + ((cInt64S xs[j])) ≤ 4611686018427387904 := by omega
    rw [hK]
    clear hK q1 q2
    have hm := (RSl.good goodInt64S).mem he
    have hbl := (List.getElem?_eq_some_iff.1 hb).1
    have kj := kadd1 (n := j) (by omega)
    have k0 : kia 1 (.sl b 0 xs.length xs.length 1) (.int .i64 (j : Int)) = some (.ptr b (j) (xs.length)) := kia_at hj (by omega) (by omega)
    obtain ⟨v0, rfl⟩ : ∃ v0, c = [v0] := List.length_eq_one_iff.1 hcl
    have l0 : kload1 h (.ptr b (j) (xs.length)) = some v0 := by rw [ld_leaf (es := 1) (off := 0) hb0 fe hcn hj hcl (by omega) (by omega) (by omega)]; rfl
    have nd1 := nd0
    obtain ⟨H1, m1, x1, f1⟩ := laws_markInt64S_spec h v0 (xs[j]) r0 (K) (hok.2 _ (List.getElem_mem hj)) hE nd1 (by omega)
    have hb1 : H1[b]? = some (css.set j [v0]).flatten := by rw [f1.2 b hbl (by simpa using hbr)]; exact hb0
    have g1 : Fr R h H1 := f1.sub (fun i hi => hrR i (by simpa using hi))
    refine ⟨H1, ?_, hup H1 [v0] _ hb1 x1 (fun i hi hib hir => ?_), g1⟩
    · funext G
      simp only [S.laws_markInt64SS.l5, S.laws_markInt64SS.n8, S.laws_markInt64SS.n10, S.laws_markInt64SS.n9, S.laws_markInt64SS.n7, S.laws_markInt64SS.n6, hv, klen_sl, klt, decide_eq_true hj, kcond_bool, cond_true, kx_nrm, kb_nrm, Option.bind_some, kr_mk, kfa_ptr, kj, Nat.add_zero, kN_eq, bors_cons, bors_nil, bor_int, k0, l0, m1]
      try rfl
    · exact (f1.2 i (hm i hi) (by simpa using hir))
  · intro r h ys he hl
    have e1 := he.len
    rw [hl] at e1
    funext G
    simp only [S.laws_markInt64SS.l5, S.laws_markInt64SS.n6, S.laws_markInt64SS.n7, S.laws_markInt64SS.n8, S.laws_markInt64SS.n9, S.laws_markInt64SS.n10, e1, klt, Nat.lt_irrefl, decide_false, kcond_bool, cond_false, Option.bind_some, kx_ext, kb_ext]
    try rfl
theorem laws_szServer_spec (a_1 : List (ByteArray)) (a_2 : Int) (left : Int) (hi : (inSl (fun x1 : ByteArray => x1.size ≤ maxLen) a_1) ∧ ((Lit.int .i64 a_2).wf = true)) (hl : 0 ≤ left) (hl' : left ≤ 1048576) : NN fn.laws_szServer [.agg [fzl true 1 cs a_1, .int .i64 a_2], .int .i64 left] = some (.int .i64 (if left < (zServer (a_1, a_2) : Int) then -1 else left - zServer (a_1, a_2))) := by
  apply S.laws_szServer.gives (k := 0)
  show _ = some (GV.int .i64 (if left < ((zStringS a_1 : Nat) : Int) then -1 else left - ((zStringS a_1 : Nat) : Int)))
  have s0 := laws_szStringS_spec a_1 (left) hi.1 (by omega) (by omega)
  by_cases c0 : left < ((zStringS a_1 : Nat) : Int)
  · have d0 : left - ((zStringS a_1 : Nat) : Int) < 0 := by omega
    rw [if_pos (by omega : left < ((zStringS a_1 : Nat) : Int))]
    simp [S.laws_szServer.run, s0, c0, d0]
  have d0 : ¬ (left - ((zStringS a_1 : Nat) : Int) < 0) := by omega
  rw [if_neg (by omega)]
  simp [S.laws_szServer.run, s0, c0, d0]
  try omega
theorem laws_szStringSS_spec (xs : List (List (ByteArray))) (left : Int) (hi : inSl (fun x1 : List (ByteArray) => inSl (fun x2 : ByteArray => x2.size ≤ maxLen) x1) xs) (hl : 0 ≤ left) (hl' : left ≤ 1048576) : NN fn.laws_szStringSS [fzl true 1 (mStringS true) xs, .int .i64 left] = some (.int .i64 (if left < (zStringSS xs : Int) then -1 else left - zStringSS xs)) := by
  apply S.laws_szStringSS.gives (k := xs.length + 1)
  have w := wrap_sub hl hl' hi.1
  simp [S.laws_szStringSS.run, w]
  by_cases h : left < xs.length
  · have h1 : left - xs.length < 0 := by omega
    have h2 : left < (zStringSS xs : Int) := by unfold zStringSS; omega
    simp [h, h1, h2]
  · have h1 : ¬ (left - xs.length < 0) := by omega
    simp [h, h1]
    refine (loop_sz (xs := xs) (c := fun x => zStringS x) (f := fun r j l => S.laws_szStringSS.l7 _ _ r _ (.int .i64 l) _ (.int .i64 (j : Int)) _) (A := fun l => some (GV.int .i64 l)) (B := some (GV.int .i64 (-1))) (fun j r l hj h0 h0' => ?_) (fun r l => ?_) (xs.length + 1) 0 _ (by omega) (by omega) (by omega) (by omega)).trans ?_
    · have g1 : (j : Int) < xs.length := by omega
      have ws := wrap_succ (n := j) (by have := hi.1; omega)
      have sp := laws_szStringS_spec xs[j] l (hi.2 _ (List.getElem_mem hj)) h0 h0'
      by_cases hc : l < ((zStringS xs[j] : Nat) : Int)
      · have hc' : l - ((zStringS xs[j] : Nat) : Int) < 0 := by omega
        simp [S.laws_szStringSS.l7, g1, get_of hj, ws, sp, hc, hc']
      · have hc' : ¬ (l - ((zStringS xs[j] : Nat) : Int) < 0) := by omega
        simp [S.laws_szStringSS.l7, g1, get_of hj, ws, sp, hc, hc']
    · simp [S.laws_szStringSS.l7]
    · simp only [List.drop_zero]
      have e : ((zStringSS xs : Nat) : Int) = (xs.length : Int) + ((xs.map fun x => zStringS x).sum : Nat) := by unfold zStringSS; omega
      by_cases hc : left < (zStringSS xs : Int)
      · rw [if_pos hc, if_pos (by omega)]
      · rw [if_neg hc, if_neg (by omega)]
        congr 2; omega
theorem laws_szInt64SS_spec (xs : List (List (Int))) (left : Int) (hi : inSl (fun x1 : List (Int) => inSl (fun x2 : Int => (Lit.int .i64 x2).wf = true) x1) xs) (hl : 0 ≤ left) (hl' : left ≤ 1048576) : NN fn.laws_szInt64SS [fzl true 1 (mInt64S true) xs, .int .i64 left] = some (.int .i64 (if left < (zInt64SS xs : Int) then -1 else left - zInt64SS xs)) := by
  apply S.laws_szInt64SS.gives (k := xs.length + 1)
  have w := wrap_sub hl hl' hi.1
  simp [S.laws_szInt64SS.run, w]
  by_cases h : left < xs.length
  · have h1 : left - xs.length < 0 := by omega
    have h2 : left < (zInt64SS xs : Int) := by unfold zInt64SS; omega
    simp [h, h1, h2]
  · have h1 : ¬ (left - xs.length < 0) := by omega
    simp [h, h1]
    refine (loop_sz (xs := xs) (c := fun x => zInt64S x) (f := fun r j l => S.laws_szInt64SS.l7 _ _ r _ (.int .i64 l) _ (.int .i64 (j : Int)) _) (A := fun l => some (GV.int .i64 l)) (B := some (GV.int .i64 (-1))) (fun j r l hj h0 h0' => ?_) (fun r l => ?_) (xs.length + 1) 0 _ (by omega) (by omega) (by omega) (by omega)).trans ?_
    · have g1 : (j : Int) < xs.length := by omega
      have ws := wrap_succ (n := j) (by have := hi.1; omega)
      have sp := laws_szInt64S_spec xs[j] l (hi.2 _ (List.getElem_mem hj)).1 h0 h0'
      by_cases hc : l < ((zInt64S xs[j] : Nat) : Int)
      · have hc' : l - ((zInt64S xs[j] : Nat) : Int) < 0 := by omega
        simp [S.laws_szInt64SS.l7, g1, get_of hj, ws, sp, hc, hc']
      · have hc' : ¬ (l - ((zInt64S xs[j] : Nat) : Int) < 0) := by omega
        simp [S.laws_szInt64SS.l7, g1, get_of hj, ws, sp, hc, hc']
    · simp [S.laws_szInt64SS.l7]
    · simp only [List.drop_zero]
      have e : ((zInt64SS xs : Nat) : Int) = (xs.length : Int) + ((xs.map fun x => zInt64S x).sum : Nat) := by unfold zInt64SS; omega
      by_cases hc : left < (zInt64SS xs : Int)
      · rw [if_pos hc, if_pos (by omega)]
      · rw [if_neg hc, if_neg (by omega)]
        congr 2; omega
abbrev rServer : Rel ((List (ByteArray) × Int)) := (RSeq rStringS (RFl ci))
theorem goodServer : Good 2 2 (mServer true) rServer := (RSeq.good (goodStringS.mono (by omega)) ((RFl.good (es := 1) (mk := ci) (fun _ => rfl) (fun _ => rfl)).mono (by omega)))
theorem laws_toServer_spec (x : (List (ByteArray) × Int)) (hm : okServer x) (b : Nat) : ∃ c bl, OO fn.laws_toServer [.agg (mServer true x)] b = some (.agg c, bl) ∧ ∀ H T, H.length = b → rServer (H ++ bl ++ T) c x (List.range' b bl.length) := by
  unfold okServer at hm
  obtain ⟨v0, B0, o0, e0⟩ := laws_toStringS_spec x.1 hm (3)
  have vc0 := cell_of (e0 (List.replicate (3) []) [] (by simp))
  have he : ∀ a o1 o2 : List GV, rServer ([a, o1, o2] ++ B0) ([v0] ++ (ci x.2)) x (List.range' (3) B0.length ++ ([])) := fun a o1 o2 => ⟨_, _, _, _, rfl, rfl, (by have := e0 ([a, o1, o2]) ([]) (by simp <;> omega); simpa using this), ⟨rfl, rfl⟩⟩
  have nd : (List.range' (3) B0.length ++ ([])).Nodup := (nd_range List.nodup_nil lb_nil)
  obtain ⟨c, bl, f1, f2⟩ := goodServer.finS (by omega) (he (mServer true x) ([v0] ++ (ci x.2)) ([v0] ++ (ci x.2))) nd b
  refine ⟨c, bl, S.laws_toServer.gives (k := 0) ?_, f2⟩
  simp [S.laws_toServer.run, o0, vc0.1, vc0.2]
  simpa using f1
theorem laws_toStringSS_spec (xs : List (List (ByteArray))) (hm : okStringSS xs) (b : Nat) : ∃ v bl, OO fn.laws_toStringSS [fzl true 1 (mStringS true) xs] b = some (v, bl) ∧ ∀ H T, H.length = b → rStringSS (H ++ bl ++ T) [v] xs (List.range' b bl.length) := by
  have hm' : xs.length ≤ 1048576 := hm.1
  have hk := kmake_eq (z := [.nils]) (es := 1) (b := 24) (h := []) hm' (by omega) rfl
  have key := fill_loop (E := rStringS) goodStringS (z := [.nils]) rfl (xs := xs) (f := fun r j h => fun (G : GX → GV → GV → Heap → Option (GV × List (List GV))) => S.laws_toStringSS.l6 (xs.length + 1) G r (fzl true 1 (mStringS true) xs) .nils (.sl 0 0 xs.length xs.length 1) (.int .i64 (j : Int)) h) (A := fun h => fun G => G (.ext 0) .nils (.sl 0 0 xs.length xs.length 1) h) ?_ ?_ (xs.length + 1) (by omega)
  · obtain ⟨css, B, Rs, a1, a2, a3⟩ := key
    have he : rStringSS (css.flatten :: B) [.sl 0 0 xs.length xs.length 1] xs (List.range' 0 (B.length + 1)) := Or.inr ⟨0, css, Rs, rfl, rfl, a2, by rw [a3, List.range'_succ]⟩
    obtain ⟨v, bl, f1, f2⟩ := goodStringSS.fin (by omega) he List.nodup_range' b
    refine ⟨v, bl, S.laws_toStringSS.gives (k := xs.length + 1) ?_, f2⟩
    have a1' := fun G => congrFun a1 G
    simp only [show ((0 : Nat) : Int) = 0 from rfl] at a1'
    simp [S.laws_toStringSS.run, hk, a1', f1]
  · intro j r cells B hj hcl
    have g1 : (j : Int) < xs.length := by omega
    have w := wrap_succ (n := j) (by simp only [maxLen]; omega)
    have hj' : j * 1 + 1 ≤ xs.length * 1 := by omega
    have hj2 : j + 1 ≤ xs.length := hj
    obtain ⟨v, bl, o1, o2⟩ := laws_toStringS_spec xs[j] (hm.2 _ (List.getElem_mem hj)) (B.length + 1)
    refine ⟨[v], bl, rfl, fun H T hH => (by have := o2 H T (by omega); rwa [Nat.add_comm] at this), funext fun G => ?_⟩
    have vc : v.cells = [v] ∧ v.isCell = true := by
      have := goodStringS.cell (o2 (List.replicate (B.length + 1) []) [] (by simp))
      rcases o2 (List.replicate (B.length + 1) []) [] (by simp) with ⟨_, _, hc⟩ | ⟨_, _, _, hc, _⟩
      · rcases hc with hc | hc <;> (injection hc with hc; subst hc; exact ⟨rfl, rfl⟩)
      · injection hc with hc; subst hc; exact ⟨rfl, rfl⟩
    simp only [S.laws_toStringSS.l6]
    simp [g1, get_of hj, hj, hj', hj2, w, hcl, o1, vc.1, vc.2, -splice]
  · intro r h
    funext G
    simp [S.laws_toStringSS.l6]
theorem laws_toInt64SS_spec (xs : List (List (Int))) (hm : okInt64SS xs) (b : Nat) : ∃ v bl, OO fn.laws_toInt64SS [fzl true 1 (mInt64S true) xs] b = some (v, bl) ∧ ∀ H T, H.length = b → rInt64SS (H ++ bl ++ T) [v] xs (List.range' b bl.length) := by
  have hm' : xs.length ≤ 1048576 := hm.1
  have hk := kmake_eq (z := [.nils]) (es := 1) (b := 24) (h := []) hm' (by omega) rfl
  have key := fill_loop (E := rInt64S) goodInt64S (z := [.nils]) rfl (xs := xs) (f := fun r j h => fun (G : GX → GV → GV → Heap → Option (GV × List (List GV))) => S.laws_toInt64SS.l6 (xs.length + 1) G r (fzl true 1 (mInt64S true) xs) .nils (.sl 0 0 xs.length xs.length 1) (.int .i64 (j : Int)) h) (A := fun h => fun G => G (.ext 0) .nils (.sl 0 0 xs.length xs.length 1) h) ?_ ?_ (xs.length + 1) (by omega)
  · obtain ⟨css, B, Rs, a1, a2, a3⟩ := key
    have he : rInt64SS (css.flatten :: B) [.sl 0 0 xs.length xs.length 1] xs (List.range' 0 (B.length + 1)) := Or.inr ⟨0, css, Rs, rfl, rfl, a2, by rw [a3, List.range'_succ]⟩
    obtain ⟨v, bl, f1, f2⟩ := goodInt64SS.fin (by omega) he List.nodup_range' b
    refine ⟨v, bl, S.laws_toInt64SS.gives (k := xs.length + 1) ?_, f2⟩
    have a1' := fun G => congrFun a1 G
    simp only [show ((0 : Nat) : Int) = 0 from rfl] at a1'
    simp [S.laws_toInt64SS.run, hk, a1', f1]
  · intro j r cells B hj hcl
    have g1 : (j : Int) < xs.length := by omega
    have w := wrap_succ (n := j) (by simp only [maxLen]; omega)
    have hj' : j * 1 + 1 ≤ xs.length * 1 := by omega
    have hj2 : j + 1 ≤ xs.length := hj
    obtain ⟨v, bl, o1, o2⟩ := laws_toInt64S_spec xs[j] (hm.2 _ (List.getElem_mem hj)) (B.length + 1)
    refine ⟨[v], bl, rfl, fun H T hH => (by have := o2 H T (by omega); rwa [Nat.add_comm] at this), funext fun G => ?_⟩
    have vc : v.cells = [v] ∧ v.isCell = true := by
      have := goodInt64S.cell (o2 (List.replicate (B.length + 1) []) [] (by simp))
      rcases o2 (List.replicate (B.length + 1) []) [] (by simp) with ⟨_, _, hc⟩ | ⟨_, _, _, hc, _⟩
      · rcases hc with hc | hc <;> (injection hc with hc; subst hc; exact ⟨rfl, rfl⟩)
      · injection hc with hc; subst hc; exact ⟨rfl, rfl⟩
    simp only [S.laws_toInt64SS.l6]
    simp [g1, get_of hj, hj, hj', hj2, w, hcl, o1, vc.1, vc.2, -splice]
  · intro r h
    funext G
    simp [S.laws_toInt64SS.l6]

/-! ServerS -/
abbrev mServerS (t : Bool) (a : List ((List (ByteArray) × Int))) : List GV := [fzl t 2 (mServer t) a]
def zServerS (a : List ((List (ByteArray) × Int))) : Nat := a.length + (a.map fun x => zServer x).sum
def okServerS (a : List ((List (ByteArray) × Int))) : Prop := a.length ≤ 1048576 ∧ ∀ x ∈ a, okServer x
theorem okServerS_of {a : List ((List (ByteArray) × Int))} (h : zServerS a ≤ 1048576) : okServerS a := by
  unfold zServerS at h
  refine ⟨by omega, fun x hx => ?_⟩
  have : zServer x ≤ _ := sum_mem (c := fun x => zServer x) hx
  exact okServer_of (by omega)
@[simp] theorem kload1_ServerS {h : Heap} {t : Bool} {xs : List (List ((List (ByteArray) × Int)))} {j : Nat} : kload1 h (elp t (mServerS t) xs j) = xs[j]?.map fun a => fzl t 2 (mServer t) a := kload1_elp _ (fun _ => rfl)
@[simp] theorem kia_ServerS {t : Bool} {xs : List (List ((List (ByteArray) × Int)))} {k : IntKind} {i : Int} : kia 1 (fzl t 1 (mServerS t) xs) (.int k i) = if 0 ≤ i ∧ i < xs.length then some (elp t (mServerS t) xs i.toNat) else none := kia_fzl (es := 1) (fun _ => rfl)
theorem ld_ServerS {d : Nat} {t : Bool} (a : List ((List (ByteArray) × Int))) : (mServerS t a).map (lend (d + 2)) = mServerS true a := map_cons' (lend_fzl (d := d + 1) (mk := (mServer t)) (mk' := (mServer true)) (fun a => ld_Server (d := d) a) a) (rfl)
@[simp] theorem bor_ServerS {d : Nat} {h : Heap} {t : Bool} {xs : List (List ((List (ByteArray) × Int)))} : bor (d + 4) h (fzl t 1 (mServerS t) xs) = some (fzl true 1 (mServerS true) xs, []) := bor_fzl (d := d + 3) (fun a => ld_ServerS (d := d + 1) a) xs
open Classical in
theorem laws_eqServerS_spec (xs ys : List ((List (ByteArray) × Int))) (hm : okServerS xs) : NN fn.laws_eqServerS [fzl true 2 (mServer true) xs, fzl true 2 (mServer true) ys] = some (.bool (decide (xs = ys))) := by
  apply S.laws_eqServerS.gives (k := xs.length + 1)
  have hm' : xs.length ≤ 1048576 := hm.1
  simp [S.laws_eqServerS.run]
  by_cases hl : xs.length = ys.length
  · have hi : (xs.length : Int) = ys.length := by omega
    simp [hi]
    refine (loop_all (f := fun r j => S.laws_eqServerS.l6 _ _ r _ _ _ (.int .i64 (j : Int)) _) (A := some (GV.bool true)) (B := some (GV.bool false)) (n := xs.length) (P := fun j => xs[j]? = ys[j]?) (fun j r hj => ?_) (fun r => ?_) (xs.length + 1) 0 (by omega) (by omega)).trans ?_
    · have h1 : (j : Int) < xs.length := by omega
      have h2 : (j : Int) < ys.length := by omega
      have h3 : j < ys.length := by omega
      have w := wrap_succ (n := j) (by simp only [maxLen]; omega)
      have sp := laws_eqServer_spec xs[j].1 ys[j].1 xs[j].2 ys[j].2  (hm.2 _ (List.getElem_mem hj))
      by_cases hc : xs[j] = ys[j]
      · have e1 : (xs[j].1, xs[j].2) = (ys[j].1, ys[j].2) := hc
        rw [decide_eq_true e1] at sp
        refine Eq.trans ?_ (if_pos (by rw [get_of hj, get_of h3, hc])).symm
        simp [S.laws_eqServerS.l6, h1, h2, get_of hj, get_of h3, w, sp]
      · have e1 : ¬ ((xs[j].1, xs[j].2) = (ys[j].1, ys[j].2)) := hc
        rw [decide_eq_false e1] at sp
        refine Eq.trans ?_ (if_neg (by rw [get_of hj, get_of h3]; exact fun h => hc (Option.some.inj h))).symm
        simp [S.laws_eqServerS.l6, h1, h2, get_of hj, get_of h3, w, sp]
    · simp [S.laws_eqServerS.l6]
    · simp [list_eq_iff hl]
      by_cases hx : xs = ys <;> simp [hx]
  · have : ¬ ((xs.length : Int) = ys.length) := by omega
    have hne : xs ≠ ys := fun h => hl (by rw [h])
    simp [this, hne]
abbrev rServerS : Rel (List ((List (ByteArray) × Int))) := RSl 2 rServer
theorem goodServerS : Good 1 3 (mServerS true) rServerS := RSl.good goodServer
def cServerS (xs : List ((List (ByteArray) × Int))) : Nat := cntL (fun x => (cStringS x.1) + 1) xs
noncomputable def kServerS (xs : List ((List (ByteArray) × Int))) (k : Nat) : List ((List (ByteArray) × Int)) := markL (fun x k => (kStringS x.1 (k), ((k + (cStringS x.1) : Nat) : Int))) (fun x => (cStringS x.1) + 1) xs k
theorem cServerS_le {xs : List ((List (ByteArray) × Int))} (h : okServerS xs) : cServerS xs ≤ 1099512676352 := cntL_bound (M := 1048576) (B := 1048577) (h.1) (fun x hx => by have := cStringS_le ((show okServer x from (h.2 x hx))); show _ ≤ _; omega)
theorem laws_heldServerS_spec (xs : List ((List (ByteArray) × Int))) (k : Nat) (hok : okServerS xs) (hk : k + cServerS xs ≤ 4611686018427387904) : NN fn.laws_heldServerS [(fzl true 2 (mServer true) (kServerS xs k)), .int .i64 (k : Int)] = some (.int .i64 ((k + cServerS xs : Nat) : Int)) := by
  have hlim : k + cntL (fun x => (cStringS x.1) + 1) xs ≤ 4611686018427387904 := hk
  have hlen : xs.length ≤ 1048576 := hok.1
  obtain ⟨ys, hys⟩ : ∃ ys, kServerS xs k = ys := ⟨_, rfl⟩
  have hl : ys.length = xs.length := by rw [← hys]; exact markL_len _ _
  have hg : ∀ j (hj : j < xs.length), ys[j]? = some ((kStringS xs[j].1 ((k + cntL (fun x => (cStringS x.1) + 1) (xs.take j))), (((k + cntL (fun x => (cStringS x.1) + 1) (xs.take j)) + (cStringS xs[j].1) : Nat) : Int))) := fun j hj => by rw [← hys]; exact markL_get xs k j hj
  rw [hys]
  apply S.laws_heldServerS.gives (k := xs.length + 1)
  have key := loop_to (f := fun r j => fun (G : GX → GV → GV → Heap → Option GV) => S.laws_heldServerS.l5 (xs.length + 1) G r (fzl true 2 (mServer true) ys) (.int .i64 ((k + cntL (fun x => (cStringS x.1) + 1) (xs.take j) : Nat) : Int)) (.int .i64 0) (.int .i64 (j : Int)) []) (A := fun G => G (.ext 0) (.int .i64 ((k + cServerS xs : Nat) : Int)) (.int .i64 0) []) (n := xs.length) ?_ ?_ (xs.length + 1) 0 (by omega) (by omega)
  · have key' := fun G => congrFun key G
    simp only [List.take_zero, cntL, List.map_nil, List.sum_nil, Nat.add_zero, show ((0 : Nat) : Int) = 0 from rfl] at key'
    simp [S.laws_heldServerS.run, key', -Int.natCast_add]
  · intro j r hj
    have g1 : (j : Int) < (ys.length : Int) := by omega
    have kj := kadd1 (n := j) (by omega)
    have q1 := cntL_take (c := (fun x => (cStringS x.1) + 1)) hj
    have q2 := cntL_le (c := (fun x => (cStringS x.1) + 1)) (xs := xs) (j + 1)
    have hgj := hg j hj
    try simp only at q1
    rw [q1, ← Nat.add_assoc]
    obtain ⟨K, hK⟩ : ∃ K, k + cntL (fun x => (cStringS x.1) + 1) (xs.take j) = K := ⟨_, rfl⟩
    have hKb : K + ((cStringS xs[j].1) + 1) ≤ 4611686018427387904 := by omega
    rw [hK] at hgj ⊢
    have s0 := laws_heldStringS_spec (xs[j].1) (K) ((show okServer xs[j] from (hok.2 _ (List.getElem_mem hj)))) (by omega)
    have z0 : ¬ (((K + (cStringS xs[j].1) : Nat) : Int) < 0) := by omega
    have ka1 := kadd1 (n := K + (cStringS xs[j].1)) (by omega)
    funext G
    simp only [S.laws_heldServerS.l5]
    simp [g1, hgj, kj, s0, z0, ka1, -Int.natCast_add, -kbin_add]
    try rfl
  · intro r
    funext G
    have g1 : ¬ ((xs.length : Int) < (ys.length : Int)) := by omega
    simp only [S.laws_heldServerS.l5, List.take_length]
    simp [g1, -Int.natCast_add]
    try rfl
theorem laws_markServerS_spec (h : Heap) (v : GV) (xs : List ((List (ByteArray) × Int))) (R : List Nat) (k : Nat) (hok : okServerS xs) (he : rServerS h [v] xs R) (nd : R.Nodup) (hk : k + cServerS xs ≤ 4611686018427387904) : ∃ h', HH fn.laws_markServerS [v, .int .i64 (k : Int)] h = some (.int .i64 ((k + cServerS xs : Nat) : Int), h') ∧ rServerS h' [v] (kServerS xs k) R ∧ Fr R h h' := by
  have hlim : k + cntL (fun x => (cStringS x.1) + 1) xs ≤ 4611686018427387904 := hk
  have hlen : xs.length ≤ 1048576 := hok.1
  have key := mark_loop (E := rServer) goodServer (m := (fun x k => (kStringS x.1 (k), ((k + (cStringS x.1) : Nat) : Int)))) (c := (fun x => (cStringS x.1) + 1)) (v := v) (xs := xs) (R := R) (k := k) nd (f := fun r j k h => fun (G : GX → GV → GV → Heap → Option (GV × Heap)) => S.laws_markServerS.l5 (xs.length + 1) G r v (.int .i64 (k : Int)) (.int .i64 0) (.int .i64 (j : Int)) h) (A := fun k h => fun G => G (.ext 0) (.int .i64 (k : Int)) (.int .i64 0) h) ?_ ?_ he (xs.length + 1) (by omega)
  · obtain ⟨h', a1, a2, a3⟩ := key
    refine ⟨h', S.laws_markServerS.gives (k := xs.length + 1) ?_, a2, a3⟩
    have a1' := fun G => congrFun a1 G
    simp only [show ((0 : Nat) : Int) = 0 from rfl] at a1'
    simp [S.laws_markServerS.run, a1', -Int.natCast_add]
    rfl
  · intro j r h ys he hl hj hy
    obtain ⟨b, css, c, r0, hv, hb, fl, hcn, hc, fe, hE, hbr, hbR, hrR, nd0, hup⟩ := RSl.focus goodServer he nd (j := j) (by omega)
    have ey : ys[j]'(by omega) = xs[j] := by rw [List.getElem?_eq_getElem (by omega)] at hy; exact Option.some.inj hy
    rw [ey] at hE
    rw [hl] at hv hcn
    have hcl := fe c (List.mem_of_getElem? hc)
    have hb0 : h[b]? = some (css.set j c).flatten := by rw [set_get_self hc]; exact hb
    have q1 := cntL_take (c := (fun x => (cStringS x.1) + 1)) hj
    have q2 := cntL_le (c := (fun x => (cStringS x.1) + 1)) (xs := xs) (j + 1)
    try simp only at q1
    obtain ⟨K, hK⟩ : ∃ K, k + cntL (fun x => (cStringS x.1) + 1) (xs.take j) = K := ⟨_, rfl⟩
    have hKb : K + ((cStringS xs[j].1) + 1) ≤ 4611686018427387904 := by omega
    rw [hK]
    clear hK q1 q2
    have hm := (RSl.good goodServer).mem he
    have hbl := (List.getElem?_eq_some_iff.1 hb).1
    have kj := kadd1 (n := j) (by omega)
    have k0 : kia 2 (.sl b 0 xs.length xs.length 2) (.int .i64 (j : Int)) = some (.ptr b (j * 2) (xs.length * 2)) := kia_at hj (by omega) (by omega)
    obtain ⟨c0, d0, R0, S0, rfl, rfl, E0, F0⟩ := hE
    have E1 := F0
    obtain ⟨rfl, rfl⟩ := E1
    obtain ⟨w0, rfl⟩ : ∃ w, c0 = [w] := List.length_eq_one_iff.1 (goodStringS.len E0)
    have l0 : kload1 h (.ptr b (j * 2) (xs.length * 2)) = some w0 := by rw [ld_leaf (es := 2) (off := 0) hb0 fe hcn hj hcl (by omega) (by omega) (by omega)]; rfl
    have nd1 : R0.Nodup := by simpa using nd0
    obtain ⟨H1, m1, x1, f1⟩ := laws_markStringS_spec h w0 (xs[j].1) R0 (K) ((show okServer xs[j] from (hok.2 _ (List.getElem_mem hj)))) E0 nd1 (by omega)
    have hb1 : H1[b]? = some (css.set j ([w0] ++ (ci xs[j].2))).flatten := by rw [f1.2 b hbl (by simpa using hbr)]; exact hb0
    have g1 : Fr R h H1 := f1.sub (fun i hi => hrR i (by simpa using hi))
    obtain ⟨H2, m2, hb2, f2⟩ := st_leaf (es := 2) (off := 1) (x := (.int .i64 ((K + (cStringS xs[j].1) : Nat) : Int))) (o := j * 2 + 1) (tot := xs.length * 2) hb1 fe hcn hj hcl (by omega) rfl rfl (by omega) (by omega)
    have g2 : Fr R H1 H2 := f2.sub (fun i hi => by rw [List.mem_singleton] at hi; rw [hi]; exact hbR)
    have ka1 := kadd1 (n := K + (cStringS xs[j].1)) (by omega)
    have y1_0 := goodStringS.keep x1 f2 (fun i hi hb => hbr (by rw [List.mem_singleton] at hb; rw [← hb]; simpa using hi))
    have hcl2 : (([w0] ++ (ci xs[j].2)).set 1 (.int .i64 ((K + (cStringS xs[j].1) : Nat) : Int))).length = 2 := by rw [List.length_set]; exact hcl
    refine ⟨H2, ?_, hup H2 (([w0] ++ (ci xs[j].2)).set 1 (.int .i64 ((K + (cStringS xs[j].1) : Nat) : Int))) _ hb2 ⟨_, _, _, _, rfl, rfl, y1_0, ⟨rfl, rfl⟩⟩ (fun i hi hib hir => ?_), (g1.trans g2)⟩
    · funext G
      simp only [S.laws_markServerS.l5, S.laws_markServerS.n8, S.laws_markServerS.n10, S.laws_markServerS.n9, S.laws_markServerS.n7, S.laws_markServerS.n6, hv, klen_sl, klt, decide_eq_true hj, kcond_bool, cond_true, kx_nrm, kb_nrm, Option.bind_some, kr_mk, kfa_ptr, kj, Nat.add_zero, kN_eq, bors_cons, bors_nil, bor_int, k0, l0, m1, m2, ka1]
      try rfl
    · exact ((f2.2 i (by have := hm i hi; have := f1.1; omega) (by simpa using hib)).trans (f1.2 i (hm i hi) (by simpa using hir)))
  · intro r h ys he hl
    have e1 := he.len
    rw [hl] at e1
    funext G
    simp only [S.laws_markServerS.l5, S.laws_markServerS.n6, S.laws_markServerS.n7, S.laws_markServerS.n8, S.laws_markServerS.n9, S.laws_markServerS.n10, e1, klt, Nat.lt_irrefl, decide_false, kcond_bool, cond_false, Option.bind_some, kx_ext, kb_ext]
    try rfl
theorem laws_szServerS_spec (xs : List ((List (ByteArray) × Int))) (left : Int) (hi : inSl (fun x1 : (List (ByteArray) × Int) => (inSl (fun x2 : ByteArray => x2.size ≤ maxLen) x1.1) ∧ ((Lit.int .i64 x1.2).wf = true)) xs) (hl : 0 ≤ left) (hl' : left ≤ 1048576) : NN fn.laws_szServerS [fzl true 2 (mServer true) xs, .int .i64 left] = some (.int .i64 (if left < (zServerS xs : Int) then -1 else left - zServerS xs)) := by
  apply S.laws_szServerS.gives (k := xs.length + 1)
  have w := wrap_sub hl hl' hi.1
  simp [S.laws_szServerS.run, w]
  by_cases h : left < xs.length
  · have h1 : left - xs.length < 0 := by omega
    have h2 : left < (zServerS xs : Int) := by unfold zServerS; omega
    simp [h, h1, h2]
  · have h1 : ¬ (left - xs.length < 0) := by omega
    simp [h, h1]
    refine (loop_sz (xs := xs) (c := fun x => zServer x) (f := fun r j l => S.laws_szServerS.l7 _ _ r _ (.int .i64 l) _ (.int .i64 (j : Int)) _) (A := fun l => some (GV.int .i64 l)) (B := some (GV.int .i64 (-1))) (fun j r l hj h0 h0' => ?_) (fun r l => ?_) (xs.length + 1) 0 _ (by omega) (by omega) (by omega) (by omega)).trans ?_
    · have g1 : (j : Int) < xs.length := by omega
      have ws := wrap_succ (n := j) (by have := hi.1; omega)
      have sp := laws_szServer_spec xs[j].1 xs[j].2 l (hi.2 _ (List.getElem_mem hj)) h0 h0'
      by_cases hc : l < ((zServer xs[j] : Nat) : Int)
      · have hc' : l - ((zServer xs[j] : Nat) : Int) < 0 := by omega
        simp [S.laws_szServerS.l7, g1, get_of hj, ws, sp, hc, hc']
      · have hc' : ¬ (l - ((zServer xs[j] : Nat) : Int) < 0) := by omega
        simp [S.laws_szServerS.l7, g1, get_of hj, ws, sp, hc, hc']
    · simp [S.laws_szServerS.l7]
    · simp only [List.drop_zero]
      have e : ((zServerS xs : Nat) : Int) = (xs.length : Int) + ((xs.map fun x => zServer x).sum : Nat) := by unfold zServerS; omega
      by_cases hc : left < (zServerS xs : Int)
      · rw [if_pos hc, if_pos (by omega)]
      · rw [if_neg hc, if_neg (by omega)]
        congr 2; omega
theorem laws_toServerS_spec (xs : List ((List (ByteArray) × Int))) (hm : okServerS xs) (b : Nat) : ∃ v bl, OO fn.laws_toServerS [fzl true 2 (mServer true) xs] b = some (v, bl) ∧ ∀ H T, H.length = b → rServerS (H ++ bl ++ T) [v] xs (List.range' b bl.length) := by
  have hm' : xs.length ≤ 1048576 := hm.1
  have hk := kmake_eq (z := [.nils, (.int .i64 0)]) (es := 2) (b := 32) (h := []) hm' (by omega) rfl
  have key := fill_loop (E := rServer) goodServer (z := [.nils, (.int .i64 0)]) rfl (xs := xs) (f := fun r j h => fun (G : GX → GV → GV → Heap → Option (GV × List (List GV))) => S.laws_toServerS.l6 (xs.length + 1) G r (fzl true 2 (mServer true) xs) .nils (.sl 0 0 xs.length xs.length 2) (.int .i64 (j : Int)) h) (A := fun h => fun G => G (.ext 0) .nils (.sl 0 0 xs.length xs.length 2) h) ?_ ?_ (xs.length + 1) (by omega)
  · obtain ⟨css, B, Rs, a1, a2, a3⟩ := key
    have he : rServerS (css.flatten :: B) [.sl 0 0 xs.length xs.length 2] xs (List.range' 0 (B.length + 1)) := Or.inr ⟨0, css, Rs, rfl, rfl, a2, by rw [a3, List.range'_succ]⟩
    obtain ⟨v, bl, f1, f2⟩ := goodServerS.fin (by omega) he List.nodup_range' b
    refine ⟨v, bl, S.laws_toServerS.gives (k := xs.length + 1) ?_, f2⟩
    have a1' := fun G => congrFun a1 G
    simp only [show ((0 : Nat) : Int) = 0 from rfl] at a1'
    simp [S.laws_toServerS.run, hk, a1', f1]
  · intro j r cells B hj hcl
    have g1 : (j : Int) < xs.length := by omega
    have w := wrap_succ (n := j) (by simp only [maxLen]; omega)
    have hj' : j * 2 + 2 ≤ xs.length * 2 := by omega
    have hj2 : j + 1 ≤ xs.length := hj
    obtain ⟨c, bl, o1, o2⟩ := laws_toServer_spec xs[j] (hm.2 _ (List.getElem_mem hj)) (B.length + 1)
    have hc := goodServer.len (o2 (List.replicate (B.length + 1) []) [] (by simp))
    have hcc := goodServer.cell (o2 (List.replicate (B.length + 1) []) [] (by simp))
    refine ⟨c, bl, hc, fun H T hH => (by have := o2 H T (by omega); rwa [Nat.add_comm] at this), funext fun G => ?_⟩
    rw [List.all_eq_true] at hcc
    simp only [S.laws_toServerS.l6]
    simp [g1, get_of hj, hj, hj', hj2, w, hcl, o1, hc, hcc, -splice]
    try (rw [if_pos (by exact hcc)]; simp [w])
  · intro r h
    funext G
    simp [S.laws_toServerS.l6]

/-! Chain -/
abbrev mChain (t : Bool) (a : (List ((List (ByteArray) × Int)) × List (List (ByteArray)) × List (List (Int)))) : List GV := [fzl t 2 (mServer t) a.1, fzl t 1 (mStringS t) a.2.1, fzl t 1 (mInt64S t) a.2.2]
def zChain (a : (List ((List (ByteArray) × Int)) × List (List (ByteArray)) × List (List (Int)))) : Nat := zServerS a.1 + zStringSS a.2.1 + zInt64SS a.2.2
def okChain (a : (List ((List (ByteArray) × Int)) × List (List (ByteArray)) × List (List (Int)))) : Prop := okServerS a.1 ∧ okStringSS a.2.1 ∧ okInt64SS a.2.2
theorem okChain_of {a : (List ((List (ByteArray) × Int)) × List (List (ByteArray)) × List (List (Int)))} (h : zChain a ≤ 1048576) : okChain a := by
  unfold zChain at h
  exact ⟨okServerS_of (by omega), okStringSS_of (by omega), okInt64SS_of (by omega)⟩
@[simp] theorem kloadA_Chain {h : Heap} {t : Bool} {xs : List (List ((List (ByteArray) × Int)) × List (List (ByteArray)) × List (List (Int)))} {j : Nat} : kloadA 3 h (elp t (mChain t) xs j) = xs[j]?.map fun a => .agg (mChain t a) := kloadA_elp (mk := mChain t) (es := 3) (fun _ => rfl) (by omega)
@[simp] theorem kload1_Chain_0 {h : Heap} {t : Bool} {xs : List ((List ((List (ByteArray) × Int)) × List (List (ByteArray)) × List (List (Int))))} {j : Nat} : kload1 h (elf t (mChain t) xs j 0) = xs[j]?.bind fun a => (mChain t a)[0]? := kload1_elf (mk := mChain t) (es := 3) (fun _ => rfl) (by omega)
@[simp] theorem kload1_Chain_1 {h : Heap} {t : Bool} {xs : List ((List ((List (ByteArray) × Int)) × List (List (ByteArray)) × List (List (Int))))} {j : Nat} : kload1 h (elf t (mChain t) xs j 1) = xs[j]?.bind fun a => (mChain t a)[1]? := kload1_elf (mk := mChain t) (es := 3) (fun _ => rfl) (by omega)
@[simp] theorem kload1_Chain_2 {h : Heap} {t : Bool} {xs : List ((List ((List (ByteArray) × Int)) × List (List (ByteArray)) × List (List (Int))))} {j : Nat} : kload1 h (elf t (mChain t) xs j 2) = xs[j]?.bind fun a => (mChain t a)[2]? := kload1_elf (mk := mChain t) (es := 3) (fun _ => rfl) (by omega)
@[simp] theorem kia_Chain {t : Bool} {xs : List ((List ((List (ByteArray) × Int)) × List (List (ByteArray)) × List (List (Int))))} {k : IntKind} {i : Int} : kia 3 (fzl t 3 (mChain t) xs) (.int k i) = if 0 ≤ i ∧ i < xs.length then some (elp t (mChain t) xs i.toNat) else none := kia_fzl (es := 3) (fun _ => rfl)
theorem ld_Chain {d : Nat} {t : Bool} (a : (List ((List (ByteArray) × Int)) × List (List (ByteArray)) × List (List (Int)))) : (mChain t a).map (lend (d + 2)) = mChain true a := map_cons' (lend_fzl (d := d + 1) (mk := (mServer t)) (mk' := (mServer true)) (fun a => ld_Server (d := d) a) a.1) (map_cons' (lend_fzl (d := d + 1) (mk := (mStringS t)) (mk' := (mStringS true)) (fun a => ld_StringS (d := d) a) a.2.1) (map_cons' (lend_fzl (d := d + 1) (mk := (mInt64S t)) (mk' := (mInt64S true)) (fun a => ld_Int64S (d := d) a) a.2.2) (rfl)))
@[simp] theorem bor_Chain {d : Nat} {h : Heap} {t : Bool} {xs : List ((List ((List (ByteArray) × Int)) × List (List (ByteArray)) × List (List (Int))))} : bor (d + 4) h (fzl t 3 (mChain t) xs) = some (fzl true 3 (mChain true) xs, []) := bor_fzl (d := d + 3) (fun a => ld_Chain (d := d + 1) a) xs
open Classical in
theorem laws_eqChain_spec (a_1 b_1 : List ((List (ByteArray) × Int))) (a_2 b_2 : List (List (ByteArray))) (a_3 b_3 : List (List (Int))) (hm : okChain (a_1, a_2, a_3)) : NN fn.laws_eqChain [.agg [fzl true 2 (mServer true) a_1, fzl true 1 (mStringS true) a_2, fzl true 1 (mInt64S true) a_3], .agg [fzl true 2 (mServer true) b_1, fzl true 1 (mStringS true) b_2, fzl true 1 (mInt64S true) b_3]] = some (.bool (decide ((a_1, a_2, a_3) = (b_1, b_2, b_3)))) := by
  apply S.laws_eqChain.gives (k := 0)
  unfold okChain at hm
  have s0 := laws_eqServerS_spec a_1 b_1 hm.1
  by_cases c0 : a_1 = b_1
  rotate_left
  · have e : ¬ ((a_1, a_2, a_3) = (b_1, b_2, b_3)) := fun e => c0 (by simp only [Prod.mk.injEq] at e ⊢; simp [e])
    rw [decide_eq_false e]
    rw [decide_eq_false c0] at s0
    simp [S.laws_eqChain.run, s0]
  rw [decide_eq_true c0] at s0
  have s1 := laws_eqStringSS_spec a_2 b_2 hm.2.1
  by_cases c1 : a_2 = b_2
  rotate_left
  · have e : ¬ ((a_1, a_2, a_3) = (b_1, b_2, b_3)) := fun e => c1 (by simp only [Prod.mk.injEq] at e ⊢; simp [e])
    rw [decide_eq_false e]
    rw [decide_eq_false c1] at s1
    simp [S.laws_eqChain.run, s0, s1]
  rw [decide_eq_true c1] at s1
  have s2 := laws_eqInt64SS_spec a_3 b_3 hm.2.2
  by_cases c2 : a_3 = b_3
  rotate_left
  · have e : ¬ ((a_1, a_2, a_3) = (b_1, b_2, b_3)) := fun e => c2 (by simp only [Prod.mk.injEq] at e ⊢; simp [e])
    rw [decide_eq_false e]
    rw [decide_eq_false c2] at s2
    simp [S.laws_eqChain.run, s0, s1, s2]
  rw [decide_eq_true c2] at s2
  have e : (a_1, a_2, a_3) = (b_1, b_2, b_3) := by rw [c0, c1, c2]
  rw [decide_eq_true e]
  simp [S.laws_eqChain.run, s0, s1, s2]
abbrev rChain : Rel ((List ((List (ByteArray) × Int)) × List (List (ByteArray)) × List (List (Int)))) := (RSeq rServerS (RSeq rStringSS rInt64SS))
theorem goodChain : Good 3 3 (mChain true) rChain := (RSeq.good (goodServerS.mono (by omega)) (RSeq.good (goodStringSS.mono (by omega)) (goodInt64SS.mono (by omega))))
def cChain (x : (List ((List (ByteArray) × Int)) × List (List (ByteArray)) × List (List (Int)))) : Nat := cServerS x.1 + cStringSS x.2.1 + cInt64SS x.2.2
theorem cChain_le {x : (List ((List (ByteArray) × Int)) × List (List (ByteArray)) × List (List (Int)))} (h : okChain x) : cChain x ≤ 3298535931904 := by
  unfold okChain at h
  unfold cChain
  have := cServerS_le h.1
  have := cStringSS_le h.2.1
  have := cInt64SS_le h.2.2
  omega
noncomputable def kChain (x : (List ((List (ByteArray) × Int)) × List (List (ByteArray)) × List (List (Int)))) (k : Nat) : (List ((List (ByteArray) × Int)) × List (List (ByteArray)) × List (List (Int))) := (kServerS x.1 (k), kStringSS x.2.1 (k + cServerS x.1), kInt64SS x.2.2 (k + cServerS x.1 + cStringSS x.2.1))
theorem laws_heldChain_spec (x : (List ((List (ByteArray) × Int)) × List (List (ByteArray)) × List (List (Int)))) (k : Nat) (hok : okChain x) (hk : k + cChain x ≤ 4611686018427387904) : NN fn.laws_heldChain [.agg (mChain true (kChain x k)), .int .i64 (k : Int)] = some (.int .i64 ((k + cChain x : Nat) : Int)) := by
  unfold okChain at hok
  unfold cChain at hk
  apply S.laws_heldChain.gives (k := 0)
  have s0 := laws_heldServerS_spec x.1 (k) hok.1 (by omega)
  have z0 : ¬ (((k + cServerS x.1 : Nat) : Int) < 0) := by omega
  have s1 := laws_heldStringSS_spec x.2.1 (k + cServerS x.1) hok.2.1 (by omega)
  have z1 : ¬ (((k + cServerS x.1 + cStringSS x.2.1 : Nat) : Int) < 0) := by omega
  have s2 := laws_heldInt64SS_spec x.2.2 (k + cServerS x.1 + cStringSS x.2.1) hok.2.2 (by omega)
  have z2 : ¬ (((k + cServerS x.1 + cStringSS x.2.1 + cInt64SS x.2.2 : Nat) : Int) < 0) := by omega
  simp only [kChain, cChain, ← Nat.add_assoc]
  simp [S.laws_heldChain.run, s0, z0, s1, z1, s2, z2, -Int.natCast_add]
theorem laws_markChain_spec (h : Heap) (c : List GV) (x : (List ((List (ByteArray) × Int)) × List (List (ByteArray)) × List (List (Int)))) (R : List Nat) (k : Nat) (hok : okChain x) (he : rChain h c x R) (nd : R.Nodup) (hk : k + cChain x ≤ 4611686018427387904) : ∃ h', HH fn.laws_markChain [.agg c, .int .i64 (k : Int)] h = some (.int .i64 ((k + cChain x : Nat) : Int), h') ∧ rChain h' c (kChain x k) R ∧ Fr R h h' := by
  have ek : k + cChain x = k + cServerS x.1 + cStringSS x.2.1 + cInt64SS x.2.2 := by unfold cChain; omega
  rw [ek] at hk ⊢
  unfold okChain at hok
  have hcl := goodChain.len he
  have hm := goodChain.mem he
  have he0 := goodChain.grow (t := [c]) he
  have hb0 : (h ++ [c])[h.length]? = some c := by simp
  have hbox : ∀ {Q : Type} (K : GV → Heap → Option Q), kbox (.agg c) h K = K (.ptr h.length 0 3) (h ++ [c]) := fun K => by rw [kbox_agg, hcl]
  obtain ⟨H0, hH0⟩ : ∃ H0, h ++ [c] = H0 := ⟨_, rfl⟩
  have g0 : Fr R h H0 := by rw [← hH0]; exact .app
  have hl0 : h.length < H0.length := by rw [← hH0]; simp
  rw [hH0] at he0 hb0
  simp only [hH0] at hbox
  obtain ⟨c0, d0, R0, S0, rfl, rfl, E0, F0⟩ := he0
  have N0 := List.nodup_append.1 nd
  obtain ⟨w0, rfl⟩ : ∃ w, c0 = [w] := List.length_eq_one_iff.1 (goodServerS.len E0)
  obtain ⟨c1, d1, R1, S1, rfl, rfl, E1, F1⟩ := F0
  have N1 := List.nodup_append.1 N0.2.1
  obtain ⟨w1, rfl⟩ : ∃ w, c1 = [w] := List.length_eq_one_iff.1 (goodStringSS.len E1)
  have E2 := F1
  obtain ⟨w2, rfl⟩ : ∃ w, d1 = [w] := List.length_eq_one_iff.1 (goodInt64SS.len E2)
  have l0 : kload1 H0 (.ptr h.length 0 3) = some w0 := by rw [kload1_at hb0 hcl]; rfl
  obtain ⟨H1, m0, x0, f0⟩ := laws_markServerS_spec H0 w0 x.1 R0 (k) hok.1 E0 (N0.1) (by omega)
  have i0 : h.length ∉ R0 := fun hz => by have := hm h.length (by simp [hz]); omega
  have hb1 : H1[h.length]? = some _ := (f0.2 _ (by omega) i0).trans hb0
  have y0_1 := goodStringSS.keep E1 f0 (fun z h1 h2 => N0.2.2 z h2 z (by simp [h1]) rfl)
  have y0_2 := goodInt64SS.keep E2 f0 (fun z h1 h2 => N0.2.2 z h2 z (by simp [h1]) rfl)
  have l1 : kload1 H1 (.ptr h.length 1 3) = some w1 := by rw [kload1_at hb1 hcl]; rfl
  obtain ⟨H2, m1, x1, f1⟩ := laws_markStringSS_spec H1 w1 x.2.1 R1 (k + cServerS x.1) hok.2.1 y0_1 (N1.1) (by omega)
  have i1 : h.length ∉ R1 := fun hz => by have := hm h.length (by simp [hz]); omega
  have hb2 : H2[h.length]? = some _ := (f1.2 _ (by have := f0.1; omega) i1).trans hb1
  have y1_0 := goodServerS.keep x0 f1 (fun z h1 h2 => N0.2.2 z h1 z (by simp [h2]) rfl)
  have y1_2 := goodInt64SS.keep y0_2 f1 (fun z h1 h2 => N1.2.2 z h2 z (by simp [h1]) rfl)
  have l2 : kload1 H2 (.ptr h.length 2 3) = some w2 := by rw [kload1_at hb2 hcl]; rfl
  obtain ⟨H3, m2, x2, f2⟩ := laws_markInt64SS_spec H2 w2 x.2.2 S1 (k + cServerS x.1 + cStringSS x.2.1) hok.2.2 y1_2 (N1.2.1) (by omega)
  have i2 : h.length ∉ S1 := fun hz => by have := hm h.length (by simp [hz]); omega
  have hb3 : H3[h.length]? = some _ := (f2.2 _ (by have := f0.1; have := f1.1; omega) i2).trans hb2
  have y2_0 := goodServerS.keep y1_0 f2 (fun z h1 h2 => N0.2.2 z h1 z (by simp [h2]) rfl)
  have y2_1 := goodStringSS.keep x1 f2 (fun z h1 h2 => N1.2.2 z h1 z (by simp [h2]) rfl)
  refine ⟨H3, S.laws_markChain.gives (k := 0) ?_, ⟨_, _, _, _, rfl, rfl, y2_0, ⟨_, _, _, _, rfl, rfl, y2_1, x2⟩⟩, (((g0.trans (f0.sub (fun z hz => by simp [hz]))).trans (f1.sub (fun z hz => by simp [hz]))).trans (f2.sub (fun z hz => by simp [hz])))⟩
  simp only [S.laws_markChain.run, S.laws_markChain.n0, hbox, l0, m0, l1, m1, l2, m2, kfa_ptr, Nat.zero_add, Option.bind_some, kr_mk, kend_ret, finH_eq]
theorem laws_szChain_spec (a_1 : List ((List (ByteArray) × Int))) (a_2 : List (List (ByteArray))) (a_3 : List (List (Int))) (left : Int) (hi : (inSl (fun x1 : (List (ByteArray) × Int) => (inSl (fun x2 : ByteArray => x2.size ≤ maxLen) x1.1) ∧ ((Lit.int .i64 x1.2).wf = true)) a_1) ∧ ((inSl (fun x1 : List (ByteArray) => inSl (fun x2 : ByteArray => x2.size ≤ maxLen) x1) a_2) ∧ (inSl (fun x1 : List (Int) => inSl (fun x2 : Int => (Lit.int .i64 x2).wf = true) x1) a_3))) (hl : 0 ≤ left) (hl' : left ≤ 1048576) : NN fn.laws_szChain [.agg [fzl true 2 (mServer true) a_1, fzl true 1 (mStringS true) a_2, fzl true 1 (mInt64S true) a_3], .int .i64 left] = some (.int .i64 (if left < (zChain (a_1, a_2, a_3) : Int) then -1 else left - zChain (a_1, a_2, a_3))) := by
  apply S.laws_szChain.gives (k := 0)
  show _ = some (GV.int .i64 (if left < ((zServerS a_1 + zStringSS a_2 + zInt64SS a_3 : Nat) : Int) then -1 else left - ((zServerS a_1 + zStringSS a_2 + zInt64SS a_3 : Nat) : Int)))
  have s0 := laws_szServerS_spec a_1 (left) hi.1 (by omega) (by omega)
  by_cases c0 : left < ((zServerS a_1 : Nat) : Int)
  · have d0 : left - ((zServerS a_1 : Nat) : Int) < 0 := by omega
    rw [if_pos (by omega : left < ((zServerS a_1 + zStringSS a_2 + zInt64SS a_3 : Nat) : Int))]
    simp [S.laws_szChain.run, s0, c0, d0]
  have d0 : ¬ (left - ((zServerS a_1 : Nat) : Int) < 0) := by omega
  have s1 := laws_szStringSS_spec a_2 (left - ((zServerS a_1 : Nat) : Int)) hi.2.1 (by omega) (by omega)
  by_cases c1 : left - ((zServerS a_1 : Nat) : Int) < ((zStringSS a_2 : Nat) : Int)
  · have d1 : left - ((zServerS a_1 : Nat) : Int) - ((zStringSS a_2 : Nat) : Int) < 0 := by omega
    rw [if_pos (by omega : left < ((zServerS a_1 + zStringSS a_2 + zInt64SS a_3 : Nat) : Int))]
    simp [S.laws_szChain.run, s0, c0, d0, s1, c1, d1]
  have d1 : ¬ (left - ((zServerS a_1 : Nat) : Int) - ((zStringSS a_2 : Nat) : Int) < 0) := by omega
  have s2 := laws_szInt64SS_spec a_3 (left - ((zServerS a_1 : Nat) : Int) - ((zStringSS a_2 : Nat) : Int)) hi.2.2 (by omega) (by omega)
  by_cases c2 : left - ((zServerS a_1 : Nat) : Int) - ((zStringSS a_2 : Nat) : Int) < ((zInt64SS a_3 : Nat) : Int)
  · have d2 : left - ((zServerS a_1 : Nat) : Int) - ((zStringSS a_2 : Nat) : Int) - ((zInt64SS a_3 : Nat) : Int) < 0 := by omega
    rw [if_pos (by omega : left < ((zServerS a_1 + zStringSS a_2 + zInt64SS a_3 : Nat) : Int))]
    simp [S.laws_szChain.run, s0, c0, d0, s1, c1, d1, s2, c2, d2]
  have d2 : ¬ (left - ((zServerS a_1 : Nat) : Int) - ((zStringSS a_2 : Nat) : Int) - ((zInt64SS a_3 : Nat) : Int) < 0) := by omega
  rw [if_neg (by omega)]
  simp [S.laws_szChain.run, s0, c0, d0, s1, c1, d1, s2, c2, d2]
  try omega
theorem laws_toChain_spec (x : (List ((List (ByteArray) × Int)) × List (List (ByteArray)) × List (List (Int)))) (hm : okChain x) (b : Nat) : ∃ c bl, OO fn.laws_toChain [.agg (mChain true x)] b = some (.agg c, bl) ∧ ∀ H T, H.length = b → rChain (H ++ bl ++ T) c x (List.range' b bl.length) := by
  unfold okChain at hm
  obtain ⟨v0, B0, o0, e0⟩ := laws_toServerS_spec x.1 hm.1 (3)
  have vc0 := cell_of (e0 (List.replicate (3) []) [] (by simp))
  obtain ⟨v1, B1, o1, e1⟩ := laws_toStringSS_spec x.2.1 hm.2.1 (B0.length + 3)
  have vc1 := cell_of (e1 (List.replicate (B0.length + 3) []) [] (by simp))
  obtain ⟨v2, B2, o2, e2⟩ := laws_toInt64SS_spec x.2.2 hm.2.2 (B0.length + B1.length + 3)
  have vc2 := cell_of (e2 (List.replicate (B0.length + B1.length + 3) []) [] (by simp))
  have he : ∀ a o1 o2 : List GV, rChain ([a, o1, o2] ++ B0 ++ B1 ++ B2) ([v0] ++ ([v1] ++ ([v2]))) x (List.range' (3) B0.length ++ (List.range' (B0.length + 3) B1.length ++ (List.range' (B0.length + B1.length + 3) B2.length))) := fun a o1 o2 => ⟨_, _, _, _, rfl, rfl, (by have := e0 ([a, o1, o2]) (B1 ++ B2) (by simp <;> omega); simpa using this), ⟨_, _, _, _, rfl, rfl, (by have := e1 ([a, o1, o2] ++ B0) (B2) (by simp <;> omega); simpa using this), (by have := e2 ([a, o1, o2] ++ B0 ++ B1) ([]) (by simp <;> omega); simpa using this)⟩⟩
  have nd : (List.range' (3) B0.length ++ (List.range' (B0.length + 3) B1.length ++ (List.range' (B0.length + B1.length + 3) B2.length))).Nodup := (nd_range (nd_range List.nodup_range' (lb_range (by omega))) (lb_app (by omega) (lb_range (by omega))))
  obtain ⟨c, bl, f1, f2⟩ := goodChain.finS (by omega) (he (mChain true x) ([v0] ++ ([v1] ++ ([v2]))) ([v0] ++ ([v1] ++ ([v2])))) nd b
  refine ⟨c, bl, S.laws_toChain.gives (k := 0) ?_, f2⟩
  simp [S.laws_toChain.run, o0, vc0.1, vc0.2, o1, vc1.1, vc1.2, o2, vc2.1, vc2.2]
  simpa using f1
end Go.Proofs.Ytlbnioapepelnaa.G
