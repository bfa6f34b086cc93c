/- Written by mgen.py: types, and what the functions of the laws that go over them answer; how such data lie in memory, their marks. -/
import Derived.Test.YtklhdbkaejbajaaDoorTM
import Derived.Test.YtklhdbkaejbajaaDoorSR
namespace Go.Proofs.YtklhdbkaejbajaaDoor.G
open Go.RowKit
set_option linter.unusedVariables false
set_option linter.unusedSimpArgs false
/-! The text of a mark. -/
noncomputable def mtext (k : Nat) : ByteArray := match NN fn.laws_markText [.int .i64 (k : Int)] with | some (.str s) => s | _ => default
theorem markText_loop {R : Type} : ∀ (r n : Nat) (s : ByteArray) (v2 : GV) (h : Heap), n < 10 ^ r → n ≤ 4611686018427387904 → s.size + r ≤ 1000 → ∃ s' h', s'.size ≤ 1000 ∧ ∀ (k : Nat) (G : GX → GV → GV → Heap → Option R), S.laws_markText.l6 k G (r + 1) (.int .i64 (n : Int)) v2 (.str s) h = G (.ext 0) v2 (.str s') h' := by
  intro r
  induction r with
  | zero =>
    intro n s v2 h hn hn' hs
    have : n = 0 := by simpa using hn
    subst this
    refine ⟨s, h, by omega, fun k G => ?_⟩
    simp [S.laws_markText.l6]
  | succ r ih =>
    intro n s v2 h hn hn' hs
    by_cases h0 : n = 0
    · subst h0
      refine ⟨s, h, by omega, fun k G => ?_⟩
      simp [S.laws_markText.l6]
    · have g0 : (0 : Int) < n := by omega
      have hd : n / 10 < 10 ^ r := by rw [Nat.pow_succ] at hn; omega
      have hq : (n : Int).tdiv 10 = ((n / 10 : Nat) : Int) := by rw [Int.tdiv_eq_ediv_of_nonneg (by omega)]; omega
      have w : IntKind.i64.wrap (((n / 10 : Nat) : Int)) = ((n / 10 : Nat) : Int) := by rw [wrap_id] <;> omega
      have e1 : kbin .quo (.int .i64 (n : Int)) (.int .i64 10) = some (.int .i64 ((n / 10 : Nat) : Int)) := by rw [kbin_quo (by omega), hq, w]
      obtain ⟨d, hd1⟩ : ∃ d : Int, kbin .rem (.int .i64 (n : Int)) (.int .i64 10) = some (.int .i64 d) := ⟨_, kbin_rem (by omega)⟩
      obtain ⟨s1, h1, hs1, ih1⟩ := ih (n / 10) ((⟨#[UInt8.ofNat (IntKind.u8.wrap (IntKind.i64.wrap (48 + d))).toNat]⟩ : ByteArray) ++ s) v2 (h ++ [[.int .u8 (IntKind.u8.wrap (IntKind.i64.wrap (48 + d)))]]) hd (by omega) (by rw [ByteArray.size_append]; show 1 + s.size + r ≤ 1000; omega)
      refine ⟨s1, h1, hs1, fun k G => ?_⟩
      have e2 : kbstr (h ++ [[.int .u8 (IntKind.u8.wrap (IntKind.i64.wrap (48 + d)))]]) (.sl h.length 0 1 1 1) = some (.str ⟨#[UInt8.ofNat (IntKind.u8.wrap (IntKind.i64.wrap (48 + d))).toNat]⟩) := by
        simp [kbstr, gcells, gbyte]
      have e3 := kbin_sadd (a := ⟨#[UInt8.ofNat (IntKind.u8.wrap (IntKind.i64.wrap (48 + d))).toNat]⟩) (b := s) (by show 1 + s.size ≤ maxLen; simp only [maxLen]; omega)
      have g1 : 0 < n := by omega
      rw [S.laws_markText.l6]
      simp [g0, g1, hd1, gfill, zeros, kbs, e2, e3, -Int.natCast_ediv, e1, ih1]
theorem laws_markText_spec (k : Nat) (hk : k ≤ 4611686018427387904) : NN fn.laws_markText [.int .i64 (k : Int)] = some (.str (mtext k)) := by
  have : ∃ s, NN fn.laws_markText [.int .i64 (k : Int)] = some (.str s) := by
    by_cases h0 : k = 0
    · subst h0
      refine ⟨_, S.laws_markText.gives (k := 0) (v := .str ⟨#[109, 48]⟩) ?_⟩
      simp [S.laws_markText.run]
    · obtain ⟨s, h, hs, e⟩ := markText_loop (R := GV) 30 k ⟨#[]⟩ (.str ⟨#[]⟩) [] (by omega) hk (by show 0 + 30 ≤ 1000; omega)
      refine ⟨_, S.laws_markText.gives (k := 31) (v := .str (⟨#[109]⟩ ++ s)) ?_⟩
      have g0 : ¬ ((k : Int) ≤ 0) := by omega
      have e3 := kbin_sadd (a := ⟨#[109]⟩) (b := s) (by show 1 + s.size ≤ maxLen; simp only [maxLen]; omega)
      simp [S.laws_markText.run, g0, h0, e, e3]
  obtain ⟨s, hs⟩ := this
  have : mtext k = s := by unfold mtext; rw [hs]
  rw [this, hs]


/-! StringS -/
abbrev mStringS (t : Bool) (a : List (ByteArray)) : List GV := [fzl t 1 cs a]
def zStringS (a : List (ByteArray)) : Nat := a.length + (a.map fun x => x.size).sum
def okStringS (a : List (ByteArray)) : Prop := a.length ≤ 1048576 ∧ ∀ x ∈ a, x.size ≤ 1048576
theorem okStringS_of {a : List (ByteArray)} (h : zStringS a ≤ 1048576) : okStringS a := by
  unfold zStringS at h
  refine ⟨by omega, fun x hx => ?_⟩
  have : x.size ≤ _ := sum_mem (c := fun x => x.size) hx
  omega
@[simp] theorem kload1_StringS {h : Heap} {t : Bool} {xs : List (List (ByteArray))} {j : Nat} : kload1 h (elp t (mStringS t) xs j) = xs[j]?.map fun a => fzl t 1 cs a := kload1_elp _ (fun _ => rfl)
@[simp] theorem kia_StringS {t : Bool} {xs : List (List (ByteArray))} {k : IntKind} {i : Int} : kia 1 (fzl t 1 (mStringS t) xs) (.int k i) = if 0 ≤ i ∧ i < xs.length then some (elp t (mStringS t) xs i.toNat) else none := kia_fzl (es := 1) (fun _ => rfl)
theorem ld_StringS {d : Nat} {t : Bool} (a : List (ByteArray)) : (mStringS t a).map (lend (d + 1)) = mStringS true a := map_cons' (lend_fzl (d := d) (mk := cs) (mk' := cs) (fun a => map_cons' lend_str rfl) a) (rfl)
@[simp] theorem bor_StringS {d : Nat} {h : Heap} {t : Bool} {xs : List (List (ByteArray))} : bor (d + 3) h (fzl t 1 (mStringS t) xs) = some (fzl true 1 (mStringS true) xs, []) := bor_fzl (d := d + 2) (fun a => ld_StringS (d := d + 1) a) xs
open Classical in
theorem laws_eqStringS_spec (xs ys : List (ByteArray)) (hm : okStringS xs) : NN fn.laws_eqStringS [fzl true 1 cs xs, fzl true 1 cs ys] = some (.bool (decide (xs = ys))) := by
  apply S.laws_eqStringS.gives (k := xs.length + 1)
  have hm' : xs.length ≤ 1048576 := hm.1
  simp [S.laws_eqStringS.run]
  by_cases hl : xs.length = ys.length
  · have hi : (xs.length : Int) = ys.length := by omega
    simp [hi]
    refine (loop_all (f := fun r j => S.laws_eqStringS.l6 _ _ r _ _ _ (.int .i64 (j : Int)) _) (A := some (GV.bool true)) (B := some (GV.bool false)) (n := xs.length) (P := fun j => xs[j]? = ys[j]?) (fun j r hj => ?_) (fun r => ?_) (xs.length + 1) 0 (by omega) (by omega)).trans ?_
    · have h1 : (j : Int) < xs.length := by omega
      have h2 : (j : Int) < ys.length := by omega
      have h3 : j < ys.length := by omega
      have w := wrap_succ (n := j) (by simp only [maxLen]; omega)
      by_cases hc : xs[j] = ys[j]
      · simp [S.laws_eqStringS.l6, h1, h2, get_of hj, get_of h3, w, hc]
      · simp [S.laws_eqStringS.l6, h1, h2, get_of hj, get_of h3, w, hc]
    · simp [S.laws_eqStringS.l6]
    · simp [list_eq_iff hl]
      by_cases hx : xs = ys <;> simp [hx]
  · have : ¬ ((xs.length : Int) = ys.length) := by omega
    have hne : xs ≠ ys := fun h => hl (by rw [h])
    simp [this, hne]
abbrev rStringS : Rel (List (ByteArray)) := RSl 1 (RFl cs)
theorem goodStringS : Good 1 2 (mStringS true) rStringS := RSl.good (RFl.good (es := 1) (mk := cs) (fun _ => rfl) (fun _ => rfl))
def cStringS (xs : List (ByteArray)) : Nat := cntL (fun x => 1) xs
noncomputable def kStringS (xs : List (ByteArray)) (k : Nat) : List (ByteArray) := markL (fun x k => mtext (k)) (fun x => 1) xs k
theorem cStringS_le {xs : List (ByteArray)} (h : okStringS xs) : cStringS xs ≤ 1048576 := cntL_bound (M := 1048576) (B := 1) (h.1) (fun x hx => by show _ ≤ _; omega)
theorem laws_heldStringS_spec (xs : List (ByteArray)) (k : Nat) (hok : okStringS xs) (hk : k + cStringS xs ≤ 4611686018427387904) : NN fn.laws_heldStringS [(fzl true 1 cs (kStringS xs k)), .int .i64 (k : Int)] = some (.int .i64 ((k + cStringS xs : Nat) : Int)) := by
  have hlim : k + cntL (fun x => 1) xs ≤ 4611686018427387904 := hk
  have hlen : xs.length ≤ 1048576 := hok.1
  obtain ⟨ys, hys⟩ : ∃ ys, kStringS xs k = ys := ⟨_, rfl⟩
  have hl : ys.length = xs.length := by rw [← hys]; exact markL_len _ _
  have hg : ∀ j (hj : j < xs.length), ys[j]? = some (mtext ((k + cntL (fun x => 1) (xs.take j)))) := fun j hj => by rw [← hys]; exact markL_get xs k j hj
  rw [hys]
  apply S.laws_heldStringS.gives (k := xs.length + 1)
  have key := loop_to (f := fun r j => fun (G : GX → GV → GV → Heap → Option GV) => S.laws_heldStringS.l5 (xs.length + 1) G r (fzl true 1 cs ys) (.int .i64 ((k + cntL (fun x => 1) (xs.take j) : Nat) : Int)) (.int .i64 0) (.int .i64 (j : Int)) []) (A := fun G => G (.ext 0) (.int .i64 ((k + cStringS xs : Nat) : Int)) (.int .i64 0) []) (n := xs.length) ?_ ?_ (xs.length + 1) 0 (by omega) (by omega)
  · have key' := fun G => congrFun key G
    simp only [List.take_zero, cntL, List.map_nil, List.sum_nil, Nat.add_zero, show ((0 : Nat) : Int) = 0 from rfl] at key'
    simp [S.laws_heldStringS.run, key', -Int.natCast_add]
  · intro j r hj
    have g1 : (j : Int) < (ys.length : Int) := by omega
    have kj := kadd1 (n := j) (by omega)
    have q1 := cntL_take (c := (fun x => 1)) hj
    have q2 := cntL_le (c := (fun x => 1)) (xs := xs) (j + 1)
    have hgj := hg j hj
    try simp only at q1
    rw [q1, ← Nat.add_assoc]
    obtain ⟨K, hK⟩ : ∃ K, k + cntL (fun x => 1) (xs.take j) = K := ⟨_, rfl⟩
    have hKb : K + (1) ≤ 4611686018427387904 := by omega
    rw [hK] at hgj ⊢
    have t0 := laws_markText_spec (K) (by omega)
    have ka0 := kadd1 (n := K) (by omega)
    funext G
    simp only [S.laws_heldStringS.l5]
    simp [g1, hgj, kj, t0, ka0, -Int.natCast_add, -kbin_add]
    try rfl
  · intro r
    funext G
    have g1 : ¬ ((xs.length : Int) < (ys.length : Int)) := by omega
    simp only [S.laws_heldStringS.l5, List.take_length]
    simp [g1, -Int.natCast_add]
    try rfl
theorem laws_markStringS_spec (h : Heap) (v : GV) (xs : List (ByteArray)) (R : List Nat) (k : Nat) (hok : okStringS xs) (he : rStringS h [v] xs R) (nd : R.Nodup) (hk : k + cStringS xs ≤ 4611686018427387904) : ∃ h', HH fn.laws_markStringS [v, .int .i64 (k : Int)] h = some (.int .i64 ((k + cStringS xs : Nat) : Int), h') ∧ rStringS h' [v] (kStringS xs k) R ∧ Fr R h h' := by
  have hlim : k + cntL (fun x => 1) xs ≤ 4611686018427387904 := hk
  have hlen : xs.length ≤ 1048576 := hok.1
  have key := mark_loop (E := (RFl cs)) (RFl.good (es := 1) (mk := cs) (fun _ => rfl) (fun _ => rfl)) (m := (fun x k => mtext (k))) (c := (fun x => 1)) (v := v) (xs := xs) (R := R) (k := k) nd (f := fun r j k h => fun (G : GX → GV → GV → Heap → Option (GV × Heap)) => S.laws_markStringS.l5 (xs.length + 1) G r v (.int .i64 (k : Int)) (.int .i64 0) (.int .i64 (j : Int)) h) (A := fun k h => fun G => G (.ext 0) (.int .i64 (k : Int)) (.int .i64 0) h) ?_ ?_ he (xs.length + 1) (by omega)
  · obtain ⟨h', a1, a2, a3⟩ := key
    refine ⟨h', S.laws_markStringS.gives (k := xs.length + 1) ?_, a2, a3⟩
    have a1' := fun G => congrFun a1 G
    simp only [show ((0 : Nat) : Int) = 0 from rfl] at a1'
    simp [S.laws_markStringS.run, a1', -Int.natCast_add]
    rfl
  · intro j r h ys he hl hj hy
    obtain ⟨b, css, c, r0, hv, hb, fl, hcn, hc, fe, hE, hbr, hbR, hrR, nd0, hup⟩ := RSl.focus (RFl.good (es := 1) (mk := cs) (fun _ => rfl) (fun _ => rfl)) he nd (j := j) (by omega)
    have ey : ys[j]'(by omega) = xs[j] := by rw [List.getElem?_eq_getElem (by omega)] at hy; exact Option.some.inj hy
    rw [ey] at hE
    rw [hl] at hv hcn
    have hcl := fe c (List.mem_of_getElem? hc)
    have hb0 : h[b]? = some (css.set j c).flatten := by rw [set_get_self hc]; exact hb
    have q1 := cntL_take (c := (fun x => 1)) hj
    have q2 := cntL_le (c := (fun x => 1)) (xs := xs) (j + 1)
    try simp only at q1
    obtain ⟨K, hK⟩ : ∃ K, k + cntL (fun x => 1) (xs.take j) = K := ⟨_, rfl⟩
    have hKb : K + (1) ≤ 4611686018427387904 := by omega
    rw [hK]
    clear hK q1 q2
    have hm := (RSl.good (RFl.good (es := 1) (mk := cs) (fun _ => rfl) (fun _ => rfl))).mem he
    have hbl := (List.getElem?_eq_some_iff.1 hb).1
    have kj := kadd1 (n := j) (by omega)
    have k0 : kia 1 (.sl b 0 xs.length xs.length 1) (.int .i64 (j : Int)) = some (.ptr b (j) (xs.length)) := kia_at hj (by omega) (by omega)
    obtain ⟨rfl, rfl⟩ := hE
    have t0 := laws_markText_spec (K) (by omega)
    obtain ⟨H1, m1, hb1, f1⟩ := st_leaf (es := 1) (off := 0) (x := (.str (mtext (K)))) (o := j) (tot := xs.length) hb0 fe hcn hj hcl (by omega) rfl rfl (by omega) (by omega)
    have g1 : Fr R h H1 := f1.sub (fun i hi => by rw [List.mem_singleton] at hi; rw [hi]; exact hbR)
    have ka0 := kadd1 (n := K) (by omega)
    have hcl1 : ((cs xs[j]).set 0 (.str (mtext (K)))).length = 1 := by rw [List.length_set]; exact hcl
    refine ⟨H1, ?_, hup H1 ((cs xs[j]).set 0 (.str (mtext (K)))) _ hb1 ⟨rfl, rfl⟩ (fun i hi hib hir => ?_), g1⟩
    · funext G
      simp only [S.laws_markStringS.l5, S.laws_markStringS.n0, S.laws_markStringS.n1, S.laws_markStringS.n10, S.laws_markStringS.n2, S.laws_markStringS.n3, S.laws_markStringS.n4, S.laws_markStringS.n5, S.laws_markStringS.n6, S.laws_markStringS.n7, S.laws_markStringS.n8, S.laws_markStringS.n9, hv, klen_sl, klt, decide_eq_true hj, kcond_bool, cond_true, kx_nrm, kb_nrm, Option.bind_some, kr_mk, kfa_ptr, kj, Nat.add_zero, kN_eq, bors_cons, bors_nil, bor_int, k0, t0, m1, ka0]
      try rfl
    · exact (f1.2 i (hm i hi) (by simpa using hib))
  · intro r h ys he hl
    have e1 := he.len
    rw [hl] at e1
    funext G
    simp only [S.laws_markStringS.l5, S.laws_markStringS.n6, S.laws_markStringS.n7, S.laws_markStringS.n8, S.laws_markStringS.n9, S.laws_markStringS.n10, e1, klt, Nat.lt_irrefl, decide_false, kcond_bool, cond_false, Option.bind_some, kx_ext, kb_ext]
    try rfl
end Go.Proofs.YtklhdbkaejbajaaDoor.G
