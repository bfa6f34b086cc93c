/- A chain with room: servers looked at, sureness set, lists set. A server falls: the program, in memory. A server falls: the program's cases. The end of -/
import Derived.Test.YtlbnioapepelnaaZ7bd71aac
import Derived.Test.YtlbnioapepelnaaZa600df3a
set_option linter.unusedSimpArgs false
set_option linter.unusedVariables false
namespace Go.Proofs.Ytlbnioapepelnaa.G
open Go.RowKit
theorem kia_room {es b n m i : Nat} (hi : i < n) : kia es (.sl b 0 n m es) (.int .i64 (i : Int)) = some (.ptr b (i * es) (m * es)) := by
  rw [kia_sl, if_pos ⟨rfl, by omega, by omega⟩]
  simp
theorem splice_at {C c : List GV} {A es off : Nat} {x : GV} (hA : A + es ≤ C.length) (hc : c.length = es) (ho : off < es) (hg : ∀ o, o < es → C[A + o]? = c[o]?) : splice C A (c.set off x) = C.set (A + off) x := by
  unfold splice
  rw [List.length_set, hc]
  refine List.ext_getElem? fun i => ?_
  rw [List.getElem?_set]
  by_cases h1 : i < A
  · rw [List.getElem?_append_left (by rw [List.length_append, List.length_take, List.length_set]; omega), List.getElem?_append_left (by rw [List.length_take]; omega), List.getElem?_take_of_lt h1, if_neg (by omega)]
  by_cases h2 : i < A + es
  · rw [List.getElem?_append_left (by rw [List.length_append, List.length_take, List.length_set]; omega), List.getElem?_append_right (by rw [List.length_take]; omega), List.length_take, List.getElem?_set]
    rw [show i - min A C.length = i - A by omega]
    by_cases h3 : off = i - A
    · rw [if_pos h3, if_pos (by omega), if_pos (by omega), if_pos (by omega)]
    · rw [if_neg h3, if_neg (by omega)]
      have := hg (i - A) (by omega)
      rw [show A + (i - A) = i by omega] at this
      exact this.symm
  · rw [List.getElem?_append_right (by rw [List.length_append, List.length_take, List.length_set]; omega), List.length_append, List.length_take, List.length_set, List.getElem?_drop, if_neg (by omega)]
    congr 1
    omega
theorem FI.server {p lo : Nat} {a : ChainT} {H : Heap} {vS vD vU : GV} {RS RD RU : List Nat} (h : FI p lo a H vS vD vU RS RD RU) {i : Nat} (hi : i < a.1.length) : ∃ b vL r, vS = .sl b 0 a.1.length (a.1.length + 1) 2 ∧ b ∈ RS ∧ kload1 H (.ptr b (i * 2) ((a.1.length + 1) * 2)) = some vL ∧ kload1 H (.ptr b (i * 2 + 1) ((a.1.length + 1) * 2)) = some (.int .i64 a.1[i].2) ∧ rStringS H [vL] a.1[i].1 r ∧ kloadA 2 H (.ptr b (i * 2) ((a.1.length + 1) * 2)) = some (.agg [vL, .int .i64 a.1[i].2]) := by
  obtain ⟨b, C, c, r, hv, hb, hC, hc, hg, hE, hbr, hbR, hrR, nd0, hup⟩ := RM.focus goodServer h.s h.ns hi
  obtain ⟨c1, c2, R1, R2, rfl, rfl, E1, ⟨rfl, rfl⟩⟩ := hE
  obtain ⟨vL, rfl⟩ := List.length_eq_one_iff.1 (goodStringS.len E1)
  have g0 := hg 0 (by omega)
  have g1 := hg 1 (by omega)
  simp only [Nat.add_zero, List.cons_append, List.nil_append, List.getElem?_cons_zero, List.getElem?_cons_succ] at g0 g1
  refine ⟨b, vL, _, hv, hbR, ?_, ?_, E1, ?_⟩
  · rw [kload1_at hb hC, g0]
  · rw [kload1_at hb hC, g1]
  · rw [kloadA_ptr, cellsAt_if, hb]
    have : (i + 1) * 2 ≤ (a.1.length + 1) * 2 := Nat.mul_le_mul_right 2 (by omega)
    simp only [Option.bind_some, hC, if_true]
    rw [if_pos (by omega)]
    congr 2
    apply List.ext_getElem?
    intro k
    rw [List.getElem?_take, List.getElem?_drop]
    match k with
    | 0 => rw [if_pos (by omega)]; exact g0
    | 1 => rw [if_pos (by omega)]; exact g1
    | k + 2 => rw [if_neg (by omega)]; rfl
theorem FI.sureSet {p lo : Nat} {a : ChainT} {H : Heap} {vS vD vU : GV} {RS RD RU : List Nat} (h : FI p lo a H vS vD vU RS RD RU) {i : Nat} (hi : i < a.1.length) (z : Int) :
    ∃ b H5 RS', vS = .sl b 0 a.1.length (a.1.length + 1) 2 ∧ b ∈ RS ∧ kstore 1 H (.ptr b (i * 2 + 1) ((a.1.length + 1) * 2)) (.int .i64 z) = some H5 ∧ FI p lo (a.1.set i (a.1[i].1, z), a.2) H5 vS vD vU RS' RD RU ∧ Fr RS H H5 ∧ (∀ i ∈ RS', i ∈ RS) ∧ H5.length = H.length := by
  obtain ⟨b, C, c, r, hv, hb, hC, hc, hg, hE, hbr, hbR, hrR, nd0, hup⟩ := RM.focus goodServer h.s h.ns hi
  obtain ⟨c1, c2, R1, R2, rfl, rfl, E1, ⟨rfl, rfl⟩⟩ := hE
  obtain ⟨vL, rfl⟩ := List.length_eq_one_iff.1 (goodStringS.len E1)
  rw [List.append_nil] at hbr hrR nd0 hup
  have hle : (i + 1) * 2 ≤ (a.1.length + 1) * 2 := Nat.mul_le_mul_right 2 (by omega)
  have s5 := kstore_at (o := i * 2 + 1) (tot := (a.1.length + 1) * 2) (x := .int .i64 z) hb hC (by omega) rfl rfl
  have hbl := (List.getElem?_eq_some_iff.1 hb).1
  obtain ⟨H5, hH5⟩ : ∃ H5, H.set b (C.set (i * 2 + 1) (.int .i64 z)) = H5 := ⟨_, rfl⟩
  rw [hH5] at s5
  have f5 : Fr [b] H H5 := by rw [← hH5]; exact .set (by simp)
  have hb5 : H5[b]? = some (splice C (i * 2) ([vL, .int .i64 z])) := by
    rw [← hH5, List.getElem?_set_self hbl]
    have := splice_at (C := C) (c := [vL] ++ ci a.1[i].2) (A := i * 2) (es := 2) (off := 1) (x := .int .i64 z) (by omega) hc (by omega) hg
    rw [← this]; rfl
  have hE' : rServer H5 [vL, .int .i64 z] (a.1[i].1, z) R1 := ⟨[vL], ci z, R1, [], rfl, by simp, goodStringS.keep E1 f5 (fun j hj h' => hbr (by rw [List.mem_singleton] at h'; rw [← h']; exact hj)), ⟨rfl, rfl⟩⟩
  obtain ⟨RS', q1, q2, q3⟩ := hup H5 _ _ R1 rfl hb5 hE' nd0 (fun j hj => Or.inl hj) (fun j hj hjb hjr => f5.2 j (h.s.mem goodServer j hj) (by simpa using hjb))
  have hk : ∀ j ∈ RS', j ∈ RS := fun j hj => (q3 j hj).elim id (hrR j)
  have nb : ∀ {X : List Nat}, (∀ i ∈ RS, i ∉ X) → ∀ i ∈ X, i ∉ [b] := fun hx i hi h => by rw [List.mem_singleton] at h; exact hx b hbR (h ▸ hi)
  refine ⟨b, H5, RS', hv, hbR, s5, ⟨f5.blk h.cell (by rw [List.mem_singleton]; exact fun e => h.ps (e ▸ hbR)), q1, h.d.keep goodStringS f5 (nb h.sd), h.u.keep goodInt64S f5 (nb h.su), q2, h.nd, h.nu, fun i hi => h.sd i (hk i hi), fun i hi => h.su i (hk i hi), h.du, fun i hi => h.ls i (hk i hi), h.ld, h.lu, fun hp => h.ps (hk p hp), h.pd, h.pu⟩, f5.sub (fun j hj => by rw [List.mem_singleton] at hj; rw [hj]; exact hbR), hk, by rw [← hH5, List.length_set]⟩
theorem FI.upSet {p lo : Nat} {a : ChainT} {H : Heap} {vS vD vU : GV} {RS RD RU : List Nat} (h : FI p lo a H vS vD vU RS RD RU) {i : Nat} (hi : i < a.2.2.length) :
    ∃ b vL r, vU = .sl b 0 a.2.2.length (a.2.2.length + 1) 1 ∧ b ∈ RU ∧ b ∉ r ∧ (∀ k ∈ r, k ∈ RU) ∧ r.Nodup ∧ kload1 H (.ptr b i (a.2.2.length + 1)) = some vL ∧ rInt64S H [vL] a.2.2[i] r ∧
      ∀ (H4 : Heap) (v' : GV) (x' : List Int) (R' : List Nat), Fr r H H4 → rInt64S H4 [v'] x' R' → R'.Nodup → (∀ k ∈ R', k ∈ r ∨ (lo ≤ k ∧ H.length ≤ k)) → p < H.length → ∃ H5 RU', kstore 1 H4 (.ptr b i (a.2.2.length + 1)) v' = some H5 ∧ FI p lo (a.1, a.2.1, a.2.2.set i x') H5 vS vD vU RS RD RU' ∧ Fr RU H H5 ∧ (∀ k ∈ RU', k ∈ RU ∨ H.length ≤ k) := by
  obtain ⟨b, C, c, r, hv, hb, hC, hc, hg, hE, hbr, hbR, hrR, nd0, hup⟩ := RM.focus goodInt64S h.u h.nu hi
  obtain ⟨vL, rfl⟩ := List.length_eq_one_iff.1 hc
  have g0 := hg 0 (by omega)
  simp only [Nat.mul_one, Nat.add_zero, List.getElem?_cons_zero] at g0 hC
  refine ⟨b, vL, r, hv, hbR, hbr, hrR, nd0, by rw [kload1_at hb hC, g0], hE, fun H4 v' x' R' f4 hr n' hR hp => ?_⟩
  have hb4 := f4.blk hb hbr
  have vc := cell_of hr
  have s5 := kstore_at (o := i) (tot := a.2.2.length + 1) (x := v') hb4 hC (by omega) vc.1 vc.2
  have hbl := (List.getElem?_eq_some_iff.1 hb4).1
  have hbl0 := (List.getElem?_eq_some_iff.1 hb).1
  obtain ⟨H5, hH5⟩ : ∃ H5, H4.set b (C.set i v') = H5 := ⟨_, rfl⟩
  rw [hH5] at s5
  have f5 : Fr [b] H4 H5 := by rw [← hH5]; exact .set (by simp)
  have hb5 : H5[b]? = some (splice C (i * 1) [v']) := by
    rw [← hH5, List.getElem?_set_self hbl]
    have := splice_at (C := C) (c := [vL]) (A := i * 1) (es := 1) (off := 0) (x := v') (by omega) rfl (by omega) hg
    rw [Nat.mul_one, Nat.add_zero] at this
    rw [← this, Nat.mul_one]; rfl
  have bR' : b ∉ R' := fun hh => by rcases hR b hh with h1 | h1; exact hbr h1; omega
  have hr5 := goodInt64S.keep hr f5 (fun k hk hh => bR' (by rw [List.mem_singleton] at hh; exact hh ▸ hk))
  have hm := h.u.mem goodInt64S
  have fr : Fr RU H H5 := (f4.sub hrR).trans (f5.sub (fun k hk => by rw [List.mem_singleton] at hk; rw [hk]; exact hbR))
  obtain ⟨RU', q1, q2, q3⟩ := hup H5 _ _ R' rfl hb5 hr5 n' (fun k hk => (hR k hk).imp id fun h2 h3 => by have := hm k h3; omega) (fun k hk hkb hkr => by
    rw [f5.2 k (by have := hm k hk; have := f4.1; omega) (by simpa using hkb), f4.2 k (hm k hk) hkr])
  have hk : ∀ k ∈ RU', k ∈ RU ∨ (lo ≤ k ∧ H.length ≤ k) := fun k hk => (q3 k hk).elim Or.inl fun h2 => (hR k h2).imp (hrR k) id
  have hmS := h.s.mem goodServer
  have hmD := h.d.mem goodStringS
  refine ⟨H5, RU', s5, ⟨fr.blk h.cell h.pu, h.s.keep goodServer fr h.su, h.d.keep goodStringS fr h.du, q1, h.ns, h.nd, q2, h.sd, fun i hi hh => ?_, fun i hi hh => ?_, h.ls, h.ld, fun i hi => (hk i hi).elim (h.lu i) (·.1), h.ps, h.pd, fun hh => ?_⟩, fr, fun k hk' => (hk k hk').imp id (·.2)⟩
  · rcases hk i hh with h1 | h1
    · exact h.su i hi h1
    · have := hmS i hi; omega
  · rcases hk i hh with h1 | h1
    · exact h.du i hi h1
    · have := hmD i hi; omega
  · rcases hk p hh with h1 | h1
    · exact h.pu h1
    · omega
theorem FI.downSet {p lo : Nat} {a : ChainT} {H : Heap} {vS vD vU : GV} {RS RD RU : List Nat} (h : FI p lo a H vS vD vU RS RD RU) {i : Nat} (hi : i < a.2.1.length) :
    ∃ b, vD = .sl b 0 a.2.1.length (a.2.1.length + 1) 1 ∧ b ∈ RD ∧
      ∀ (H4 : Heap) (v' : GV) (x' : List ByteArray) (R' : List Nat), Fr [] H H4 → rStringS H4 [v'] x' R' → R'.Nodup → (∀ k ∈ R', lo ≤ k ∧ H.length ≤ k) → p < H.length → ∃ H5 RD', kstore 1 H4 (.ptr b i (a.2.1.length + 1)) v' = some H5 ∧ FI p lo (a.1, a.2.1.set i x', a.2.2) H5 vS vD vU RS RD' RU ∧ Fr RD H H5 ∧ H5.length = H4.length := by
  obtain ⟨b, C, c, r, hv, hb, hC, hc, hg, hE, hbr, hbR, hrR, nd0, hup⟩ := RM.focus goodStringS h.d h.nd hi
  obtain ⟨vL, rfl⟩ := List.length_eq_one_iff.1 hc
  simp only [Nat.mul_one] at hC
  refine ⟨b, hv, hbR, fun H4 v' x' R' f4 hr n' hR hp => ?_⟩
  have hb4 := f4.blk hb no_nil
  have vc := cell_of hr
  have s5 := kstore_at (o := i) (tot := a.2.1.length + 1) (x := v') hb4 hC (by omega) vc.1 vc.2
  have hbl := (List.getElem?_eq_some_iff.1 hb4).1
  have hbl0 := (List.getElem?_eq_some_iff.1 hb).1
  obtain ⟨H5, hH5⟩ : ∃ H5, H4.set b (C.set i v') = H5 := ⟨_, rfl⟩
  rw [hH5] at s5
  have f5 : Fr [b] H4 H5 := by rw [← hH5]; exact .set (by simp)
  have hb5 : H5[b]? = some (splice C (i * 1) [v']) := by
    rw [← hH5, List.getElem?_set_self hbl]
    have := splice_at (C := C) (c := [vL]) (A := i * 1) (es := 1) (off := 0) (x := v') (by omega) rfl (by omega) hg
    rw [Nat.mul_one, Nat.add_zero] at this
    rw [← this, Nat.mul_one]; rfl
  have bR' : b ∉ R' := fun hh => by have := hR b hh; omega
  have hr5 := goodStringS.keep hr f5 (fun k hk hh => bR' (by rw [List.mem_singleton] at hh; exact hh ▸ hk))
  have hm := h.d.mem goodStringS
  have fr : Fr RD H H5 := (f4.sub (fun _ h => by cases h)).trans (f5.sub (fun k hk => by rw [List.mem_singleton] at hk; rw [hk]; exact hbR))
  obtain ⟨RD', q1, q2, q3⟩ := hup H5 _ _ R' rfl hb5 hr5 n' (fun k hk => Or.inr fun h3 => by have := hm k h3; have := hR k hk; omega) (fun k hk hkb hkr => by
    rw [f5.2 k (by have := hm k hk; have := f4.1; omega) (by simpa using hkb), f4.2 k (hm k hk) no_nil])
  have hk : ∀ k ∈ RD', k ∈ RD ∨ (lo ≤ k ∧ H.length ≤ k) := fun k hk => (q3 k hk).imp id (hR k)
  have hmS := h.s.mem goodServer
  have hmU := h.u.mem goodInt64S
  refine ⟨H5, RD', s5, ⟨fr.blk h.cell h.pd, h.s.keep goodServer fr h.sd, q1, h.u.keep goodInt64S fr (fun i hi hh => h.du i hh hi), h.ns, q2, h.nu, fun i hi hh => ?_, h.su, fun i hi hh => ?_, h.ls, fun i hi => (hk i hi).elim (h.ld i) (·.1), h.lu, h.ps, fun hh => ?_, h.pu⟩, fr, by rw [← hH5, List.length_set]⟩
  · rcases hk i hh with h1 | h1
    · exact h.sd i hi h1
    · have := hmS i hi; omega
  · rcases hk i hi with h1 | h1
    · exact h.du i h1 hh
    · have := hmU i hh; omega
  · rcases hk p hh with h1 | h1
    · exact h.pd h1
    · omega
end Go.Proofs.Ytlbnioapepelnaa.G

namespace Go.Proofs.Ytlbnioapepelnaa.G
open Go.RowKit
theorem tellF_0 {p : Nat} {H : Heap} : HH fn.impl_Chain_tell [.ptr p 0 3, .int .i64 ((0 : Nat) : Int)] H = some (.tup [], H) := by
  apply S.impl_Chain_tell.gives (k := 0)
  simp [S.impl_Chain_tell.run]
theorem tellF_raw {p n N m M bS bU j : Nat} {H H4 H5 : Heap} {vD vL v' : GV} {z : Int} (hp : H[p]? = some [.sl bS 0 n N 2, vD, .sl bU 0 m M 1]) (hj : j + 1 < n) (hjm : j < m) (hn : n ≤ 1048576) (lL : kload1 H (.ptr bU j M) = some vL) (lz : kload1 H (.ptr bS ((j + 1) * 2 + 1) (N * 2)) = some (.int .i64 z))
    (ka : kapp [.int .i64 0] 1 8 vL (.sl H.length 0 1 1 1) (H ++ [[.int .i64 z]]) = some (v', H4)) (ks : kstore 1 H4 (.ptr bU j M) v' = some H5) (pk : p ∉ kblk vL) : HH fn.impl_Chain_tell [.ptr p 0 3, .int .i64 ((j + 1 : Nat) : Int)] H = some (.tup [], H5) := by
  apply S.impl_Chain_tell.gives (k := 0)
  have hpl := (List.getElem?_eq_some_iff.1 hp).1
  have q0 := kload1_at (o := 0) (tot := 3) hp rfl
  have q2 := kload1_at (o := 2) (tot := 3) hp rfl
  have w : kbin .sub (.int .i64 ((j + 1 : Nat) : Int)) (.int .i64 1) = some (.int .i64 (j : Int)) := by
    rw [kbin_sub, show ((j + 1 : Nat) : Int) - 1 = (j : Int) by omega, wrap_id (by omega) (by omega)]
  have g : kbin .gtr (.int .i64 ((j + 1 : Nat) : Int)) (.int .i64 0) = some (.bool true) := by rw [kbin_gtr, decide_eq_true (by omega)]
  have k1 := kia_room (es := 1) (b := bU) (n := m) (m := M) (i := j) hjm
  rw [Nat.mul_one, Nat.mul_one] at k1
  have k2 := kia_room (es := 2) (b := bS) (n := n) (m := N) (i := j + 1) hj
  have z1 : ¬ (H.length = p) := by omega
  have z2 : ¬ (H.length ≤ p) := by omega
  have z3 : ¬ (H.length + 1 ≤ p) := by omega
  simp [S.impl_Chain_tell.run, g, q0, q2, w, k1, k2, lL, lz, gfill, zeros, kbs_at, ka, ks, -kload1_ptr, -kstore_ptr, -kbin_sub, -kbin_gtr, -kia_sl, -Int.natCast_add]
  simp [chk, meets, touches, z1, z2, z3, any_no (n := H.length) pk, any_no2, pk, -List.any_eq_true, -List.any_eq_false]
theorem FI.tell {p lo : Nat} {a : ChainT} {H : Heap} {vS vD vU : GV} {RS RD RU : List Nat} (h : FI p lo a H vS vD vU RS RD RU) (hlo : lo ≤ H.length) {j : Nat} (hj : j + 1 < a.1.length) (hjm : j < a.2.2.length) (h5 : a.1.length ≤ 1000) (hl : a.2.2[j].length ≤ 4194304) :
    ∃ H5 RU', HH fn.impl_Chain_tell [.ptr p 0 3, .int .i64 ((j + 1 : Nat) : Int)] H = some (.tup [], H5) ∧ FI p lo (a.1, a.2.1, a.2.2.set j (a.2.2[j] ++ [a.1[j + 1].2])) H5 vS vD vU RS RD RU' ∧ Fr RU H H5 ∧ (∀ k ∈ RU', k ∈ RU ∨ H.length ≤ k) := by
  have hpl := (List.getElem?_eq_some_iff.1 h.cell).1
  obtain ⟨bS, vS', r', hvS, bSin, s0, s1, s2, s3⟩ := h.server hj
  obtain ⟨bU, vL, r, hvU, bUin, bUr, hr, nr, lL, rL, up⟩ := h.upSet hjm
  have gE : Good 1 1 ci (RFl ci) := RFl.good (es := 1) (mk := ci) (fun _ => rfl) (fun _ => rfl)
  have hxx : RFl ci (H ++ [[.int .i64 a.1[j + 1].2]]) [.int .i64 a.1[j + 1].2] a.1[j + 1].2 [] := ⟨rfl, rfl⟩
  obtain ⟨v', H4, R', a1, a2, a3, a4, a5, a6, a7⟩ := app_sl gE (by omega) (z := [.int .i64 0]) (b := 8) rfl (by omega) (H := H ++ [[.int .i64 a.1[j + 1].2]]) (goodInt64S.grow rL) nr hl hxx List.nodup_nil (fun i hi => (by cases hi)) (q := H.length) (by simp)
  have f4 : Fr r H H4 := (Fr.app (t := [[.int .i64 a.1[j + 1].2]])).trans a5
  obtain ⟨H5, RU', s5, hF, fr, hk⟩ := up H4 v' _ R' f4 a2 a3 (fun k hk => by
    rcases a4 k hk with h1 | h1 | h1
    · exact Or.inl h1
    · cases h1
    · rw [List.length_append] at h1; exact Or.inr (by simp at h1; omega)) hpl
  have pk : p ∉ kblk vL := by
    have := goodInt64S.mem rL
    rcases a7 with ⟨i, e, hi, _, hb⟩ | ⟨hb, _⟩
    · rw [hb]; simp; exact fun e => h.pu (hr p (by rw [e]; exact hi))
    · rw [hb]; exact no_nil
  have hc := h.cell
  rw [hvS, hvU] at hc
  exact ⟨H5, RU', tellF_raw hc hj hjm (by omega) lL s1 a1 s5 pk, hF, fr, hk⟩
theorem ss_flat {H : Heap} {vD : GV} {ds : List (List ByteArray)} {RD : List Nat} (h : rStringSS H [vD] ds RD) (x y : Int) : kflat H [vD, .int .i64 x, .int .i64 y] = true ∧ kreach H [vD, .int .i64 x, .int .i64 y] = RD := by
  have c := RSl.cl (es := 1) (RSl.cl (es := 1) (RFl.cl (mk := cs) (d := 0) (fun _ => rfl))) h 7
  have e : kcll (kcl 9 H) ([vD] ++ [.int .i64 x, .int .i64 y]) = some (RD ++ []) := kcll_app c (kcll_pl rfl)
  rw [List.append_nil] at e
  simp only [List.cons_append, List.nil_append] at e
  exact ⟨by unfold kflat; rw [e]; rfl, by unfold kreach; rw [e]; rfl⟩
theorem impl_Chain_fall_0 {p lo : Nat} {a : ChainT} {H : Heap} {vS vD vU : GV} {RS RD RU : List Nat} (C : ChainIn p lo a H vS vD vU RS RD RU) (hm : okChain a) (hP : ChainP a.1 a.2.1 a.2.2) (h2 : 2 ≤ a.1.length) {j : Nat} (hj : j < a.1.length) :
    ∃ H6 vS' vD' vU' RS' RD' RU', FI p lo (a.1.eraseIdx j, a.2.1.eraseIdx (j - 1), a.2.2.eraseIdx (j - 1)) H6 vS' vD' vU' RS' RD' RU' ∧ (∀ i ∈ RS', i ∈ RS) ∧ (∀ i ∈ RD', i ∈ RD) ∧ (∀ i ∈ RU', i ∈ RU) ∧ Fr (p :: (RS ++ (RD ++ RU))) H H6 ∧ H6.length = H.length ∧
      ∀ {Q : Type} (K : GV → Heap → Option Q), S.impl_Chain_fall.run 0 (.ptr p 0 3) (.int .i64 (j : Int)) H K = S.impl_Chain_fall.n4 0 (fun x h => kend x (K (.tup []) h)) (.ptr p 0 3) (.int .i64 (j : Int)) (.int .i64 ((a.1.length : Int) - 1)) (.int .i64 ((j - 1 : Nat) : Int)) H6 := by
  have h5 := hP.1.2
  have hd := hP.2.1
  have hn := hP.2.2.1
  obtain ⟨hr, _⟩ := C.fin
  have l3 := kloadA_at (n := 3) C.cell rfl
  have lst : kN NN fn.impl_Chain_last [.agg [vS, vD, vU]] H = some (.int .i64 ((a.1.length : Int) - 1)) := kN_at (bors_agg goodChain (gs := []) (xs := []) (by omega) hr rfl) (impl_Chain_last_spec a hm.1.1)
  obtain ⟨vS', H1, H2, vD', H3, vU', H4, H5, H6, RS', RD', RU', d1, d2, d3, d4, d5, d6, d7, d8, d9, hF, e1, e2, e3, e4, e5⟩ := dels C (j := j) (k := j - 1) hj (by omega) (by omega) (by omega) (by omega) (by omega)
  refine ⟨H6, vS', vD', vU', RS', RD', RU', hF, e1, e2, e3, e4, e5, fun K => ?_⟩
  have q0 := kload1_at (o := 0) (tot := 3) C.cell rfl
  simp only [List.getElem?_cons_zero] at q0
  obtain ⟨k1, k2⟩ := ss_flat d4 ((j - 1 : Nat) : Int) ((j - 1 + 1 : Nat) : Int)
  have aj := kadd1 (n := j) (by omega)
  have ak := kadd1 (n := j - 1) (by omega)
  have w1 : kbin .sub (.int .i64 (j : Int)) (.int .i64 1) = some (.int .i64 ((j : Int) - 1)) := by rw [kbin_sub, wrap_id (by omega) (by omega)]
  have w2 : gmax (.int .i64 0) (.int .i64 ((j : Int) - 1)) = some (.int .i64 ((j - 1 : Nat) : Int)) := by rw [gmax_int]; congr 2; split <;> omega
  have hck : chk [(9, 13)] [⟨9, H2.length, H3.length, ⟨RD, RD⟩⟩, ⟨13, H3.length, H3.length, ⟨[p], []⟩⟩] = true := by
    have hp2 : p < H2.length := by
      rw [kload1_ptr, cellsAt_if] at d3
      cases hb : H2[p]? with
      | none => rw [hb] at d3; cases d3
      | some c => exact (List.getElem?_eq_some_iff.1 hb).1
    have y0 : ¬ (H2.length ≤ p) := by omega
    simp [chk, meets, touches, y0, C.pd]
    try exact fun i hi e => C.pd (e ▸ hi)
  unfold S.impl_Chain_fall.run
  simp [l3, lst, q0, aj, d1, d2, w1, w2, d3, ak, k1, k2, d5, d6, d7, d8, d9, hck, kchk, -kload1_ptr, -kloadA_ptr, -kstore_ptr, -kN_eq, -kbin_sub, -kbin_add, -Int.natCast_add, -S.impl_Chain_fall.n4]
end Go.Proofs.Ytlbnioapepelnaa.G

namespace Go.Proofs.Ytlbnioapepelnaa.G
open Go.RowKit
theorem fall_first {p lo : Nat} {a : ChainT} {H : Heap} {vS vD vU : GV} {RS RD RU : List Nat} (C : ChainIn p lo a H vS vD vU RS RD RU) (hm : okChain a) (hP : ChainP a.1 a.2.1 a.2.2) (h2 : 2 ≤ a.1.length) :
    ∃ H' vS' vD' vU' RS' RD' RU', HH fn.impl_Chain_fall [.ptr p 0 3, .int .i64 ((0 : Nat) : Int)] H = some (.tup [], H') ∧ FI p lo (fallC a.1 a.2.1 a.2.2 0) H' vS' vD' vU' RS' RD' RU' ∧ Fr (p :: (RS ++ (RD ++ RU))) H H' := by
  obtain ⟨H6, vS', vD', vU', RS', RD', RU', hF, e1, e2, e3, e4, e5, K⟩ := impl_Chain_fall_0 C hm hP h2 (j := 0) (by omega)
  refine ⟨H6, vS', vD', vU', RS', RD', RU', S.impl_Chain_fall.gives (k := 0) ((K finH).trans ?_), hF, e4⟩
  simp
theorem fall_last {p lo : Nat} {a : ChainT} {H : Heap} {vS vD vU : GV} {RS RD RU : List Nat} (C : ChainIn p lo a H vS vD vU RS RD RU) (hlo : lo ≤ H.length) (hm : okChain a) (hP : ChainP a.1 a.2.1 a.2.2) (h2 : 2 ≤ a.1.length) {j : Nat} (hj : j + 1 = a.1.length) (hu : ∀ u ∈ a.2.2, u.length ≤ 4194304) :
    ∃ H' vS' vD' vU' RS' RD' RU', HH fn.impl_Chain_fall [.ptr p 0 3, .int .i64 (j : Int)] H = some (.tup [], H') ∧ FI p lo (fallC a.1 a.2.1 a.2.2 j) H' vS' vD' vU' RS' RD' RU' ∧ (∀ i, i < H.length → i ≠ p → i ∉ RS → i ∉ RD → i ∉ RU → H'[i]? = H[i]?) := by
  have h5 := hP.1.2
  have hd := hP.2.1
  have hn := hP.2.2.1
  obtain ⟨H6, vS', vD', vU', RS', RD', RU', hF, e1, e2, e3, e4, e5, K⟩ := impl_Chain_fall_0 C hm hP h2 (j := j) (by omega)
  obtain ⟨ys, hys⟩ : ∃ ys, a.1.eraseIdx j = ys := ⟨_, rfl⟩
  obtain ⟨ds, hds⟩ : ∃ ds, a.2.1.eraseIdx (j - 1) = ds := ⟨_, rfl⟩
  obtain ⟨us, hus⟩ : ∃ us, a.2.2.eraseIdx (j - 1) = us := ⟨_, rfl⟩
  have ly : ys.length = j := by rw [← hys, List.length_eraseIdx, if_pos (by omega)]; omega
  have lu : us.length = j - 1 := by rw [← hus, List.length_eraseIdx, if_pos (by omega)]; omega
  have hu' : ∀ u ∈ us, u.length ≤ 4194304 := fun u h => hu u ((List.eraseIdx_sublist (l := a.2.2) (k := j - 1)).subset (hus ▸ h))
  have hfc : fallC a.1 a.2.1 a.2.2 j = fallLast ys ds us j := by unfold fallC; rw [if_neg (by omega), if_pos hj, hys, hds, hus]
  rw [hys, hds, hus] at hF
  rw [hfc]
  obtain ⟨b, vL, r, hvS, bin, s0, s1, sL, s2⟩ := hF.server (i := j - 1) (by simp only; omega)
  obtain ⟨b', H7, RS7, hvS7, bin7, st, hF7, f7, k7, l7⟩ := hF.sureSet (i := j - 1) (by simp only; omega) ((ys[j - 1].1.length : Nat) : Int)
  have hbb : b' = b := by rw [hvS7] at hvS; injection hvS
  subst hbb
  have hpl := (List.getElem?_eq_some_iff.1 C.cell).1
  have kL := sL.len
  have q0 := kload1_at (o := 0) (tot := 3) hF.cell rfl
  simp only [List.getElem?_cons_zero] at q0
  have ki := kia_room (es := 2) (b := b') (n := ys.length) (m := ys.length + 1) (i := j - 1) (by omega)
  rw [← hvS7] at ki
  have w1 : kbin .sub (.int .i64 (j : Int)) (.int .i64 1) = some (.int .i64 ((j - 1 : Nat) : Int)) := by rw [kbin_sub, wrap_id (by omega) (by omega)]; congr 2; omega
  have g0 : kbin .eql (.int .i64 (j : Int)) (.int .i64 0) = some (.bool false) := by rw [kbin_eql, decide_eq_false (by omega)]
  have g1 : kbin .eql (.int .i64 (j : Int)) (.int .i64 ((a.1.length : Int) - 1)) = some (.bool true) := by rw [kbin_eql, decide_eq_true (by omega)]
  have esv : sv ys (j - 1) = ys[j - 1] := by unfold sv; rw [List.getElem?_eq_getElem (by omega)]; rfl
  have fr7 : Fr (p :: (RS ++ (RD ++ RU))) H H7 := e4.trans (f7.sub fun i hi => by simp [e1 i hi])
  by_cases h1 : 1 < j
  · obtain ⟨m, rfl⟩ : ∃ m, j = m + 2 := ⟨j - 2, by omega⟩
    obtain ⟨H8, RU8, t8, hF8, f8, k8⟩ := hF7.tell (by have := fr7.1; omega) (j := m) (by simp only [List.length_set]; omega) (by simp only; omega) (by simp only [List.length_set]; omega) (hu' _ (List.getElem_mem _))
    refine ⟨H8, vS', vD', vU', RS7, RD', RU8, S.impl_Chain_fall.gives (k := 0) ((K finH).trans ?_), ?_, fun i hi hp hS hD hU => ?_⟩
    · simp only [show m + 2 - 1 = m + 1 by omega] at *
      simp [g0, g1, q0, w1, ki, s0, kL, st, t8, -kload1_ptr, -kstore_ptr, -kbin_sub, -kbin_eql, -kia_sl, -Int.natCast_add]
    · have e : fallLast ys ds us (m + 2) = (ys.set (m + 2 - 1) (ys[m + 2 - 1].1, ((ys[m + 2 - 1].1.length : Nat) : Int)), ds, us.set m (us[m] ++ [((ys.set (m + 2 - 1) (ys[m + 2 - 1].1, ((ys[m + 2 - 1].1.length : Nat) : Int)))[m + 1]'(by rw [List.length_set]; omega)).2])) := by
        have eu : us[m]?.getD [] = us[m] := by rw [List.getElem?_eq_getElem (by omega)]; rfl
        have ez : ((ys.set (m + 2 - 1) (ys[m + 2 - 1].1, ((ys[m + 2 - 1].1.length : Nat) : Int)))[m + 1]'(by rw [List.length_set]; omega)) = (ys[m + 2 - 1].1, ((ys[m + 2 - 1].1.length : Nat) : Int)) := List.getElem_set_self _
        unfold fallLast
        rw [if_pos h1, esv, show m + 2 - 2 = m by omega, eu, ez]
      rw [e]; exact hF8
    · rw [f8.2 i (by have := fr7.1; omega) (fun h => hU (e3 i h)), fr7.2 i hi (by simp [hp, hS, hD, hU])]
  · obtain rfl : j = 1 := by omega
    have t8 := tellF_0 (p := p) (H := H7)
    refine ⟨H7, vS', vD', vU', RS7, RD', RU', S.impl_Chain_fall.gives (k := 0) ((K finH).trans ?_), ?_, fun i hi hp hS hD hU => ?_⟩
    · simp only [Nat.sub_self, Nat.zero_mul, Nat.zero_add, show ((1 : Nat) : Int) = 1 from rfl, show ((0 : Nat) : Int) = 0 from rfl] at g0 g1 w1 ki s0 kL st t8 ⊢
      simp [g0, g1, q0, w1, ki, s0, kL, st, t8, -kload1_ptr, -kstore_ptr, -kbin_sub, -kbin_eql, -kia_sl]
    · have e : fallLast ys ds us 1 = (ys.set (1 - 1) (ys[1 - 1].1, ((ys[1 - 1].1.length : Nat) : Int)), ds, us) := by
        unfold fallLast
        rw [if_neg (by omega), esv]
      rw [e]; exact hF7
    · rw [fr7.2 i hi (by simp [hp, hS, hD, hU])]
end Go.Proofs.Ytlbnioapepelnaa.G

namespace Go.Proofs.Ytlbnioapepelnaa.G
open Go.RowKit
theorem clone_of {v : GV} {xs : List ByteArray} (hm : xs.length ≤ 4194304) {H : Heap} (hv : ∃ R, bor 9 H v = some (fzl true 1 cs xs, R)) : ∃ v' H' R, kF true HH fn.slices_Clone_string [v] H = some (v', H') ∧ rStringS H' [v'] xs R ∧ R.Nodup ∧ (∀ i ∈ R, H.length ≤ i) ∧ Fr [] H H' := by
  have hk := clone_call (v := v) xs hm H hv
  by_cases h0 : xs.length = 0
  · rw [if_pos h0] at hk
    have hz := List.eq_nil_of_length_eq_zero h0
    subst hz
    exact ⟨_, _, [], hk, rStringS_emp, List.nodup_nil, fun i hi => (by cases hi), .refl⟩
  · rw [if_neg h0] at hk
    exact ⟨_, _, _, hk, rStringS_new (b := H.length) (by simp), by simp, fun i hi => by rw [List.mem_singleton] at hi; omega, .app⟩
theorem tail_clone {H : Heap} {vL : GV} {log : List ByteArray} {r : List Nat} (h : rStringS H [vL] log r) {m : Nat} (hm : m ≤ log.length) (hl : log.length ≤ 4194304) : ∃ v, ksl 1 vL (some (.int .i64 (m : Int))) none none = some v ∧ ∀ H', (∀ i ∈ r, H'[i]? = H[i]?) → ∃ v' H'' R, kF true HH fn.slices_Clone_string [v] H' = some (v', H'') ∧ rStringS H'' [v'] (log.drop m) R ∧ R.Nodup ∧ (∀ i ∈ R, H'.length ≤ i) ∧ Fr [] H' H'' := by
  have hl' : (log.drop m).length ≤ 4194304 := by rw [List.length_drop]; omega
  rcases h with ⟨rfl, rfl, hc⟩ | ⟨b, css, Rs, hv, hb, ha, rfl⟩
  · obtain rfl : m = 0 := by simpa using hm
    refine ⟨vL, ?_, fun H' _ => clone_of (xs := []) (by simp) ?_⟩
    · rcases hc with hc | hc <;> (injection hc with hc; subst hc; simp [ksl, kslice, gslice, gopt, gint])
    · rcases hc with hc | hc <;> (injection hc with hc; subst hc; exact ⟨_, rfl⟩)
  · injection hv with hv
    subst hv
    have hcs : css = log.map cs := by
      clear hb hm hl hl'
      induction ha with
      | nil => rfl
      | cons a _ ih => rw [a.1, ih]; rfl
    have hb' : H[b]? = some ((log.take m).flatMap cs ++ (log.drop m).flatMap cs) := by
      rw [hb, hcs, ← List.flatMap_append, List.take_append_drop, List.flatMap_def]
    have pl : ((log.take m).flatMap cs).length = m := by have := len_flat (es := 1) (mk := cs) (fun _ => rfl) (log.take m); rw [List.length_take] at this; omega
    refine ⟨.sl b m (log.length - m) (log.length - m) 1, ?_, fun H' hf => clone_of hl' ?_⟩
    · have a1 : (m : Int) ≤ (log.length : Int) := by omega
      simp [ksl, kslice, gslice, gopt, gint, a1]
    · have ho : rSo H' [.sl b m (log.length - m) (log.length - m) 1] (log.drop m) [b] := Or.inr ⟨b, (log.take m).flatMap cs, by rw [pl, List.length_drop], (hf b (List.mem_cons_self ..)).trans hb', rfl⟩
      obtain ⟨g, g1, g2⟩ := goodSo.lend1 (by omega) ho
      have e : g = fzl true 1 cs (log.drop m) := by have := g2; simp only [mStringS] at this; injection this with this; exact this.symm
      subst e
      exact ⟨_, g1⟩
theorem FI.grow {p lo : Nat} {a : ChainT} {H H' : Heap} {vS vD vU : GV} {RS RD RU : List Nat} (h : FI p lo a H vS vD vU RS RD RU) (f : Fr [] H H') : FI p lo a H' vS vD vU RS RD RU :=
  { h with cell := f.blk h.cell no_nil, s := h.s.keep goodServer f (fun _ _ => no_nil), d := h.d.keep goodStringS f (fun _ _ => no_nil), u := h.u.keep goodInt64S f (fun _ _ => no_nil) }
end Go.Proofs.Ytlbnioapepelnaa.G

namespace Go.Proofs.Ytlbnioapepelnaa.G
open Go.RowKit
theorem fall_mid {p lo : Nat} {a : ChainT} {H : Heap} {vS vD vU : GV} {RS RD RU : List Nat} (C : ChainIn p lo a H vS vD vU RS RD RU) (hlo : lo ≤ H.length) (hm : okChain a) (hP : ChainP a.1 a.2.1 a.2.2) {j : Nat} (h0 : 0 < j) (hj : j + 1 < a.1.length) (hlg : ∀ s ∈ a.1, s.1.length ≤ 4194304) :
    ∃ H' vS' vD' vU' RS' RD' RU', HH fn.impl_Chain_fall [.ptr p 0 3, .int .i64 (j : Int)] H = some (.tup [], H') ∧ FI p lo (fallC a.1 a.2.1 a.2.2 j) H' vS' vD' vU' RS' RD' RU' ∧ (∀ i, i < H.length → i ≠ p → i ∉ RS → i ∉ RD → i ∉ RU → H'[i]? = H[i]?) := by
  have h5 := hP.1.2
  have hd := hP.2.1
  have hn := hP.2.2.1
  obtain ⟨H6, vS', vD', vU', RS', RD', RU', hF, e1, e2, e3, e4, e5, K⟩ := impl_Chain_fall_0 C hm hP (by omega) (j := j) (by omega)
  obtain ⟨m, rfl⟩ : ∃ m, j = m + 1 := ⟨j - 1, by omega⟩
  simp only [Nat.add_sub_cancel] at hF K
  obtain ⟨ys, hys⟩ : ∃ ys, a.1.eraseIdx (m + 1) = ys := ⟨_, rfl⟩
  obtain ⟨ds, hds⟩ : ∃ ds, a.2.1.eraseIdx m = ds := ⟨_, rfl⟩
  obtain ⟨us, hus⟩ : ∃ us, a.2.2.eraseIdx m = us := ⟨_, rfl⟩
  have ly : ys.length + 1 = a.1.length := by rw [← hys, List.length_eraseIdx, if_pos (by omega)]; omega
  have ld : ds.length + 1 = a.2.1.length := by rw [← hds, List.length_eraseIdx, if_pos (by omega)]; omega
  have lu : us.length + 1 = a.2.2.length := by rw [← hus, List.length_eraseIdx, if_pos (by omega)]; omega
  have elg : ∀ s ∈ ys, s.1.length ≤ 4194304 := fun s h => hlg s ((List.eraseIdx_sublist (l := a.1) (k := m + 1)).subset (hys ▸ h))
  have e1' : sv ys m = sv a.1 m := by unfold sv; rw [← hys, List.getElem?_eraseIdx, if_pos (by omega)]
  have e2' : sv ys (m + 1) = sv a.1 (m + 2) := by unfold sv; rw [← hys, List.getElem?_eraseIdx, if_neg (by omega)]
  have y0 : sv ys m = ys[m]'(by omega) := by unfold sv; rw [List.getElem?_eq_getElem (by omega)]; rfl
  have y1 : sv ys (m + 1) = ys[m + 1]'(by omega) := by unfold sv; rw [List.getElem?_eq_getElem (by omega)]; rfl
  have hs := hP.2.2.2.2.1
  have s1 := (hs m (by omega) (by omega)).2.1
  have s2 := (hs (m + 1) (by omega) (by omega)).2.1
  have hle : (ys[m + 1]'(by omega)).1.length ≤ (ys[m]'(by omega)).1.length := by
    rw [← y0, ← y1, e1', e2']
    show (a.1[m + 1 + 1]?.getD ([], 0)).1.length ≤ (a.1[m]?.getD ([], 0)).1.length
    rw [s1, s2]; simp only [List.length_append]; omega
  have hfc : fallC a.1 a.2.1 a.2.2 (m + 1) = (ys, ds.set m ((ys[m]'(by omega)).1.drop (ys[m + 1]'(by omega)).1.length), us.set m (if (ys[m]'(by omega)).2 < (ys[m + 1]'(by omega)).2 then [(ys[m + 1]'(by omega)).2] else [])) := by
    unfold fallC fallMid
    rw [if_neg (by omega), if_neg (by omega), Nat.add_sub_cancel, hys, hds, hus, y0, y1]
  rw [hys, hds, hus] at hF
  rw [hfc]
  have hpl := (List.getElem?_eq_some_iff.1 hF.cell).1
  obtain ⟨b, vL, rL, hvS, bin, a0, a1, sL, a2⟩ := hF.server (i := m) (by simp only; omega)
  obtain ⟨b', vR, rR, hvS', bin', c0, c1, sR, c2⟩ := hF.server (i := m + 1) (by simp only; omega)
  have hbb : b' = b := by rw [hvS'] at hvS; injection hvS
  subst hbb
  have k0 := kia_room (es := 2) (b := b') (n := ys.length) (m := ys.length + 1) (i := m) (by omega)
  have k1 := kia_room (es := 2) (b := b') (n := ys.length) (m := ys.length + 1) (i := m + 1) (by omega)
  rw [← hvS'] at k0 k1
  have vcL := cell_of sL
  have vcR := cell_of sR
  have q0 := kload1_at (o := 0) (tot := 3) hF.cell rfl
  simp only [List.getElem?_cons_zero] at q0
  -- the two copies
  obtain ⟨cL, hcL⟩ : ∃ cL : List GV, [vL, .int .i64 (ys[m]'(by omega)).2] = cL := ⟨_, rfl⟩
  obtain ⟨cR, hcR⟩ : ∃ cR : List GV, [vR, .int .i64 (ys[m + 1]'(by omega)).2] = cR := ⟨_, rfl⟩
  have st1 : kstore 2 (H6 ++ [[.nils, .int .i64 0], [.nils, .int .i64 0]]) (.ptr H6.length 0 2) (.agg cL) = some (H6 ++ [cL, [.nils, .int .i64 0]]) := by
    rw [kstoreA_at (c := [.nils, .int .i64 0]) (n := 2) (by simp) rfl (by rw [← hcL]; rfl) (by rw [← hcL]; simp [vcL.2])]
    simp
  have st2 : kstore 2 (H6 ++ [cL, [.nils, .int .i64 0]]) (.ptr (H6.length + 1) 0 2) (.agg cR) = some (H6 ++ [cL, cR]) := by
    rw [kstoreA_at (c := [.nils, .int .i64 0]) (n := 2) (by simp) rfl (by rw [← hcR]; rfl) (by rw [← hcR]; simp [vcR.2])]
    simp
  obtain ⟨H8, hH8⟩ : ∃ H8, H6 ++ [cL, cR] = H8 := ⟨_, rfl⟩
  rw [hH8] at st2
  have f8 : Fr [] H6 H8 := by rw [← hH8]; exact .app
  have l8 : H8.length = H6.length + 2 := by rw [← hH8]; simp
  have L8 : H8[H6.length]? = some [vL, .int .i64 (ys[m]'(by omega)).2] := by rw [← hH8, ← hcL]; simp
  have R8 : H8[H6.length + 1]? = some [vR, .int .i64 (ys[m + 1]'(by omega)).2] := by rw [← hH8, ← hcR]; simp
  have hF8 := hF.grow f8
  have q1 := kload1_at (o := 1) (tot := 3) hF8.cell rfl
  have q2 := kload1_at (o := 2) (tot := 3) hF8.cell rfl
  have p1 := kload1_at (o := 0) (tot := 2) L8 rfl
  have p2 := kload1_at (o := 0) (tot := 2) R8 rfl
  simp only [List.getElem?_cons_zero, List.getElem?_cons_succ] at q1 q2 p1 p2
  have kR := sR.len
  obtain ⟨vT, kT, cl⟩ := tail_clone sL hle (elg _ (List.getElem_mem _))
  obtain ⟨v9, H9, R9, t9, r9, n9, lo9, f9⟩ := cl H8 fun i hi => f8.2 i (goodStringS.mem sL i hi) no_nil
  obtain ⟨bD, hvD, binD, upD⟩ := hF8.downSet (i := m) (by simp only; omega)
  obtain ⟨HA, RD9, sA, hFA, fA, lA⟩ := upD H9 v9 _ R9 f9 r9 n9 (fun k hk => by have := lo9 k hk; have := e4.1; omega) (by omega)
  have kD := kia_room (es := 1) (b := bD) (n := ds.length) (m := ds.length + 1) (i := m) (by omega)
  rw [← hvD, Nat.mul_one, Nat.mul_one] at kD
  have hplA : p < HA.length := (List.getElem?_eq_some_iff.1 hFA.cell).1
  obtain ⟨bU, vUo, rU, hvU, binU, bUr, hrU, nrU, lU, relU, upU⟩ := hFA.upSet (i := m) (by simp only; omega)
  obtain ⟨HB, RU9, sB, hFB, fB, kB⟩ := upU HA .nils [] [] .refl (Or.inl ⟨rfl, rfl, Or.inr rfl⟩) List.nodup_nil (fun k hk => by cases hk) hplA
  have kU := kia_room (es := 1) (b := bU) (n := us.length) (m := us.length + 1) (i := m) (by omega)
  rw [← hvU, Nat.mul_one, Nat.mul_one] at kU
  have mD := hF.d.mem goodStringS
  have mU := hF.u.mem goodInt64S
  have mS := hF.s.mem goodServer
  have hb6 := mS b' bin
  have fAB : ∀ i, i < H8.length → i ∉ RD' → i ∉ RU' → HB[i]? = H8[i]? := fun i h1 h2 h3 => by rw [fB.2 i (by have := fA.1; omega) h3, fA.2 i h1 h2]
  have LB : HB[H6.length]? = some [vL, .int .i64 (ys[m]'(by omega)).2] := (fAB _ (by omega) (fun h => by have := mD _ h; omega) (fun h => by have := mU _ h; omega)).trans L8
  have RB : HB[H6.length + 1]? = some [vR, .int .i64 (ys[m + 1]'(by omega)).2] := (fAB _ (by omega) (fun h => by have := mD _ h; omega) (fun h => by have := mU _ h; omega)).trans R8
  have p3 := kload1_at (o := 1) (tot := 2) LB rfl
  have p4 := kload1_at (o := 1) (tot := 2) RB rfl
  simp only [List.getElem?_cons_zero, List.getElem?_cons_succ] at p3 p4
  have g0 : kbin .eql (.int .i64 ((m + 1 : Nat) : Int)) (.int .i64 0) = some (.bool false) := by rw [kbin_eql, decide_eq_false (by omega)]
  have g1 : kbin .eql (.int .i64 ((m + 1 : Nat) : Int)) (.int .i64 ((a.1.length : Int) - 1)) = some (.bool false) := by rw [kbin_eql, decide_eq_false (by omega)]
  have w1 : kbin .sub (.int .i64 ((m + 1 : Nat) : Int)) (.int .i64 1) = some (.int .i64 (m : Int)) := by rw [kbin_sub, wrap_id (by omega) (by omega)]; congr 2; omega
  have hck : chk [(11, 17), (14, 17)] [⟨11, H6.length, H6.length, ⟨[p], []⟩⟩, ⟨14, H6.length, H6.length, ⟨[b'], []⟩⟩, ⟨17, H6.length + 1 + 1, H6.length + 1 + 1, ⟨[], [H6.length]⟩⟩] = true := by
    have z1 : ¬ (H6.length = p) := by omega
    have z2 : ¬ (H6.length = b') := by omega
    have z3 : ¬ (p = H6.length) := by omega
    have z4 : ¬ (b' = H6.length) := by omega
    have z5 : ¬ (H6.length + 1 + 1 ≤ p) := by omega
    have z6 : ¬ (H6.length + 1 + 1 ≤ b') := by omega
    simp [chk, meets, touches, z1, z2, z3, z4, z5, z6]
  have frB : ∀ i, i < H.length → i ≠ p → i ∉ RS → i ∉ RD → i ∉ RU → HB[i]? = H[i]? := fun i hi hp hS hD hU => by
    rw [fAB i (by omega) (fun h => hD (e2 i h)) (fun h => hU (e3 i h)), f8.2 i (by omega) no_nil, e4.2 i hi (by simp [hp, hS, hD, hU])]
  have hk11 : ∀ {Q : Type} (K : GV → Heap → Option Q), kalloc [.nils, .int .i64 0] H6 K = K (.ptr H6.length 0 2) (H6 ++ [[.nils, .int .i64 0]]) := fun K => rfl
  by_cases hlt : (ys[m]'(by omega)).2 < (ys[m + 1]'(by omega)).2
  · have gt : kbin .gtr (.int .i64 (ys[m + 1]'(by omega)).2) (.int .i64 (ys[m]'(by omega)).2) = some (.bool true) := by rw [kbin_gtr, decide_eq_true hlt]
    rw [if_pos hlt]
    obtain ⟨HC, RUC, tC, hFC, fC, kC⟩ := hFB.tell (by have := fA.1; have := fB.1; omega) (j := m) (by simp only; omega) (by simp only [List.length_set]; omega) (by simp only; omega) (by simp)
    refine ⟨HC, vS', vD', vU', RS', RD9, RUC, S.impl_Chain_fall.gives (k := 0) ((K finH).trans ?_), ?_, fun i hi hp hS hD hU => ?_⟩
    · simp [g0, g1, q0, w1, k0, k1, a2, c2, hcL, hcR, st1, st2, hck, q1, q2, p1, p2, kR, kT, t9, kD, sA, kU, sB, p3, p4, gt, tC, -kF_OO, -kload1_ptr, -kloadA_ptr, -kstore_ptr, -kbin_sub, -kbin_eql, -kbin_gtr, -kia_sl, -Int.natCast_add]
    · have e : us.set m [(ys[m + 1]'(by omega)).2] = (us.set m []).set m ((us.set m [])[m]'(by rw [List.length_set]; omega) ++ [(ys[m + 1]'(by omega)).2]) := by simp
      rw [e]; exact hFC
    · rw [fC.2 i (by have := fA.1; have := fB.1; omega) (fun h => by
        rcases kB i h with h1 | h1
        · exact hU (e3 i h1)
        · have := fA.1; omega), frB i hi hp hS hD hU]
  · have gt : kbin .gtr (.int .i64 (ys[m + 1]'(by omega)).2) (.int .i64 (ys[m]'(by omega)).2) = some (.bool false) := by rw [kbin_gtr, decide_eq_false hlt]
    rw [if_neg hlt]
    refine ⟨HB, vS', vD', vU', RS', RD9, RU9, S.impl_Chain_fall.gives (k := 0) ((K finH).trans ?_), hFB, frB⟩
    simp [g0, g1, q0, w1, k0, k1, a2, c2, hcL, hcR, st1, st2, hck, q1, q2, p1, p2, kR, kT, t9, kD, sA, kU, sB, p3, p4, gt, -kF_OO, -kload1_ptr, -kloadA_ptr, -kstore_ptr, -kbin_sub, -kbin_eql, -kbin_gtr, -kia_sl, -Int.natCast_add]
end Go.Proofs.Ytlbnioapepelnaa.G

namespace Go.Proofs.Ytlbnioapepelnaa.G
open Go.RowKit
theorem rChainR_keep {h h' : Heap} {c : List GV} {a : ChainT} {R R' : List Nat} (he : rChainR h c a R) (f : Fr R' h h') (hd : ∀ i ∈ R, i ∉ R') : rChainR h' c a R := by
  obtain ⟨c1, c2, R1, R2, rfl, rfl, hS, c3, c4, R3, R4, rfl, rfl, hD, hU⟩ := he
  have fs : ∀ i ∈ R1, h'[i]? = h[i]? := fun i hi => f.2 i (RRm.mem goodServer hS i hi) (hd i (by simp [hi]))
  have fd : ∀ i ∈ R3, h'[i]? = h[i]? := fun i hi => f.2 i (RRm.mem goodStringS hD i hi) (hd i (by simp [hi]))
  have fu : ∀ i ∈ R4, h'[i]? = h[i]? := fun i hi => f.2 i (RRm.mem goodInt64S hU i hi) (hd i (by simp [hi]))
  exact ⟨c1, _, R1, _, rfl, rfl, RRm.frame goodServer hS fs, c3, c4, R3, R4, rfl, rfl, RRm.frame goodStringS hD fd, RRm.frame goodInt64S hU fu⟩
theorem rChainR_of {h : Heap} {c : List GV} {a : ChainT} {R : List Nat} (he : rChain h c a R) : rChainR h c a R := by
  obtain ⟨c1, c2, R1, R2, rfl, rfl, hS, c3, c4, R3, R4, rfl, rfl, hD, hU⟩ := he
  exact ⟨c1, _, R1, _, rfl, rfl, Or.inl hS, c3, c4, R3, R4, rfl, rfl, Or.inl hD, Or.inl hU⟩
def OpF (f : FuncId) (args : List GV) (a : ChainT) (res : ChainT × Bool) : Prop := ∀ (p lo : Nat) (H : Heap) (vS vD vU : GV) (RS RD RU : List Nat), ChainIn p lo a H vS vD vU RS RD RU → lo ≤ H.length →
  ∃ H' c' R', HH f (.ptr p 0 3 :: args) H = some (.bool res.2, H') ∧ H'[p]? = some c' ∧ c'.length = 3 ∧ c'.all GV.isCell = true ∧ rChainR H' c' res.1 R' ∧ R'.Nodup ∧ (∀ i ∈ R', lo ≤ i) ∧ (∀ i, i < H.length → i ≠ p → i ∉ RS → i ∉ RD → i ∉ RU → H'[i]? = H[i]?)
open Classical in
theorem impl_changed_specF (a : ChainT) (hm : okChain a) (f : FuncId) (caps : List GV) (res : ChainT × Bool) (hk : ∀ (args : List GV) (h : Heap) (K : GV → Heap → Option (GV × List (List GV))), kval (.fn f caps) args h K = (HH f (args ++ caps) h).bind fun r => K r.1 r.2) (hop : ChainP a.1 a.2.1 a.2.2 → OpF f caps a res) (hf : res.2 = false → res.1 = a) (b : Nat) :
    ∃ c bl, OO fn.impl_changed [.agg (mChain true a), .fn f caps] b = some (.tup [.agg c, .bool (onM a res).2], bl) ∧ ∀ H T, H.length = b → rChain (H ++ bl ++ T) c (onM a res).1 (List.range' b bl.length) := by
  have hc := impl_ChainOk_spec a.1 a.2.1 a.2.2 hm
  have bM : ∀ H : Heap, bors H [.agg (mChain true a)] = some [.agg (mChain true a)] := fun H => by simp
  have hc' : NN fn.impl_ChainOk [.agg (mChain true a)] = some (.bool (decide (ChainP a.1 a.2.1 a.2.2))) := hc
  have hML : (mChain true a).length = 3 := rfl
  by_cases h : ChainP a.1 a.2.1 a.2.2
  case neg =>
    have hon : onM a res = (([], [], []), false) := by unfold onM; rw [if_neg h]
    rw [decide_eq_false h] at hc'
    obtain ⟨c, bl, f1, f2⟩ := goodChain.finT (t := false) (by omega) (h := [mChain true a, [.nils, .nils, .nils]]) rChain_none List.nodup_nil b
    refine ⟨c, bl, ?_, by rw [hon]; exact f2⟩
    rw [hon]
    apply S.impl_changed.gives (k := 0)
    have q := kN_at (H := [mChain true a, [.nils, .nils, .nils]]) (bM _) hc'
    simp only [mChain] at q f1
    simp [S.impl_changed.run, gfill, q, f1, -kN_eq]
  have hon : onM a res = res := by unfold onM; rw [if_pos h]
  rw [decide_eq_true h] at hc'
  rw [hon]
  obtain ⟨M, hM⟩ : ∃ M, mChain true a = M := ⟨_, rfl⟩
  have cp := fun H => fresh_agg goodChain (f := fn.impl_Chain_copied) (args := [.agg M]) (xs := [.agg M]) (H := H) (x := a) (by rw [← hM]; exact bM _) (by rw [← hM]; exact impl_Chain_copied_spec a hm (chain_len h) H.length)
  rw [hM] at hc' bM hML ⊢
  obtain ⟨H0, hH0⟩ : ∃ H0 : Heap, [M, [.nils, .nils, .nils]] = H0 := ⟨_, rfl⟩
  have l0 : H0.length = 2 := by rw [← hH0]; rfl
  have A0 : H0[0]? = some M := by rw [← hH0]; rfl
  have Z0 : H0[1]? = some [.nils, .nils, .nils] := by rw [← hH0]; rfl
  have hbox : ∀ {Q : Type} (K : GV → Heap → Option Q), kbox (.agg M) [] K = K (.ptr 0 0 3) [M] := fun K => by rw [kbox_agg, hML]; rfl
  have hal : ∀ {Q : Type} (K : GV → Heap → Option Q), kalloc [.nils, .nils, .nils] [M] K = K (.ptr 1 0 3) H0 := fun K => by rw [kalloc_eq, ← hH0]; rfl
  have q := kN_at (H := H0) (bM _) hc'
  obtain ⟨c1, R1, H1, t1, r1, n1, b1, f1, l1⟩ := cp H0
  have cl1 := goodChain.len r1
  have v1 := var_at (H := H1) (z := [.nils, .nils, .nils]) (c := c1) (n := 3) rfl cl1 (goodChain.cell r1)
  obtain ⟨H2, hH2⟩ : ∃ H2, H1 ++ [c1] = H2 := ⟨_, rfl⟩
  have f2 : Fr [] H1 H2 := by rw [← hH2]; exact .app
  have l2 : H2.length = H1.length + 1 := by rw [← hH2]; simp
  have X2 : H2[H1.length]? = some c1 := by rw [← hH2]; simp
  rw [hH2] at v1
  obtain ⟨vS, vD, vU, RS, RD, RU, hcc, C, hin⟩ := rChain_in (lo := 2) X2 (goodChain.keep r1 f2 (fun _ _ => no_nil)) n1 (fun i hi => by have := b1 i hi; omega) (fun hi => by have := b1 _ hi; omega)
  obtain ⟨H3, c3, R3, t3, C3c, cl3, cc3, hr3, nd3, hlo3, k3⟩ := hop h H1.length 2 H2 vS vD vU RS RD RU C (by omega)
  have ks : ∀ (i : Nat) (c : List GV), i < 2 → H2[i]? = some c → H3[i]? = some c := fun i c hi hc => by
    have hno : ∀ S : List Nat, (∀ j ∈ S, j ∈ RS ∨ j ∈ RD ∨ j ∈ RU) → i ∉ S := fun S hS hi' => by
      have := b1 i (hin i (hS i hi')); omega
    rw [k3 i (List.getElem?_eq_some_iff.1 hc).1 (by omega) (hno _ fun j hj => Or.inl hj) (hno _ fun j hj => Or.inr (Or.inl hj)) (hno _ fun j hj => Or.inr (Or.inr hj)), hc]
  have A3 := ks 0 _ (by omega) (f2.blk (f1.blk A0 no_nil) no_nil)
  have Z3 := ks 1 _ (by omega) (f2.blk (f1.blk Z0 no_nil) no_nil)
  have kv : ∀ (K : GV → Heap → Option (GV × List (List GV))), kval (.fn f caps) [.ptr H1.length 0 3] H2 K = K (.bool res.2) H3 := fun K => by rw [hk]; show (HH f (.ptr H1.length 0 3 :: caps) H2).bind _ = _; rw [t3]; rfl
  cases hb : res.2 with
  | true =>
    have l3 := kloadA_at (n := 3) C3c cl3
    have s3 := kstoreA_at (n := 3) Z3 rfl (c' := c3) cl3 cc3
    have hl3 := (List.getElem?_eq_some_iff.1 Z3).1
    obtain ⟨H4, hH4⟩ : ∃ H4, H3.set 1 c3 = H4 := ⟨_, rfl⟩
    have f4 : Fr [1] H3 H4 := by rw [← hH4]; exact .set (by simp)
    rw [hH4] at s3
    have A4 : H4[1]? = some c3 := by rw [← hH4, List.getElem?_set_self hl3]
    have l4 := kloadA_at (n := 3) A4 cl3
    obtain ⟨c, bl, e1, e2⟩ := finO_chainR (t := true) (rChainR_keep hr3 f4 (fun i hi h => by have := hlo3 i hi; rw [List.mem_singleton] at h; omega)) nd3 b
    refine ⟨c, bl, S.impl_changed.gives (k := 0) ?_, e2⟩
    rw [hb] at kv
    simp [S.impl_changed.run, hbox, hal, kloadA_at A0 hML, q, t1, v1, hH2, kv, l3, s3, l4, e1, -kN_eq, -kF_OO, -kloadA_ptr, -kstore_ptr, -kbox_agg, -kalloc_eq]
    simp [kalloc_at, v1, kv, l3, s3, l4, e1, -kloadA_ptr, -kstore_ptr, -kalloc_eq]
  | false =>
    obtain ⟨c5, R5, H5, t5, r5, n5, b5, f5, l5⟩ := cp H3
    have cl5 := goodChain.len r5
    have Z5 := f5.blk Z3 no_nil
    have hl5 := (List.getElem?_eq_some_iff.1 Z5).1
    have hl3 := (List.getElem?_eq_some_iff.1 Z3).1
    have s5 := kstoreA_at (n := 3) Z5 rfl (c' := c5) cl5 (goodChain.cell r5)
    obtain ⟨H6, hH6⟩ : ∃ H6, H5.set 1 c5 = H6 := ⟨_, rfl⟩
    have f6 : Fr [1] H5 H6 := by rw [← hH6]; exact .set (by simp)
    rw [hH6] at s5
    have A6 : H6[1]? = some c5 := by rw [← hH6, List.getElem?_set_self hl5]
    have l6 := kloadA_at (n := 3) A6 cl5
    obtain ⟨c, bl, e1, e2⟩ := goodChain.finT (t := false) (by omega) (goodChain.keep r5 f6 (fun i hi h => by have := b5 i hi; rw [List.mem_singleton] at h; omega)) n5 b
    refine ⟨c, bl, S.impl_changed.gives (k := 0) ?_, by rw [hf hb]; exact e2⟩
    rw [hb] at kv
    simp [S.impl_changed.run, hbox, hal, kloadA_at A0 hML, q, t1, v1, hH2, kv, kloadA_at A3 hML, t5, s5, l6, e1, -kN_eq, -kF_OO, -kloadA_ptr, -kstore_ptr, -kbox_agg, -kalloc_eq]
    simp [kalloc_at, v1, kv, kloadA_at A3 hML, t5, s5, l6, e1, -kF_OO, -kloadA_ptr, -kstore_ptr, -kalloc_eq]
end Go.Proofs.Ytlbnioapepelnaa.G

namespace Go.Proofs.Ytlbnioapepelnaa.G
open Go.RowKit
theorem impl_Fall_1_op (a : ChainT) (hP : ChainP a.1 a.2.1 a.2.2) (hm : okChain a) (i : Int) (hu : ∀ u ∈ a.2.2, u.length ≤ 4194304) (hlg : ∀ s ∈ a.1, s.1.length ≤ 4194304) : OpF fn.impl_Fall_1 [.fp true [.int .i64 i]] a (fallM a i) := by
  intro p lo H vS vD vU RS RD RU C hlo
  have h1 := hP.1.1
  have h5 := hP.1.2
  have et : ∀ H, kload1 H (.fp true [.int .i64 i]) = some (.int .i64 i) := fun H => rfl
  obtain ⟨hr, nd⟩ := C.fin
  have l3 := kloadA_at (n := 3) C.cell rfl
  have lst : kN NN fn.impl_Chain_last [.agg [vS, vD, vU]] H = some (.int .i64 ((a.1.length : Int) - 1)) := kN_at (bors_agg goodChain (gs := []) (xs := []) (by omega) hr rfl) (impl_Chain_last_spec a hm.1.1)
  have hloR : ∀ k ∈ RS ++ (RD ++ RU), lo ≤ k := fun k hk => by
    simp only [List.mem_append] at hk
    rcases hk with h | h | h
    · exact C.ls k h
    · exact C.ld k h
    · exact C.lu k h
  have cc := goodChain.cell hr
  by_cases c2 : 2 ≤ a.1.length
  case neg =>
    have hres : fallM a i = (a, false) := by unfold fallM; rw [if_neg (fun h => c2 h.1)]
    have g : kbin .eql (.int .i64 ((a.1.length : Int) - 1)) (.int .i64 0) = some (.bool true) := by rw [kbin_eql, decide_eq_true (by omega)]
    rw [hres]
    refine ⟨H, _, _, S.impl_Fall_1.gives (k := 0) ?_, C.cell, rfl, cc, rChainR_of hr, nd, hloR, fun _ _ _ _ _ _ => rfl⟩
    simp [S.impl_Fall_1.run, l3, lst, g, -kload1_ptr, -kloadA_ptr, -kN_eq, -kbin_eql]
  have g : kbin .eql (.int .i64 ((a.1.length : Int) - 1)) (.int .i64 0) = some (.bool false) := by rw [kbin_eql, decide_eq_false (by omega)]
  have sp := impl_in_spec i 0 ((a.1.length : Int) - 1)
  by_cases c1 : 0 ≤ i ∧ i < (a.1.length : Int)
  case neg =>
    have hres : fallM a i = (a, false) := by unfold fallM; rw [if_neg (fun h => c1 h.2)]
    rw [decide_eq_false (by omega)] at sp
    have ki : kN NN fn.impl_in [.int .i64 i, .int .i64 0, .int .i64 ((a.1.length : Int) - 1)] H = some (.bool false) := kN_at (xs := [.int .i64 i, .int .i64 0, .int .i64 ((a.1.length : Int) - 1)]) (by simp) sp
    rw [hres]
    refine ⟨H, _, _, S.impl_Fall_1.gives (k := 0) ?_, C.cell, rfl, cc, rChainR_of hr, nd, hloR, fun _ _ _ _ _ _ => rfl⟩
    simp [S.impl_Fall_1.run, et, l3, lst, g, ki, -kload1_ptr, -kloadA_ptr, -kN_eq, -kbin_eql]
  rw [decide_eq_true (by omega)] at sp
  have ki : kN NN fn.impl_in [.int .i64 i, .int .i64 0, .int .i64 ((a.1.length : Int) - 1)] H = some (.bool true) := kN_at (xs := [.int .i64 i, .int .i64 0, .int .i64 ((a.1.length : Int) - 1)]) (by simp) sp
  obtain ⟨j, rfl⟩ : ∃ j : Nat, i = j := ⟨i.toNat, by omega⟩
  have hres : fallM a (j : Int) = (fallC a.1 a.2.1 a.2.2 j, true) := by unfold fallM; rw [if_pos ⟨c2, c1⟩, Int.toNat_natCast]
  rw [hres]
  obtain ⟨H', vS', vD', vU', RS', RD', RU', t, hF, fr⟩ : ∃ H' vS' vD' vU' RS' RD' RU', HH fn.impl_Chain_fall [.ptr p 0 3, .int .i64 (j : Int)] H = some (.tup [], H') ∧ FI p lo (fallC a.1 a.2.1 a.2.2 j) H' vS' vD' vU' RS' RD' RU' ∧ (∀ i, i < H.length → i ≠ p → i ∉ RS → i ∉ RD → i ∉ RU → H'[i]? = H[i]?) := by
    by_cases j0 : j = 0
    · subst j0
      obtain ⟨H', vS', vD', vU', RS', RD', RU', t, hF, fr⟩ := fall_first C hm hP c2
      exact ⟨H', vS', vD', vU', RS', RD', RU', t, hF, fun i hi hp hS hD hU => fr.2 i hi (by simp [hp, hS, hD, hU])⟩
    by_cases jl : j + 1 = a.1.length
    · exact fall_last C hlo hm hP c2 jl hu
    · exact fall_mid C hlo hm hP (by omega) (by omega) hlg
  obtain ⟨f1, f2, f3⟩ := hF.fin
  refine ⟨H', _, _, S.impl_Fall_1.gives (k := 0) ?_, hF.cell, rfl, ?_, f1, f2, f3, fr⟩
  · simp [S.impl_Fall_1.run, et, l3, lst, g, ki, t, -kload1_ptr, -kloadA_ptr, -kN_eq, -kbin_eql]
  · obtain ⟨b1, _, _, _, e1, _⟩ := hF.s
    obtain ⟨b2, _, _, _, e2, _⟩ := hF.d
    obtain ⟨b3, _, _, _, e3, _⟩ := hF.u
    rw [e1, e2, e3]; rfl
end Go.Proofs.Ytlbnioapepelnaa.G

namespace Go.Proofs.Ytlbnioapepelnaa.G
open Go.RowKit

theorem kval_Fall_1 {R : Type} {caps args : List GV} {h : Heap} {K : GV → Heap → Option R} : kval (.fn fn.impl_Fall_1 caps) args h K = (HH fn.impl_Fall_1 (args ++ caps) h).bind fun r => K r.1 r.2 := by kernel_rfl
theorem impl_Fall_spec (a : ChainT) (hm : okChain a) (i : Int) (b : Nat) : ∃ c bl, OO fn.impl_Fall [.agg (mChain true a), .int .i64 i] b = some (.tup [.agg c, .bool (onM a (fallM a i)).2], bl) ∧ ∀ H T, H.length = b → rChain (H ++ bl ++ T) c (onM a (fallM a i)).1 (List.range' b bl.length) := by
  have ch := fun H : Heap => fresh_tup goodChain (f := fn.impl_changed) (args := [.agg (mChain true a), .fn fn.impl_Fall_1 [.fp true [.int .i64 i]]]) (xs := [.agg (mChain true a), .fn fn.impl_Fall_1 [.fp true [.int .i64 i]]]) (H := H) (by simp; rfl) (impl_changed_specF a hm fn.impl_Fall_1 [.fp true [.int .i64 i]] (fallM a i) (fun args h K => kval_Fall_1) (fun h => impl_Fall_1_op a h hm i (fun u hu => Nat.le_trans (hm.2.2.2 u hu) (by omega)) (fun s hs => Nat.le_trans (hm.1.2 s hs).1 (by omega))) fallM_false H.length)
  have hML : (mChain true a).length = 3 := rfl
  have bM : ∀ H : Heap, bor 9 H (.agg (mChain true a)) = some (.agg (mChain true a), []) := fun H => by simp
  obtain ⟨M, hM⟩ : ∃ M, mChain true a = M := ⟨_, rfl⟩
  rw [hM] at hML ⊢
  simp only [hM] at ch bM
  obtain ⟨H0, hH0⟩ : ∃ H0 : Heap, [M, [.int .i64 i], [.nils, .nils, .nils]] = H0 := ⟨_, rfl⟩
  have A0 : H0[0]? = some M := by rw [← hH0]; rfl
  have Z0 : H0[2]? = some [.nils, .nils, .nils] := by rw [← hH0]; rfl
  obtain ⟨c1, R1, H1, t1, r1, n1, b1, f1, l1⟩ := ch H0
  have cl1 := goodChain.len r1
  have Z1 := f1.blk Z0 no_nil
  have hl1 := (List.getElem?_eq_some_iff.1 Z1).1
  have s1 := kstoreA_at (n := 3) Z1 rfl (c' := c1) cl1 (goodChain.cell r1)
  obtain ⟨H2, hH2⟩ : ∃ H2, H1.set 2 c1 = H2 := ⟨_, rfl⟩
  have f2 : Fr [2] H1 H2 := by rw [← hH2]; exact .set (by simp)
  rw [hH2] at s1
  have A2 : H2[2]? = some c1 := by rw [← hH2, List.getElem?_set_self hl1]
  have l2 := kloadA_at (n := 3) A2 cl1
  have l0 : H0.length = 3 := by rw [← hH0]; rfl
  obtain ⟨c, bl, e1, e2⟩ := goodChain.finT (t := (onM a (fallM a i)).2) (by omega) (goodChain.keep r1 f2 (fun i hi h => by have := b1 i hi; rw [List.mem_singleton] at h; omega)) n1 b
  refine ⟨c, bl, S.impl_Fall.gives (k := 0) ?_, e2⟩
  have hbo : ∀ {Q : Type} (K : GV → Heap → Option Q), kbox (.agg M) [] K = K (.ptr 0 0 3) [M] := fun K => by rw [kbox_agg, hML]; rfl
  have hb1 : ∀ {Q : Type} (K : GV → Heap → Option Q), kbox (.int .i64 i) [M] K = K (.ptr 1 0 1) [M, [.int .i64 i]] := fun K => rfl
  have hal : ∀ {Q : Type} (K : GV → Heap → Option Q), kalloc [.nils, .nils, .nils] [M, [.int .i64 i]] K = K (.ptr 2 0 3) H0 := fun K => by rw [kalloc_eq, ← hH0]; rfl
  have t2 : kF false HH fn.impl_changed [.agg M, .fn fn.impl_Fall_1 [.ptr 1 0 1]] H0 = kF false HH fn.impl_changed [.agg M, .fn fn.impl_Fall_1 [.fp true [.int .i64 i]]] H0 := by
    have b1 : bor 9 H0 (.fn fn.impl_Fall_1 [.ptr 1 0 1]) = some (.fn fn.impl_Fall_1 [.fp true [.int .i64 i]], [1]) := by rw [← hH0]; rfl
    have b2 : bor 9 H0 (.fn fn.impl_Fall_1 [.fp true [.int .i64 i]]) = some (.fn fn.impl_Fall_1 [.fp true [.int .i64 i]], []) := rfl
    first | rfl | (rw [kF_OO, kF_OO]; simp only [bors_cons, bors_nil, bM, b1, b2, Option.bind_some])
  simp [S.impl_Fall.run, hbo, hb1, hal, kloadA_at A0 hML, t2, t1, s1, l2, e1, -kF_OO, -kloadA_ptr, -kstore_ptr, -kbox_agg, -kalloc_eq]
end Go.Proofs.Ytlbnioapepelnaa.G

namespace Go.Proofs.Ytlbnioapepelnaa.G
open Go.RowKit
theorem up_shortF {us : List (List Int)} {j : Nat} (hj : j < us.length) (hz : zInt64SS us ≤ 1048576) : us[j].length + 1 ≤ 1048576 := by
  unfold zInt64SS at hz
  have : us[j].length ≤ _ := sum_mem (c := fun x : List Int => zInt64S x) (List.getElem_mem hj)
  omega
theorem erase_mem {α : Type} {l : List α} {j : Nat} {x : α} (h : x ∈ l.eraseIdx j) : x ∈ l := (List.eraseIdx_sublist (l := l) (k := j)).subset h
theorem ok_sv {xs : CServers} (h : ∀ s ∈ xs, okServer s) (j : Nat) : okServer (sv xs j) := by
  unfold sv
  cases e : xs[j]? with
  | none => exact ⟨by simp, by simp⟩
  | some s => exact h s (List.mem_of_getElem? e)
theorem fallM_ok (a : ChainT) (hm : okChain a) (hz : zChain a ≤ 1048576) (i : Int) : okChain (onM a (fallM a i)).1 := by
  refine onM_ok fun hP => ?_
  have hu : zInt64SS a.2.2 ≤ 1048576 := by unfold zChain at hz; omega
  unfold fallM
  split
  case isFalse => exact hm
  have l1 : ∀ j, (a.1.eraseIdx j).length ≤ 1048576 := fun j => Nat.le_trans (List.eraseIdx_sublist ..).length_le hm.1.1
  have l2 : ∀ j, (a.2.1.eraseIdx j).length ≤ 1048576 := fun j => Nat.le_trans (List.eraseIdx_sublist ..).length_le hm.2.1.1
  have l3 : ∀ j, (a.2.2.eraseIdx j).length ≤ 1048576 := fun j => Nat.le_trans (List.eraseIdx_sublist ..).length_le hm.2.2.1
  have s1 : ∀ j, ∀ s ∈ a.1.eraseIdx j, okServer s := fun j s h => hm.1.2 s (erase_mem h)
  have s2 : ∀ j, ∀ s ∈ a.2.1.eraseIdx j, okStringS s := fun j s h => hm.2.1.2 s (erase_mem h)
  have s3 : ∀ j, ∀ s ∈ a.2.2.eraseIdx j, okInt64S s := fun j s h => hm.2.2.2 s (erase_mem h)
  generalize i.toNat = j
  unfold fallC
  split
  · exact ⟨⟨l1 _, s1 _⟩, ⟨l2 _, s2 _⟩, ⟨l3 _, s3 _⟩⟩
  split
  · unfold fallLast
    refine ⟨⟨by rw [List.length_set]; exact l1 _, fun s h => ?_⟩, ⟨l2 _, s2 _⟩, ?_⟩
    · rcases mem_set_or h with h | h
      · exact s1 _ s h
      · rw [h]; exact ok_sv (s1 _) _
    · split
      · refine ⟨by rw [List.length_set]; exact l3 _, fun s h => ?_⟩
        rcases mem_set_or h with h | h
        · exact s3 _ s h
        · rw [h]
          show ((_ : List Int) ++ _).length ≤ 1048576
          rw [List.length_append, List.length_singleton]
          cases e : (a.2.2.eraseIdx (j - 1))[j - 2]? with
          | none => simp
          | some u =>
            have hmem := erase_mem (List.mem_of_getElem? e)
            obtain ⟨k, hk, hku⟩ := List.getElem_of_mem hmem
            have := up_shortF hk hu
            rw [hku] at this
            exact this
      · exact ⟨l3 _, s3 _⟩
  · unfold fallMid
    refine ⟨⟨l1 _, s1 _⟩, ⟨by rw [List.length_set]; exact l2 _, fun s h => ?_⟩, ⟨by rw [List.length_set]; exact l3 _, fun s h => ?_⟩⟩
    · rcases mem_set_or h with h | h
      · exact s2 _ s h
      · rw [h]
        have ho := ok_sv (s1 j) (j - 1)
        exact ⟨by rw [List.length_drop]; have := ho.1; omega, fun x hx => ho.2 x (List.mem_of_mem_drop hx)⟩
    · rcases mem_set_or h with h | h
      · exact s3 _ s h
      · rw [h]
        show (if _ then _ else _ : List Int).length ≤ 1048576
        split <;> simp
end Go.Proofs.Ytlbnioapepelnaa.G

namespace Go.Proofs.Ytlbnioapepelnaa.G
open Go.RowKit

/-! What does not touch a block does the same when that block is another. -/
theorem kload1_set {H : Heap} {b bU o t : Nat} {c : List GV} (h : b ≠ bU) : kload1 (H.set bU c) (.ptr b o t) = kload1 H (.ptr b o t) := by
  rw [kload1_ptr, kload1_ptr, cellsAt_if, cellsAt_if, List.getElem?_set_ne (Ne.symm h)]
theorem kapp_set {z : List GV} {es b q bU : Nat} {v v' : GV} {H H' : Heap} {c : List GV} (h : kapp z es b v (.sl q 0 1 1 es) H = some (v', H')) (hq : q ≠ bU) (hv : bU ∉ kblk v) (hb : bU < H.length) : kapp z es b v (.sl q 0 1 1 es) (H.set bU c) = some (v', H'.set bU c) := by
  have hg : gcells (H.set bU c) es (.sl q 0 1 1 es) = gcells H es (.sl q 0 1 1 es) := by
    unfold gcells
    simp only [cellsAt_if, List.getElem?_set_ne (Ne.symm hq)]
  unfold kapp at h ⊢
  rw [hg]
  obtain ⟨⟨n, new, l⟩, h1, h2⟩ := obsi.1 h
  rw [h1]
  simp only [Option.bind_some] at h2 ⊢
  by_cases hc : new.all GV.isCell = true ∧ z.length = es ∧ n ≤ maxLen ∧ n * b ≤ roomMax
  case neg => rw [if_neg hc] at h2; cases h2
  rw [if_pos hc] at h2 ⊢
  cases v with
  | nils =>
    simp only at h2 ⊢
    by_cases h0 : n = 0
    · rw [if_pos h0] at h2 ⊢; cases h2; rfl
    · rw [if_neg h0] at h2 ⊢; cases h2; rw [List.length_set, List.set_append_left _ _ hb]
  | emp =>
    simp only at h2 ⊢
    by_cases h0 : n = 0
    · rw [if_pos h0] at h2 ⊢; cases h2; rfl
    · rw [if_neg h0] at h2 ⊢; cases h2; rw [List.length_set, List.set_append_left _ _ hb]
  | sl i off len cap es' =>
    have hi : i ≠ bU := fun e => hv (by rw [e]; simp)
    simp only at h2 ⊢
    obtain ⟨cs, h3, h4⟩ := obsi.1 h2
    have h3' : cellsAt (H.set bU c) i (off + cap * es') = some cs := by
      rw [cellsAt_if, List.getElem?_set_ne (Ne.symm hi), ← cellsAt_if]; exact h3
    rw [h3']
    simp only [Option.bind_some]
    by_cases k1 : es' = es ∧ len ≤ cap ∧ (len + n) * b ≤ roomMax ∧ len + n ≤ maxLen
    case neg => rw [if_neg k1] at h4; cases h4
    rw [if_pos k1] at h4 ⊢
    by_cases k2 : len + n ≤ cap
    · rw [if_pos k2] at h4 ⊢; cases h4; rw [List.set_comm _ _ (Ne.symm hi)]
    · rw [if_neg k2] at h4 ⊢
      by_cases k3 : off = 0 ∧ 0 < es
      · rw [if_pos k3] at h4 ⊢; cases h4; rw [List.set_comm _ _ (Ne.symm hi)]
      · rw [if_neg k3] at h4; cases h4
  | _ => cases h2
theorem All3_fl {α : Type} {mk : α → List GV} {h : Heap} {css : List (List GV)} {xs : List α} {Rs : List (List Nat)} (ha : All3 (RFl mk h) css xs Rs) : css.flatten = xs.flatMap mk ∧ Rs.flatten = [] := by
  induction ha with
  | nil => exact ⟨rfl, rfl⟩
  | cons a _ ih =>
    obtain ⟨rfl, rfl⟩ := a
    exact ⟨by rw [List.flatten_cons, ih.1]; rfl, by rw [List.flatten_cons, ih.2]; rfl⟩
theorem rFl_some {α : Type} {mk : α → List GV} {h : Heap} {v : GV} {xs : List α} {R : List Nat} (he : RSl 1 (RFl mk) h [v] xs R) (hne : 0 < xs.length) : ∃ b, v = .sl b 0 xs.length xs.length 1 ∧ h[b]? = some (xs.flatMap mk) ∧ R = [b] := by
  rcases he with ⟨rfl, _, _⟩ | ⟨b, css, Rs, hv, hb, ha, rfl⟩
  · cases hne
  · injection hv with hv
    obtain ⟨e1, e2⟩ := All3_fl ha
    exact ⟨b, hv, by rw [hb, e1], by rw [e2]⟩
theorem set_same {H : Heap} {b : Nat} {c : List GV} (h : H[b]? = some c) : H.set b c = H := by
  obtain ⟨hb, rfl⟩ := List.getElem?_eq_some_iff.1 h
  exact List.set_getElem_self hb
theorem ChainIn.downSet {p lo : Nat} {a : ChainT} {H : Heap} {vS vD vU : GV} {RS RD RU : List Nat} (h : ChainIn p lo a H vS vD vU RS RD RU) {i : Nat} (hi : i < a.2.1.length) {v' : GV} {x' : List ByteArray} {R' : List Nat} {q : Nat} (hv' : rStringS H [v'] x' R') (nd' : R'.Nodup) (hb' : ∀ j ∈ R', q ≤ j) (hq : ∀ i, i ∈ RS ∨ i ∈ RD ∨ i ∈ RU → i < q) (hlq : lo ≤ q) (hpq : p < q) :
    ∃ b H5 RD', vD = .sl b 0 a.2.1.length a.2.1.length 1 ∧ b ∈ RD ∧ kstore 1 H (.ptr b i a.2.1.length) v' = some H5 ∧ ChainIn p lo (a.1, a.2.1.set i x', a.2.2) H5 vS vD vU RS RD' RU ∧ Fr RD H H5 ∧ (∀ i ∈ RD', i ∈ RD ∨ q ≤ i) := by
  obtain ⟨b, css, c, R1, hv, hb, hcn, hc, fe, E1, hbr, hbR, hrR, nd0, hup⟩ := RSl.focus2 goodStringS h.d h.nd hi
  obtain ⟨vL, rfl⟩ := List.length_eq_one_iff.1 (goodStringS.len E1)
  have hb0 : H[b]? = some (css.set i [vL]).flatten := by rw [set_get_self hc]; exact hb
  have vc := cell_of hv'
  obtain ⟨H5, s5, hb5, f5⟩ := st_leaf (es := 1) (off := 0) (o := i) (tot := a.2.1.length) (x := v') hb0 fe hcn hi rfl (by omega) vc.1 vc.2 (by omega) (by omega)
  have hbq : b < q := hq b (Or.inr (Or.inl hbR))
  have a2' := goodStringS.keep hv' f5 (fun j hj h' => by
    rw [List.mem_singleton] at h'
    have := hb' j hj
    omega)
  obtain ⟨RS', q1, q2, q3⟩ := hup H5 _ _ R' hb5 a2' nd' (fun j hj => Or.inr (fun h3 => by have := hq j (Or.inr (Or.inl h3)); have := hb' j hj; omega)) (fun j hj hjb hjr => f5.2 j (goodStringSS.mem h.d j hj) (by simpa using hjb))
  have fr : Fr RD H H5 := f5.sub (fun j hj => by rw [List.mem_singleton] at hj; rw [hj]; exact hbR)
  have hk : ∀ j ∈ RS', j ∈ RD ∨ q ≤ j := fun j hj => (q3 j hj).elim Or.inl (fun h2 => Or.inr (hb' j h2))
  exact ⟨b, H5, RS', hv, hbR, s5, h.withD q1 q2 hk fr hq hlq hpq, fr, hk⟩
theorem kstore_set {n b bU o t : Nat} {x : GV} {H H' : Heap} {c : List GV} (h : kstore n H (.ptr b o t) x = some H') (hb : b ≠ bU) : kstore n (H.set bU c) (.ptr b o t) x = some (H'.set bU c) := by
  rw [kstore_ptr] at h ⊢
  split at h
  case isFalse => cases h
  rename_i hc
  rw [if_pos hc]
  obtain ⟨cs, h1, h2⟩ := obsi.1 h
  rw [cellsAt_if] at h1 ⊢
  rw [List.getElem?_set_ne (Ne.symm hb), h1]
  simp only [Option.bind_some] at h2 ⊢
  split at h2
  · rename_i hl
    rw [if_pos hl]
    cases h2
    rw [List.set_comm _ _ (Ne.symm hb)]
  · cases h2
end Go.Proofs.Ytlbnioapepelnaa.G

namespace Go.Proofs.Ytlbnioapepelnaa.G
open Go.RowKit
theorem fr_app {H T : Heap} : Fr [] H (H ++ T) := .app
theorem kapp_fr {z : List GV} {es b : Nat} {v w v' : GV} {H H' : Heap} (e : kapp z es b v w H = some (v', H')) : Fr (kblk v) H H' ∧ ∀ i ∈ kblk v', i ∈ kblk v ∨ H.length ≤ i := by
  unfold kapp at e
  obtain ⟨⟨n, new, l⟩, h1, h2⟩ := obsi.1 e
  simp only at h2
  split at h2
  case isFalse => cases h2
  split at h2
  · split at h2
    · injection h2 with h2; injection h2 with h3 h4; subst h3; subst h4; exact ⟨.refl, fun i hi => by cases hi⟩
    · injection h2 with h2; injection h2 with h3 h4; subst h3; subst h4; exact ⟨fr_app.sub (fun _ h => by cases h), fun i hi => by simp [kblk] at hi; omega⟩
  · split at h2
    · injection h2 with h2; injection h2 with h3 h4; subst h3; subst h4; exact ⟨.refl, fun i hi => by cases hi⟩
    · injection h2 with h2; injection h2 with h3 h4; subst h3; subst h4; exact ⟨fr_app.sub (fun _ h => by cases h), fun i hi => by simp [kblk] at hi; omega⟩
  · rename_i i off len cap es'
    obtain ⟨cs, h3, h4⟩ := obsi.1 h2
    split at h4
    case isFalse => cases h4
    split at h4
    · injection h4 with h4; injection h4 with h5 h6; subst h5; subst h6; exact ⟨.set (by simp [kblk]), fun k hk => .inl (by simpa [kblk] using hk)⟩
    · split at h4
      · injection h4 with h4; injection h4 with h5 h6; subst h5; subst h6; exact ⟨.set (by simp [kblk]), fun k hk => .inl (by simpa [kblk] using hk)⟩
      · cases h4
  · cases h2
theorem app_own {α : Type} {es d b : Nat} {mk : α → List GV} {E : Rel α} (hE : Good es d mk E) (h0 : 0 < es) {z : List GV} (hz : z.length = es) (hb : b ≤ 1024) {H : Heap} {v : GV} {xs : List α} {R : List Nat} (he : RSl es E H [v] xs R) (nd : R.Nodup) (hn : xs.length ≤ 4194304)
    {cx : List GV} {x : α} {Rx : List Nat} (hx : E H cx x Rx) (nx : Rx.Nodup) (hd : ∀ i ∈ Rx, i ∉ R) :
    ∃ v' H' R', kapp z es b v (.sl H.length 0 1 1 es) (H ++ [cx]) = some (v', H') ∧ RSl es E H' [v'] (xs ++ [x]) R' ∧ R'.Nodup ∧ (∀ i ∈ R', i ∈ R ∨ i ∈ Rx ∨ H.length ≤ i) ∧ Fr (kblk v) H H' ∧ (v'.cells = [v'] ∧ v'.isCell = true) ∧ ∀ i ∈ kblk v', i ∈ kblk v ∨ H.length ≤ i := by
  obtain ⟨v', H', R', a1, a2, a3, a4, a5, a6, _⟩ := app_sl hE h0 hz hb (H := H ++ [cx]) ((RSl.good hE).grow he) nd hn (hE.grow hx) nx hd (q := H.length) (by simp)
  obtain ⟨f1, f2⟩ := kapp_fr a1
  refine ⟨v', H', R', a1, a2, a3, fun i hi => ?_, (Fr.app (t := [cx])).trans (f1.sub (fun _ h => h)) |>.sub (fun _ h => h), a6, fun i hi => ?_⟩
  · rcases a4 i hi with h | h | h
    · exact .inl h
    · exact .inr (.inl h)
    · rw [List.length_append] at h; simp at h; exact .inr (.inr (by omega))
  · rcases f2 i hi with h | h
    · exact .inl h
    · rw [List.length_append] at h; simp at h; exact .inr (by omega)
theorem app_flat {α : Type} {b : Nat} {mk : α → List GV} (hm1 : ∀ x, (mk x).length = 1) (hmc : ∀ x, (mk x).all GV.isCell = true) {z : List GV} (hz : z.length = 1) (hb : b ≤ 1024) {H : Heap} {v w : GV} {xs ys : List α} {R S : List Nat} (he : RSl 1 (RFl mk) H [v] xs R) (hw : RSl 1 (RFl mk) H [w] ys S) (hd : ∀ i ∈ S, i ∉ R) (hn : xs.length + ys.length ≤ 4194304) :
    ∃ v' H' R', kapp z 1 b v w H = some (v', H') ∧ RSl 1 (RFl mk) H' [v'] (xs ++ ys) R' ∧ R'.Nodup ∧ (∀ i ∈ R', i ∈ R ∨ H.length ≤ i) ∧ Fr (kblk v) H H' := by
  have hmul : ∀ k, k ≤ 4194304 → k * b ≤ roomMax := fun k hk => by
    have := Nat.mul_le_mul hk hb
    simp only [roomMax]; omega
  have lf : ∀ l : List α, (l.flatMap mk).length = l.length := fun l => by have := len_flat (mk := mk) (es := 1) hm1 l; omega
  have cf : ∀ l : List α, (l.flatMap mk).all GV.isCell = true := fun l => by
    rw [List.all_eq_true]; intro g hg
    obtain ⟨x, _, hx⟩ := List.mem_flatMap.1 hg
    have := hmc x; rw [List.all_eq_true] at this; exact this g hx
  obtain ⟨r, hg⟩ : ∃ r, gcells H 1 w = some (ys.length, ys.flatMap mk, r) := by
    by_cases hy : 0 < ys.length
    · obtain ⟨j, rfl, hj, rfl⟩ := rFl_some hw hy
      refine ⟨[j], ?_⟩
      unfold gcells
      simp only [Option.bind_eq_bind, cellsAt_if, hj, Option.bind_some, Nat.zero_add, lf, Nat.mul_one, if_true, List.drop_zero, Nat.le_refl]
      rw [List.take_of_length_le (by rw [lf]; omega)]
      simp
    · have := List.eq_nil_of_length_eq_zero (l := ys) (by omega)
      subst this
      rcases hw with ⟨_, _, hc⟩ | ⟨j, css, Rs, hv, hj, ha, _⟩
      · rcases hc with hc | hc <;> (injection hc with hc; subst hc; exact ⟨[], rfl⟩)
      · injection hv with hv
        subst hv
        cases ha
        refine ⟨[j], ?_⟩
        unfold gcells
        simp [hj]
  by_cases hx : 0 < xs.length
  · obtain ⟨i, rfl, hi, rfl⟩ := rFl_some he hx
    have hil := (List.getElem?_eq_some_iff.1 hi).1
    refine ⟨.sl i 0 (xs ++ ys).length (xs ++ ys).length 1, H.set i ((xs ++ ys).flatMap mk), [i], ?_, rNew (List.getElem?_set_self hil), by simp, fun k hk => .inl hk, .set (by simp [kblk])⟩
    unfold kapp
    rw [hg]
    simp only [Option.bind_some]
    rw [if_pos ⟨cf _, hz, by simp only [maxLen]; omega, hmul _ (by omega)⟩]
    simp only [Nat.zero_add, cellsAt_if, hi, Option.bind_some, lf, Nat.mul_one, if_true]
    rw [if_pos ⟨trivial, Nat.le_refl _, hmul _ hn, by simp only [maxLen]; omega⟩]
    by_cases hy : ys.length = 0
    · have := List.eq_nil_of_length_eq_zero hy
      subst this
      rw [if_pos (by simp)]
      simp [splice]
    · rw [if_neg (by omega), if_pos ⟨trivial, by omega⟩, List.length_append, List.flatMap_append, List.take_of_length_le (by rw [lf]; omega)]
  · have := List.eq_nil_of_length_eq_zero (l := xs) (by omega)
    subst this
    have hv : v = .emp ∨ v = .nils ∨ ∃ i, v = .sl i 0 0 0 1 ∧ H[i]? = some [] ∧ R = [i] := by
      rcases he with ⟨_, _, hc⟩ | ⟨j, css, Rs, hv, hj, ha, hR⟩
      · rcases hc with hc | hc <;> (injection hc with hc; subst hc; simp)
      · injection hv with hv
        cases ha
        exact .inr (.inr ⟨j, hv, by simpa using hj, by simpa using hR⟩)
    by_cases hy : ys.length = 0
    · have := List.eq_nil_of_length_eq_zero hy
      subst this
      refine ⟨v, H, R, ?_, he, ?_, fun i hi => .inl hi, .refl⟩
      · unfold kapp
        rw [hg]
        simp only [Option.bind_some]
        rw [if_pos ⟨rfl, hz, by simp [maxLen], hmul _ (by simp)⟩]
        rcases hv with rfl | rfl | ⟨i, rfl, hi, _⟩
        · rfl
        · rfl
        · simp [cellsAt_if, hi, splice, roomMax, maxLen]
          obtain ⟨h1, h2⟩ := List.getElem?_eq_some_iff.1 hi
          conv => lhs; rw [← h2]
          exact List.set_getElem_self h1
      · rcases hv with rfl | rfl | ⟨i, rfl, hi, hR⟩
        · rcases he with ⟨_, hR, _⟩ | ⟨j, css, Rs, hv, _⟩
          · rw [hR]; simp
          · cases hv
        · rcases he with ⟨_, hR, _⟩ | ⟨j, css, Rs, hv, _⟩
          · rw [hR]; simp
          · cases hv
        · rw [hR]; simp
    · rcases hv with rfl | rfl | ⟨i, rfl, hi, hR⟩
      · refine ⟨.sl H.length 0 ys.length ys.length 1, H ++ [ys.flatMap mk], [H.length], ?_, by rw [List.nil_append]; exact rNew (by simp), by simp, fun i hi => .inr (by simp at hi; omega), fr_app.sub (fun _ h => by cases h)⟩
        unfold kapp
        rw [hg]
        simp only [Option.bind_some]
        rw [if_pos ⟨cf _, hz, by simp only [maxLen]; simp at hn; omega, hmul _ (by simpa using hn)⟩, if_neg hy]
      · refine ⟨.sl H.length 0 ys.length ys.length 1, H ++ [ys.flatMap mk], [H.length], ?_, by rw [List.nil_append]; exact rNew (by simp), by simp, fun i hi => .inr (by simp at hi; omega), fr_app.sub (fun _ h => by cases h)⟩
        unfold kapp
        rw [hg]
        simp only [Option.bind_some]
        rw [if_pos ⟨cf _, hz, by simp only [maxLen]; simp at hn; omega, hmul _ (by simpa using hn)⟩, if_neg hy]
      · have hil := (List.getElem?_eq_some_iff.1 hi).1
        refine ⟨.sl i 0 ys.length ys.length 1, H.set i (ys.flatMap mk), [i], ?_, by rw [List.nil_append]; exact rNew (List.getElem?_set_self hil), by simp, fun k hk => .inl (by rw [hR]; exact hk), .set (by simp [kblk])⟩
        unfold kapp
        rw [hg]
        simp only [Option.bind_some]
        rw [if_pos ⟨cf _, hz, by simp only [maxLen]; simp at hn; omega, hmul _ (by simpa using hn)⟩]
        simp only [Nat.zero_add, cellsAt_if, hi, Option.bind_some, Nat.zero_mul, List.length_nil, if_true]
        rw [if_pos ⟨trivial, Nat.le_refl _, hmul _ (by simpa using hn), by simp only [maxLen]; simp at hn; omega⟩, if_neg (by omega), if_pos ⟨trivial, by omega⟩]
        simp
end Go.Proofs.Ytlbnioapepelnaa.G

namespace Go.Proofs.Ytlbnioapepelnaa.G
open Go.RowKit
theorem open1 {α : Type} {d : Nat} {mk : α → List GV} {E : Rel α} (hE : Good 1 d mk E) {H : Heap} {v : GV} {xs : List α} {R : List Nat} (he : RSl 1 E H [v] xs R) (nd : R.Nodup) (h0 : 0 < xs.length) :
    ∃ (b : Nat) (w : Nat → GV) (F : Nat → List Nat), v = .sl b 0 xs.length xs.length 1 ∧ b ∈ R ∧ (∀ H' : Heap, H'[b]? = H[b]? → ∀ m, m < xs.length → kload1 H' (.ptr b m xs.length) = some (w m)) ∧ (∀ m (hm : m < xs.length), E H [w m] xs[m] (F m) ∧ (F m).Nodup ∧ ∀ i ∈ F m, i ∈ R) ∧ ∀ m m', m < xs.length → m' < xs.length → m ≠ m' → ∀ i ∈ F m, i ∉ F m' := by
  rcases he with ⟨rfl, _, _⟩ | ⟨b, css, Rs, hv, hb, ha, rfl⟩
  · cases h0
  injection hv with hv
  obtain ⟨fl, fe⟩ := All3.flen (fun h => hE.len h) ha
  have hl := ha.len
  rw [List.nodup_cons] at nd
  have key : ∀ {css : List (List GV)} {xs : List α} {Rs : List (List Nat)}, All3 (E H) css xs Rs → Rs.flatten.Nodup → (∀ m (hm : m < xs.length), ∃ w, css.flatten[m]? = some w ∧ E H [w] xs[m] (Rs[m]?.getD []) ∧ (Rs[m]?.getD []).Nodup ∧ ∀ i ∈ Rs[m]?.getD [], i ∈ Rs.flatten) ∧ ∀ m m', m < xs.length → m' < xs.length → m ≠ m' → ∀ i ∈ Rs[m]?.getD [], i ∉ Rs[m']?.getD [] := by
    intro css xs Rs h
    induction h with
    | nil => exact fun _ => ⟨fun m hm => (by cases hm), fun m m' hm => (by cases hm)⟩
    | @cons c x r css xs Rs a t ih =>
      intro nd
      rw [List.flatten_cons, List.nodup_append] at nd
      obtain ⟨n1, n2, n3⟩ := nd
      obtain ⟨i1, i2⟩ := ih n2
      obtain ⟨w, rfl⟩ := List.length_eq_one_iff.1 (hE.len a)
      refine ⟨fun m hm => ?_, fun m m' hm hm' hne i hi hi' => ?_⟩
      · cases m with
        | zero => exact ⟨w, rfl, a, n1, fun i hi => by rw [List.flatten_cons, List.mem_append]; exact .inl hi⟩
        | succ m =>
          obtain ⟨w', q1, q2, q3, q4⟩ := i1 m (Nat.lt_of_succ_lt_succ hm)
          exact ⟨w', q1, q2, q3, fun i hi => by rw [List.flatten_cons, List.mem_append]; exact .inr (q4 i hi)⟩
      · cases m with
        | zero =>
          cases m' with
          | zero => exact hne rfl
          | succ m' =>
            obtain ⟨_, _, _, _, q4⟩ := i1 m' (Nat.lt_of_succ_lt_succ hm')
            exact n3 i hi i (q4 i hi') rfl
        | succ m =>
          obtain ⟨_, _, _, _, q4⟩ := i1 m (Nat.lt_of_succ_lt_succ hm)
          cases m' with
          | zero => exact n3 i hi' i (q4 i hi) rfl
          | succ m' => exact i2 m m' (Nat.lt_of_succ_lt_succ hm) (Nat.lt_of_succ_lt_succ hm') (fun e => hne (by rw [e])) i hi hi'
  obtain ⟨k1, k2⟩ := key ha nd.2
  refine ⟨b, fun m => css.flatten[m]?.getD .nils, fun m => Rs[m]?.getD [], hv, List.mem_cons_self .., fun H' hH m hm => ?_, fun m hm => ?_, k2⟩
  · obtain ⟨w, q1, _⟩ := k1 m hm
    rw [kload1_at (hH.trans hb) (by rw [fl, Nat.mul_one])]
    show css.flatten[m]? = some (css.flatten[m]?.getD .nils)
    rw [q1]; rfl
  · obtain ⟨w, q1, q2, q3, q4⟩ := k1 m hm
    simp only [q1, Option.getD_some]
    exact ⟨q2, q3, fun i hi => List.mem_cons_of_mem _ (q4 i hi)⟩
theorem eraseS {H : Heap} {vS : GV} {xs : CServers} {RS : List Nat} (hs : rServerS H [vS] xs RS) (nd : RS.Nodup) {j : Nat} (hj : j < xs.length) (h2 : 2 ≤ xs.length) (h5 : xs.length ≤ 1000) :
    ∃ w1 w2 v1 H1 H2 R', ksl 2 vS none (some (.int .i64 (j : Int))) none = some w1 ∧ kapp [.nils, .int .i64 0] 2 32 .emp w1 H = some (v1, H1) ∧ ksl 2 vS (some (.int .i64 ((j + 1 : Nat) : Int))) none none = some w2 ∧ kapp [.nils, .int .i64 0] 2 32 v1 w2 H1 = some (.sl H.length 0 (xs.length - 1) (xs.length - 1) 2, H2) ∧ rServerS H2 [.sl H.length 0 (xs.length - 1) (xs.length - 1) 2] (xs.eraseIdx j) R' ∧ R'.Nodup ∧ (∀ i ∈ R', i ∈ RS ∨ H.length ≤ i) ∧ Fr [] H H1 ∧ Fr [] H H2 := by
  rcases hs with ⟨rfl, _, _⟩ | ⟨b, css, Rs, hv, hb, ha, rfl⟩
  · cases hj
  injection hv with hv
  subst hv
  obtain ⟨fl, fe⟩ := All3.flen (fun h => goodServer.len h) ha
  have hcell := All3.cellsG goodServer ha
  have hcl : css.length = xs.length := by have := ha.len; omega
  obtain ⟨r, hr⟩ : ∃ r, xs.length = j + 1 + r := ⟨xs.length - (j + 1), by omega⟩
  have hbl := (List.getElem?_eq_some_iff.1 hb).1
  obtain ⟨C, hC⟩ : ∃ C, css.flatten = C := ⟨_, rfl⟩
  have er := flat_erase fe j (by omega)
  rw [hC] at hb fl hcell er
  have tc : (C.take (j * 2)).all GV.isCell = true := by
    rw [List.all_eq_true] at hcell ⊢; exact fun g hg => hcell g (List.mem_of_mem_take hg)
  have dc : (C.drop ((j + 1) * 2)).all GV.isCell = true := by
    rw [List.all_eq_true] at hcell ⊢; exact fun g hg => hcell g (List.mem_of_mem_drop hg)
  have tl : (C.take (j * 2)).length = j * 2 := by rw [List.length_take]; omega
  have dl : (C.drop ((j + 1) * 2)).length = r * 2 := by rw [List.length_drop]; omega
  obtain ⟨T, hT⟩ : ∃ T, C.take (j * 2) = T := ⟨_, rfl⟩
  obtain ⟨D, hD⟩ : ∃ D, C.drop ((j + 1) * 2) = D := ⟨_, rfl⟩
  have g1 : ∀ H' : Heap, H'[b]? = some C → gcells H' 2 (.sl b 0 j xs.length 2) = some (j, T, [b]) := fun H' h => by
    unfold gcells
    simp only [Option.bind_eq_bind, cellsAt_if, h, Option.bind_some, Nat.zero_add]
    rw [if_pos fl]
    simp only [Option.bind_some, List.drop_zero, hT]
    rw [if_pos ⟨trivial, by omega⟩]
  have g2 : ∀ H' : Heap, H'[b]? = some C → gcells H' 2 (.sl b ((j + 1) * 2) r r 2) = some (r, D, [b]) := fun H' h => by
    unfold gcells
    simp only [Option.bind_eq_bind, cellsAt_if, h, Option.bind_some]
    rw [if_pos (by rw [fl, hr]; omega)]
    simp only [Option.bind_some, hD]
    rw [if_pos ⟨trivial, Nat.le_refl _⟩, List.take_of_length_le (by rw [← hD, dl]; omega)]
  have k1 : ksl 2 (.sl b 0 xs.length xs.length 2) none (some (.int .i64 (j : Int))) none = some (.sl b 0 j xs.length 2) := by
    simp only [ksl, kslice, gslice, gopt, gint, if_true, Option.isSome_none, Bool.false_eq_true, false_and, if_false, Option.bind_eq_bind, Option.bind_some]
    rw [if_pos ⟨by omega, by omega, by omega, by omega⟩]
    simp
  have k2 : ksl 2 (.sl b 0 xs.length xs.length 2) (some (.int .i64 ((j + 1 : Nat) : Int))) none none = some (.sl b ((j + 1) * 2) r r 2) := by
    simp only [ksl, kslice, gslice, gopt, gint, if_true, Option.isSome_none, Bool.false_eq_true, false_and, if_false, Option.bind_eq_bind, Option.bind_some]
    rw [if_pos ⟨by omega, by omega, by omega, by omega⟩]
    have : xs.length - (j + 1) = r := by omega
    simp [this]
    try omega
  have hl : (xs.eraseIdx j).length = xs.length - 1 := by rw [List.length_eraseIdx, if_pos hj]
  rw [List.nodup_cons] at nd
  have hsub := flat_sub (List.eraseIdx_sublist (l := Rs) (k := j))
  have big : ∀ n, n ≤ 1000 → n * 32 ≤ roomMax := fun n hn => by simp only [roomMax]; omega
  have zl : ([.nils, .int .i64 0] : List GV).length = 2 := rfl
  have fin : ∀ H2 : Heap, H2[H.length]? = some (T ++ D) → Fr [] H H2 → rServerS H2 [.sl H.length 0 (xs.length - 1) (xs.length - 1) 2] (xs.eraseIdx j) (H.length :: (Rs.eraseIdx j).flatten) := fun H2 h f => by
    refine .inr ⟨H.length, css.eraseIdx j, Rs.eraseIdx j, by rw [hl], ?_, ?_, rfl⟩
    · rw [h, er, hT, hD]
    · refine All3.frame (fun a b => goodServer.frame a b) (ha.erase j) fun i hi => f.2 i ?_ no_nil
      exact All3.mem (fun a => goodServer.mem a) ha i (hsub.subset hi)
  have nd' : (H.length :: (Rs.eraseIdx j).flatten).Nodup := by
    rw [List.nodup_cons]
    exact ⟨fun h => by have := All3.mem (fun a => goodServer.mem a) ha _ (hsub.subset h); omega, nd.2.sublist hsub⟩
  have mem' : ∀ i ∈ (H.length :: (Rs.eraseIdx j).flatten), i ∈ b :: Rs.flatten ∨ H.length ≤ i := fun i hi => by
    rcases List.mem_cons.1 hi with rfl | hi
    · exact .inr (Nat.le_refl _)
    · exact .inl (List.mem_cons_of_mem _ (hsub.subset hi))
  by_cases j0 : j = 0
  · have hT0 : T = [] := by rw [← hT, j0]; simp
    have a1 : kapp [.nils, .int .i64 0] 2 32 .emp (.sl b 0 j xs.length 2) H = some (.emp, H) := by
      unfold kapp
      rw [g1 H hb]
      simp only [Option.bind_some]
      rw [if_pos ⟨by rw [hT0]; rfl, zl, by simp only [maxLen]; omega, big _ (by omega)⟩, if_pos j0]
    have a2 : kapp [.nils, .int .i64 0] 2 32 .emp (.sl b ((j + 1) * 2) r r 2) H = some (.sl H.length 0 (xs.length - 1) (xs.length - 1) 2, H ++ [D]) := by
      unfold kapp
      rw [g2 H hb]
      simp only [Option.bind_some]
      rw [if_pos ⟨by rw [← hD]; exact dc, zl, by simp only [maxLen]; omega, big _ (by omega)⟩, if_neg (by omega), show r = xs.length - 1 by omega]
    refine ⟨_, _, _, _, _, _, k1, a1, k2, a2, fin _ (by rw [hT0]; simp) .app, nd', mem', .refl, .app⟩
  · have a1 : kapp [.nils, .int .i64 0] 2 32 .emp (.sl b 0 j xs.length 2) H = some (.sl H.length 0 j j 2, H ++ [T]) := by
      unfold kapp
      rw [g1 H hb]
      simp only [Option.bind_some]
      rw [if_pos ⟨by rw [← hT]; exact tc, zl, by simp only [maxLen]; omega, big _ (by omega)⟩, if_neg j0]
    have hb1 : (H ++ [T])[b]? = some C := by rw [List.getElem?_append_left hbl]; exact hb
    have a2 : kapp [.nils, .int .i64 0] 2 32 (.sl H.length 0 j j 2) (.sl b ((j + 1) * 2) r r 2) (H ++ [T]) = some (.sl H.length 0 (xs.length - 1) (xs.length - 1) 2, H ++ [T ++ D]) := by
      unfold kapp
      rw [g2 _ hb1]
      simp only [Option.bind_some]
      rw [if_pos ⟨by rw [← hD]; exact dc, zl, by simp only [maxLen]; omega, big _ (by omega)⟩]
      have e0 : (H ++ [T])[H.length]? = some T := by simp
      simp only [Nat.zero_add, cellsAt_if, e0, Option.bind_some]
      have tl' : T.length = j * 2 := by rw [← hT]; exact tl
      rw [if_pos tl']
      simp only [Option.bind_some, true_and]
      rw [if_pos ⟨Nat.le_refl _, big _ (by omega), by simp only [maxLen]; omega⟩]
      by_cases r0 : r = 0
      · have hD0 : D = [] := by
          apply List.eq_nil_of_length_eq_zero
          rw [← hD, dl, r0]
        rw [if_pos (by omega), hD0]
        have e1 : splice T (j * 2) ([] : List GV) = T := by simp [splice]
        rw [e1, show j + r = xs.length - 1 by omega]
        simp
        omega
      · rw [if_neg (by omega), if_pos (by omega), List.take_of_length_le (by omega), show j + r = xs.length - 1 by omega]
        simp
    exact ⟨_, _, _, _, _, _, k1, a1, k2, a2, fin _ (by simp) .app, nd', mem', .app, .app⟩
end Go.Proofs.Ytlbnioapepelnaa.G
