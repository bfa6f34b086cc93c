/- Fall: the reference gathers the ways between the servers that are left. Fall: the reference's change of a copy. Fall: what the reference answers. What -/
import Derived.Test.YtlbnioapepelnaaZ7cdf2900
import Derived.Test.YtlbnioapepelnaaZ7bd71aac
import Derived.KernelRfl
import Derived.Test.YtlbnioapepelnaaZ1631786c
import Derived.Test.YtlbnioapepelnaaZ0fc691a2
import Derived.ChangeOld
import Derived.OpenShut
set_option linter.unusedSimpArgs false
set_option linter.unusedVariables false
set_option maxRecDepth 100000
namespace Go.Proofs.Ytlbnioapepelnaa.G
open Go.RowKit
theorem texts_old {v : GV} {r : List Nat} {xs : List ByteArray} (hm : xs.length ≤ 4194304) {H : Heap} (hv : rStringS H [v] xs r) : ∃ v' H' R, kF false HH fn.spec_l17Texts [v] H = some (v', H') ∧ rStringS H' [v'] xs R ∧ R.Nodup ∧ (∀ i ∈ R, H.length ≤ i) ∧ Fr [] H H' := by
  obtain ⟨g, h1, h2⟩ := goodStringS.lend1 (by omega) hv
  have e : g = fzl true 1 cs xs := by have := h2; simp only [mStringS] at this; injection this with this; exact this.symm
  subst e
  obtain ⟨v', H', R, t, rest⟩ := texts_rel xs hm H
  refine ⟨v', H', R, ?_, rest⟩
  rw [kF_OO] at t ⊢
  simp only [bors_cons, bors_nil, h1, Option.bind_some, bor_cs] at t ⊢
  exact t
structure LJ (H2 : Heap) (PD PU : Nat → Prop) (xs : List (List ByteArray)) (ys : List (List Int)) (vd vu : GV) (H : Heap) (R1 R2 : List Nat) : Prop where
  fr : Fr [] H2 H
  d : rStringSS H [vd] xs R1
  u : rInt64SS H [vu] ys R2
  n1 : R1.Nodup
  n2 : R2.Nodup
  p1 : ∀ i ∈ R1, PD i ∨ H2.length ≤ i
  p2 : ∀ i ∈ R2, PU i ∨ H2.length ≤ i
  dj : ∀ i ∈ R1, i ∉ R2
  k1 : ∀ i ∈ kblk vd, H2.length ≤ i
  k2 : ∀ i ∈ kblk vu, H2.length ≤ i
theorem kblk_in {α : Type} {es : Nat} {E : Rel α} {h : Heap} {v : GV} {xs : List α} {R : List Nat} (he : RSl es E h [v] xs R) : ∀ k ∈ kblk v, k ∈ R := by
  rcases he with ⟨_, _, hc⟩ | ⟨b, css, Rs, hv, _, _, rfl⟩
  · rcases hc with hc | hc <;> (injection hc with hc; subst hc; intro k hk; cases hk)
  · injection hv with hv
    subst hv
    intro k hk
    rw [kblk_sl, List.mem_singleton] at hk
    rw [hk]; exact List.mem_cons_self ..
theorem LJ.grow {H2 : Heap} {PD PU : Nat → Prop} {xs : List (List ByteArray)} {ys : List (List Int)} {vd vu : GV} {H H' : Heap} {R1 R2 : List Nat} (h : LJ H2 PD PU xs ys vd vu H R1 R2) (f : Fr [] H H') : LJ H2 PD PU xs ys vd vu H' R1 R2 :=
  ⟨h.fr.trans f, goodStringSS.keep h.d f (fun _ _ => no_nil), goodInt64SS.keep h.u f (fun _ _ => no_nil), h.n1, h.n2, h.p1, h.p2, h.dj, h.k1, h.k2⟩
theorem LJ.weak {H2 : Heap} {PD PU QD QU : Nat → Prop} {xs : List (List ByteArray)} {ys : List (List Int)} {vd vu : GV} {H : Heap} {R1 R2 : List Nat} (h : LJ H2 PD PU xs ys vd vu H R1 R2) (hD : ∀ i, PD i → QD i) (hU : ∀ i, PU i → QU i) : LJ H2 QD QU xs ys vd vu H R1 R2 :=
  ⟨h.fr, h.d, h.u, h.n1, h.n2, fun i hi => (h.p1 i hi).imp (hD i) id, fun i hi => (h.p2 i hi).imp (hU i) id, h.dj, h.k1, h.k2⟩
theorem fr_new {H2 H H' : Heap} {l : List Nat} (f : Fr [] H2 H) (g : Fr l H H') (hl : ∀ i ∈ l, H2.length ≤ i) : Fr [] H2 H' :=
  ⟨Nat.le_trans f.1 g.1, fun i hi _ => by rw [g.2 i (Nat.lt_of_lt_of_le hi f.1) (fun h => by have := hl i h; omega), f.2 i hi no_nil]⟩
theorem LJ.pushD {H2 : Heap} {PD PU QD : Nat → Prop} {xs : List (List ByteArray)} {ys : List (List Int)} {vd vu : GV} {H : Heap} {R1 R2 : List Nat} (h : LJ H2 PD PU xs ys vd vu H R1 R2) (hn : xs.length ≤ 1000) {w : GV} {x : List ByteArray} {Rx : List Nat} (hx : rStringS H [w] x Rx) (nx : Rx.Nodup) (h1 : ∀ i ∈ Rx, i ∉ R1) (h2 : ∀ i ∈ Rx, i ∉ R2) (hq : ∀ i ∈ Rx, QD i ∨ H2.length ≤ i) (hD : ∀ i, PD i → QD i) :
    ∃ v' H' R', kapp [.nils] 1 24 vd (.sl H.length 0 1 1 1) (H ++ [[w]]) = some (v', H') ∧ LJ H2 QD PU (xs ++ [x]) ys v' vu H' R' R2 := by
  obtain ⟨v', H', R', a1, a2, a3, a4, a5, a6, a7⟩ := app_own goodStringS (by omega) (z := [.nils]) (b := 24) rfl (by omega) h.d h.n1 (by omega) hx nx h1
  have hb := kblk_in h.d
  have l0 := h.fr.1
  refine ⟨v', H', R', a1, fr_new h.fr a5 h.k1, a2, goodInt64SS.keep h.u a5 (fun i hi h' => h.dj i (hb i h') hi), a3, h.n2, fun i hi => ?_, h.p2, fun i hi hi2 => ?_, fun i hi => ?_, h.k2⟩
  · rcases a4 i hi with h' | h' | h'
    · exact (h.p1 i h').imp (hD i) id
    · exact hq i h'
    · exact .inr (by omega)
  · rcases a4 i hi with h' | h' | h'
    · exact h.dj i h' hi2
    · exact h2 i h' hi2
    · have := goodInt64SS.mem h.u i hi2; omega
  · rcases a7 i hi with h' | h'
    · exact h.k1 i h'
    · omega
theorem LJ.pushU {H2 : Heap} {PD PU QU : Nat → Prop} {xs : List (List ByteArray)} {ys : List (List Int)} {vd vu : GV} {H : Heap} {R1 R2 : List Nat} (h : LJ H2 PD PU xs ys vd vu H R1 R2) (hn : ys.length ≤ 1000) {w : GV} {x : List Int} {Rx : List Nat} (hx : rInt64S H [w] x Rx) (nx : Rx.Nodup) (h1 : ∀ i ∈ Rx, i ∉ R1) (h2 : ∀ i ∈ Rx, i ∉ R2) (hq : ∀ i ∈ Rx, QU i ∨ H2.length ≤ i) (hU : ∀ i, PU i → QU i) :
    ∃ v' H' R', kapp [.nils] 1 24 vu (.sl H.length 0 1 1 1) (H ++ [[w]]) = some (v', H') ∧ LJ H2 PD QU xs (ys ++ [x]) vd v' H' R1 R' := by
  obtain ⟨v', H', R', a1, a2, a3, a4, a5, a6, a7⟩ := app_own goodInt64S (by omega) (z := [.nils]) (b := 24) rfl (by omega) h.u h.n2 (by omega) hx nx h2
  have hb := kblk_in h.u
  have l0 := h.fr.1
  refine ⟨v', H', R', a1, fr_new h.fr a5 h.k2, goodStringSS.keep h.d a5 (fun i hi h' => h.dj i hi (hb i h')), a2, h.n1, a3, h.p1, fun i hi => ?_, fun i hi hi2 => ?_, h.k1, fun i hi => ?_⟩
  · rcases a4 i hi with h' | h' | h'
    · exact (h.p2 i h').imp (hU i) id
    · exact hq i h'
    · exact .inr (by omega)
  · rcases a4 i hi2 with h' | h' | h'
    · exact h.dj i hi h'
    · exact h1 i h' hi
    · have := goodStringSS.mem h.d i hi; omega
  · rcases a7 i hi with h' | h'
    · exact h.k2 i h'
    · omega
def dPart (j n : Nat) (ds : List (List ByteArray)) (k : Nat) : List (List ByteArray) := if k + 1 = j ∧ j + 1 < n then [ds[j]?.getD [] ++ ds[j - 1]?.getD []] else if k ≠ j ∧ k + 1 ≠ j then [ds[k]?.getD []] else []
def uPart (j n : Nat) (xs : CServers) (us : List (List Int)) (k : Nat) : List (List Int) := if k + 1 = j ∧ j + 1 < n then [if (sv xs (j - 1)).2 < (sv xs (j + 1)).2 then [(sv xs (j + 1)).2] else []] else if k ≠ j ∧ k + 1 ≠ j then [us[k]?.getD []] else []
def dTo (j n : Nat) (ds : List (List ByteArray)) (k : Nat) : List (List ByteArray) := (List.range k).flatMap (dPart j n ds)
def uTo (j n : Nat) (xs : CServers) (us : List (List Int)) (k : Nat) : List (List Int) := (List.range k).flatMap (uPart j n xs us)
theorem dTo_succ {j n : Nat} {ds : List (List ByteArray)} {k : Nat} : dTo j n ds (k + 1) = dTo j n ds k ++ dPart j n ds k := by unfold dTo; rw [List.range_succ, List.flatMap_append]; simp
theorem uTo_succ {j n : Nat} {xs : CServers} {us : List (List Int)} {k : Nat} : uTo j n xs us (k + 1) = uTo j n xs us k ++ uPart j n xs us k := by unfold uTo; rw [List.range_succ, List.flatMap_append]; simp
theorem dTo_len {j n : Nat} {ds : List (List ByteArray)} : ∀ k, (dTo j n ds k).length ≤ k
  | 0 => Nat.le_refl _
  | k + 1 => by
    have := dTo_len (j := j) (n := n) (ds := ds) k
    rw [dTo_succ, List.length_append]
    have : (dPart j n ds k).length ≤ 1 := by unfold dPart; split; simp; split <;> simp
    omega
theorem uTo_len {j n : Nat} {xs : CServers} {us : List (List Int)} : ∀ k, (uTo j n xs us k).length ≤ k
  | 0 => Nat.le_refl _
  | k + 1 => by
    have := uTo_len (j := j) (n := n) (xs := xs) (us := us) k
    rw [uTo_succ, List.length_append]
    have : (uPart j n xs us k).length ≤ 1 := by unfold uPart; split; simp; split <;> simp
    omega
theorem fall_ways {p lo : Nat} {a : ChainT} {H : Heap} {vS vD vU : GV} {RS RD RU : List Nat} (C : ChainIn p lo a H vS vD vU RS RD RU) (hm : okChain a) (hP : ChainP a.1 a.2.1 a.2.2) {j : Nat} (hj : j < a.1.length) (h2 : 2 ≤ a.1.length) (v4 v6 : GV) :
    ∃ v7 v8 H3 R1 R2, LJ H (fun i => i ∈ RD) (fun i => i ∈ RU) (dTo j a.1.length a.2.1 (a.1.length - 1)) (uTo j a.1.length a.1 a.2.2 (a.1.length - 1)) v7 v8 H3 R1 R2 ∧ ∀ G : KT7 (GV × Heap), S.spec_l17Fall.l12 32 G 32 (.ptr p 0 3) (.int .i64 (j : Int)) v4 (.int .i64 (a.1.length : Int)) v6 .emp .emp (.int .i64 ((0 : Nat) : Int)) H = G (.ext 0) (.ptr p 0 3) (.int .i64 (j : Int)) v4 (.int .i64 (a.1.length : Int)) v6 v7 v8 H3 := by
  have h5 := hP.1.2
  have hd := hP.2.1
  have hn := hP.2.2.1
  obtain ⟨bD, wD, FD, hvD, hbD, ldD, elD, djD⟩ := open1 goodStringS C.d C.nd (by omega)
  obtain ⟨bU, wU, FU, hvU, hbU, ldU, elU, djU⟩ := open1 goodInt64S C.u C.nu (by omega)
  have hpl := (List.getElem?_eq_some_iff.1 C.cell).1
  have mD := goodStringSS.mem C.d
  have mU := goodInt64SS.mem C.u
  obtain ⟨n, hN⟩ : ∃ n, a.1.length = n := ⟨_, rfl⟩
  have lD : a.2.1.length = n - 1 := by omega
  have lU : a.2.2.length = n - 1 := by omega
  rw [lD] at hvD ldD
  rw [lU] at hvU ldU
  rw [hN]
  refine Exists.elim (loop_inv (n := n - 1) (T := GV × GV × Heap) (Inv := fun k x => ∃ R1 R2, LJ H (fun i => ∃ m, m < k ∧ m < n - 1 ∧ i ∈ FD m) (fun i => ∃ m, m < k ∧ m < n - 1 ∧ i ∈ FU m) (dTo j n a.2.1 k) (uTo j n a.1 a.2.2 k) x.1 x.2.1 x.2.2 R1 R2)
    (f := fun r k x => fun (G : KT7 (GV × Heap)) => S.spec_l17Fall.l12 32 G r (.ptr p 0 3) (.int .i64 (j : Int)) v4 (.int .i64 (n : Int)) v6 x.1 x.2.1 (.int .i64 (k : Int)) x.2.2) (A := fun x => fun G => G (.ext 0) (.ptr p 0 3) (.int .i64 (j : Int)) v4 (.int .i64 (n : Int)) v6 x.1 x.2.1 x.2.2) (s := (.emp, .emp, H)) ?_ ?_ ⟨[], [], .refl, .inl ⟨rfl, rfl, .inl rfl⟩, .inl ⟨rfl, rfl, .inl rfl⟩, List.nodup_nil, List.nodup_nil, fun i hi => (by cases hi), fun i hi => (by cases hi), fun i hi => (by cases hi), fun i hi => (by cases hi), fun i hi => (by cases hi)⟩ (m := 32) (by omega)) ?_
  · rintro k r ⟨vd, vu, H1⟩ hk ⟨R1, R2, L⟩
    simp only at L
    have kd : k < a.2.1.length := by omega
    have ku : k < a.2.2.length := by omega
    have P1 := L.fr.blk C.cell no_nil
    have s1 : kbin .sub (.int .i64 (n : Int)) (.int .i64 1) = some (.int .i64 ((n : Int) - 1)) := by rw [kbin_sub, wrap_id (by omega) (by omega)]
    have s2 : kbin .lss (.int .i64 (k : Int)) (.int .i64 ((n : Int) - 1)) = some (.bool true) := by rw [kbin_lss, decide_eq_true (by omega)]
    have s3 : kbin .sub (.int .i64 (j : Int)) (.int .i64 1) = some (.int .i64 ((j : Int) - 1)) := by rw [kbin_sub, wrap_id (by omega) (by omega)]
    have kj := kadd1 (n := k) (by omega)
    have l0 := L.fr.1
    have old1 : ∀ i, i ∈ RD → i < H.length := mD
    have old2 : ∀ i, i ∈ RU → i < H.length := mU
    have in1 : ∀ i ∈ R1, i ∈ RD ∨ H.length ≤ i := fun i hi => (L.p1 i hi).imp (fun ⟨m, _, h, hm⟩ => (elD m (by omega)).2.2 i hm) id
    have in2 : ∀ i ∈ R2, i ∈ RU ∨ H.length ≤ i := fun i hi => (L.p2 i hi).imp (fun ⟨m, _, h, hm⟩ => (elU m (by omega)).2.2 i hm) id
    have bDl := old1 bD hbD
    have bUl := old2 bU hbU
    have qD1 : H1[bD]? = H[bD]? := L.fr.2 bD bDl no_nil
    have qU1 : H1[bU]? = H[bU]? := L.fr.2 bU bUl no_nil
    have pd := kload1_at (o := 1) (tot := 3) P1 rfl
    have pu := kload1_at (o := 2) (tot := 3) P1 rfl
    have ps := kload1_at (o := 0) (tot := 3) P1 rfl
    simp only [List.getElem?_cons_succ, List.getElem?_cons_zero] at pd pu ps
    have bigD : (dTo j n a.2.1 k).length ≤ 1000 := by have := dTo_len (j := j) (n := n) (ds := a.2.1) k; omega
    have bigU : (uTo j n a.1 a.2.2 k).length ≤ 1000 := by have := uTo_len (j := j) (n := n) (xs := a.1) (us := a.2.2) k; omega
    by_cases c1 : k + 1 = j
    · have e1 : kbin .eql (.int .i64 (k : Int)) (.int .i64 ((j : Int) - 1)) = some (.bool true) := by rw [kbin_eql, decide_eq_true (by omega)]
      by_cases c2 : j + 1 < n
      · have e2 : kbin .lss (.int .i64 (j : Int)) (.int .i64 ((n : Int) - 1)) = some (.bool true) := by rw [kbin_lss, decide_eq_true (by omega)]
        have jd : j < a.2.1.length := by omega
        -- the two texts in one
        have iD : kia 1 vD (.int .i64 (j : Int)) = some (.ptr bD j (n - 1)) := by rw [hvD]; exact kia_at (by omega) (by omega) (by omega)
        have iD2 : kia 1 vD (.int .i64 ((j : Int) - 1)) = some (.ptr bD k (n - 1)) := by rw [hvD, show (j : Int) - 1 = (k : Int) by omega]; exact kia_at (by omega) (by omega) (by omega)
        have lj := ldD H1 qD1 j (by omega)
        obtain ⟨wr, wn, wi⟩ := elD j jd
        have wr1 := goodStringS.keep wr L.fr (fun _ _ => no_nil)
        have oks := fun m (hm' : m < a.2.1.length) => (hm.2.1.2 _ (List.getElem_mem hm')).1
        obtain ⟨v9, H4, R9, t9, r9, n9, b9, f9⟩ := texts_old (by have := oks j jd; omega) wr1
        have P4 := f9.blk P1 no_nil
        have pd4 := kload1_at (o := 1) (tot := 3) P4 rfl
        simp only [List.getElem?_cons_succ, List.getElem?_cons_zero] at pd4
        have qD4 : H4[bD]? = H[bD]? := by rw [f9.2 bD (by omega) no_nil, qD1]
        have lk4 := ldD H4 qD4 k (by omega)
        obtain ⟨kr, kn, ki⟩ := elD k kd
        have kr4 := goodStringS.keep kr (L.fr.trans f9) (fun _ _ => no_nil)
        obtain ⟨v10, H5, R10, t10, r10, n10, b10, f10⟩ := app_flat (mk := cs) (fun _ => rfl) (fun _ => rfl) (z := [.str { data := #[] }]) rfl (b := 16) (by omega) r9 kr4 (fun i hi h' => by have := b9 i h'; have := old1 i (ki i hi); omega) (by have := oks j jd; have := oks k kd; omega)
        have f10' : Fr [] H1 H5 := fr_new f9 f10 (fun i hi => by have := b9 i (kblk_in r9 i hi); omega)
        have L5 := L.grow f10'
        have b10' : ∀ i ∈ R10, H1.length ≤ i := fun i hi => by
          rcases b10 i hi with h | h
          · exact b9 i h
          · have := f9.1; omega
        have l15 := f10'.1
        obtain ⟨v11, H6, R11, t11, L6⟩ := L5.pushD (QD := fun i => ∃ m, m < k + 1 ∧ m < n - 1 ∧ i ∈ FD m) bigD r10 n10 (fun i hi h' => by
          have := b10' i hi
          have := goodStringSS.mem L.d i h'
          omega) (fun i hi h' => by
          have := b10' i hi
          have := goodInt64SS.mem L.u i h'
          omega) (fun i hi => .inr (by have := b10' i hi; omega)) (fun i ⟨m, h1, h2⟩ => ⟨m, by omega, h2⟩)
        -- what is answered
        have C6 := C.grow L6.fr
        have jS : j + 1 < a.1.length := by omega
        have kS : k < a.1.length := by omega
        obtain ⟨bS, _, hvS, _, _, g1, _, _⟩ := C6.server jS
        obtain ⟨bS', _, hvS', _, _, g2, _, _⟩ := C6.server kS
        have eb : bS' = bS := by rw [hvS] at hvS'; injection hvS' with h; exact h.symm
        subst eb
        rw [hN] at hvS g1 g2
        have ps6 := kload1_at (o := 0) (tot := 3) C6.cell rfl
        simp only [List.getElem?_cons_zero] at ps6
        have aj := kadd1 (n := j) (by omega)
        have iS1 : kia 2 vS (.int .i64 ((j + 1 : Nat) : Int)) = some (.ptr bS' ((j + 1) * 2) (n * 2)) := by rw [hvS]; exact kia_at (by omega) rfl rfl
        have iS2 : kia 2 vS (.int .i64 ((j : Int) - 1)) = some (.ptr bS' (k * 2) (n * 2)) := by rw [hvS, show (j : Int) - 1 = (k : Int) by omega]; exact kia_at (by omega) rfl rfl
        have gt : kbin .gtr (.int .i64 a.1[j + 1].2) (.int .i64 a.1[k].2) = some (.bool (decide (a.1[k].2 < a.1[j + 1].2))) := by rw [kbin_gtr]
        have es1 : (sv a.1 (j - 1)).2 = a.1[k].2 := by unfold sv; rw [show j - 1 = k by omega, List.getElem?_eq_getElem kS]; rfl
        have es2 : (sv a.1 (j + 1)).2 = a.1[j + 1].2 := by unfold sv; rw [List.getElem?_eq_getElem jS]; rfl
        have dp : dPart j n a.2.1 k = [a.2.1[j] ++ a.2.1[k]] := by
          unfold dPart
          rw [if_pos ⟨c1, c2⟩, show j - 1 = k by omega, List.getElem?_eq_getElem jd, List.getElem?_eq_getElem kd]; rfl
        have v10c := (cell_of r10).1
        have plb : p ∉ kblk (wD j) := fun h => C.pd (wi p (kblk_in wr p h))
        have z1 : ¬ (H1.length ≤ p) := by omega
        have z2 : ¬ (H1.length ≤ bD) := by omega
        by_cases c3 : a.1[k].2 < a.1[j + 1].2
        · have up : uPart j n a.1 a.2.2 k = [[a.1[j + 1].2]] := by unfold uPart; rw [if_pos ⟨c1, c2⟩, es1, es2, if_pos c3]
          rw [decide_eq_true c3] at gt
          have gI : Good 1 1 ci (RFl ci) := RFl.good (es := 1) (mk := ci) (fun _ => rfl) (fun _ => rfl)
          obtain ⟨v12, H7, R12, t12, r12, n12, b12, f12, c12, _⟩ := app_own gI (by omega) (z := [.int .i64 0]) (b := 8) rfl (by omega) (H := H6) (v := .emp) (xs := []) (R := []) (.inl ⟨rfl, rfl, .inl rfl⟩) List.nodup_nil (by simp) (cx := [.int .i64 a.1[j + 1].2]) (x := a.1[j + 1].2) (Rx := []) ⟨rfl, rfl⟩ List.nodup_nil (fun i hi => (by cases hi))
          have b12' : ∀ i ∈ R12, H6.length ≤ i := fun i hi => by
            rcases b12 i hi with h | h | h
            · cases h
            · cases h
            · exact h
          have f12' : Fr [] H6 H7 := f12
          have L7 := L6.grow f12'
          have l6 := L6.fr.1
          obtain ⟨v13, H8, R13, t13, L8⟩ := L7.pushU (QU := fun i => ∃ m, m < k + 1 ∧ m < n - 1 ∧ i ∈ FU m) bigU r12 n12 (fun i hi h' => by
            have := b12' i hi
            have := goodStringSS.mem L6.d i h'
            omega) (fun i hi h' => by
            have := b12' i hi
            have := goodInt64SS.mem L6.u i h'
            omega) (fun i hi => .inr (by have := b12' i hi; omega)) (fun i ⟨m, h1, h2⟩ => ⟨m, by omega, h2⟩)
          refine ⟨(v11, v13, H8), funext fun G => ?_, R11, R13, ?_⟩
          · simp only [S.spec_l17Fall.l12]
            simp [s1, s2, s3, e1, e2, pd, iD, lj, t9, pd4, iD2, lk4, t10, gfill, zeros, v10c, kbs_at, t11, ps6, aj, iS1, iS2, g1, g2, gt, t12, c12.1, t13, kj, -kload1_ptr, -kbin_lss, -kbin_eql, -kbin_add, -kbin_sub, -kbin_gtr, -kF_OO, -Int.natCast_add]
            try simp [chk, meets, touches, z1, z2, any_no2, plb, -List.any_eq_true, -List.any_eq_false]
          · rw [dTo_succ, uTo_succ, dp, up]; exact L8
        · have up : uPart j n a.1 a.2.2 k = [[]] := by unfold uPart; rw [if_pos ⟨c1, c2⟩, es1, es2, if_neg c3]
          rw [decide_eq_false c3] at gt
          obtain ⟨v13, H8, R13, t13, L8⟩ := L6.pushU (QU := fun i => ∃ m, m < k + 1 ∧ m < n - 1 ∧ i ∈ FU m) bigU (w := .emp) (x := []) (Rx := []) (.inl ⟨rfl, rfl, .inl rfl⟩) List.nodup_nil (fun i hi h' => (by cases hi)) (fun i hi h' => (by cases hi)) (fun i hi => (by cases hi)) (fun i ⟨m, h1, h2⟩ => ⟨m, by omega, h2⟩)
          refine ⟨(v11, v13, H8), funext fun G => ?_, R11, R13, ?_⟩
          · simp only [S.spec_l17Fall.l12]
            simp [s1, s2, s3, e1, e2, pd, iD, lj, t9, pd4, iD2, lk4, t10, gfill, zeros, v10c, kbs_at, t11, ps6, aj, iS1, iS2, g1, g2, gt, t13, kj, -kload1_ptr, -kbin_lss, -kbin_eql, -kbin_add, -kbin_sub, -kbin_gtr, -kF_OO, -Int.natCast_add]
            try simp [chk, meets, touches, z1, z2, any_no2, plb, -List.any_eq_true, -List.any_eq_false]
          · rw [dTo_succ, uTo_succ, dp, up]; exact L8
      · have e2 : kbin .lss (.int .i64 (j : Int)) (.int .i64 ((n : Int) - 1)) = some (.bool false) := by rw [kbin_lss, decide_eq_false (by omega)]
        have n1 : kbin .neq (.int .i64 (k : Int)) (.int .i64 (j : Int)) = some (.bool true) := by rw [kbin_neq, decide_eq_true (by omega)]
        have n2 : kbin .neq (.int .i64 (k : Int)) (.int .i64 ((j : Int) - 1)) = some (.bool false) := by rw [kbin_neq, decide_eq_false (by omega)]
        have dp : dPart j n a.2.1 k = [] := by unfold dPart; rw [if_neg (fun h => c2 h.2), if_neg (fun h => h.2 c1)]
        have up : uPart j n a.1 a.2.2 k = [] := by unfold uPart; rw [if_neg (fun h => c2 h.2), if_neg (fun h => h.2 c1)]
        refine ⟨(vd, vu, H1), funext fun G => ?_, R1, R2, ?_⟩
        · simp only [S.spec_l17Fall.l12]
          simp [s1, s2, s3, e1, e2, n1, n2, kj, -kload1_ptr, -kbin_lss, -kbin_eql, -kbin_neq, -kbin_add, -kbin_sub, -kbin_gtr, -kF_OO, -Int.natCast_add]
        · rw [dTo_succ, uTo_succ, dp, up, List.append_nil, List.append_nil]
          exact L.weak (fun i ⟨m, h1, h2⟩ => ⟨m, by omega, h2⟩) (fun i ⟨m, h1, h2⟩ => ⟨m, by omega, h2⟩)
    · have e1 : kbin .eql (.int .i64 (k : Int)) (.int .i64 ((j : Int) - 1)) = some (.bool false) := by rw [kbin_eql, decide_eq_false (by omega)]
      by_cases c2 : k = j
      · have n1 : kbin .neq (.int .i64 (k : Int)) (.int .i64 (j : Int)) = some (.bool false) := by rw [kbin_neq, decide_eq_false (by omega)]
        have dp : dPart j n a.2.1 k = [] := by unfold dPart; rw [if_neg (fun h => c1 h.1), if_neg (fun h => h.1 c2)]
        have up : uPart j n a.1 a.2.2 k = [] := by unfold uPart; rw [if_neg (fun h => c1 h.1), if_neg (fun h => h.1 c2)]
        refine ⟨(vd, vu, H1), funext fun G => ?_, R1, R2, ?_⟩
        · simp only [S.spec_l17Fall.l12]
          simp [s1, s2, s3, e1, n1, kj, -kload1_ptr, -kbin_lss, -kbin_eql, -kbin_neq, -kbin_add, -kbin_sub, -kbin_gtr, -kF_OO, -Int.natCast_add]
        · rw [dTo_succ, uTo_succ, dp, up, List.append_nil, List.append_nil]
          exact L.weak (fun i ⟨m, h1, h2⟩ => ⟨m, by omega, h2⟩) (fun i ⟨m, h1, h2⟩ => ⟨m, by omega, h2⟩)
      · have n1 : kbin .neq (.int .i64 (k : Int)) (.int .i64 (j : Int)) = some (.bool true) := by rw [kbin_neq, decide_eq_true (by omega)]
        have n2 : kbin .neq (.int .i64 (k : Int)) (.int .i64 ((j : Int) - 1)) = some (.bool true) := by rw [kbin_neq, decide_eq_true (by omega)]
        have dp : dPart j n a.2.1 k = [a.2.1[k]] := by unfold dPart; rw [if_neg (fun h => c1 h.1), if_pos ⟨c2, c1⟩, List.getElem?_eq_getElem kd]; rfl
        have up : uPart j n a.1 a.2.2 k = [a.2.2[k]] := by unfold uPart; rw [if_neg (fun h => c1 h.1), if_pos ⟨c2, c1⟩, List.getElem?_eq_getElem ku]; rfl
        have iD : kia 1 vD (.int .i64 (k : Int)) = some (.ptr bD k (n - 1)) := by rw [hvD]; exact kia_at (by omega) (by omega) (by omega)
        have iU : kia 1 vU (.int .i64 (k : Int)) = some (.ptr bU k (n - 1)) := by rw [hvU]; exact kia_at (by omega) (by omega) (by omega)
        have lk := ldD H1 qD1 k (by omega)
        obtain ⟨wr, wn, wi⟩ := elD k kd
        obtain ⟨ur, un, ui⟩ := elU k ku
        obtain ⟨v11, H6, R11, t11, L6⟩ := L.pushD (QD := fun i => ∃ m, m < k + 1 ∧ m < n - 1 ∧ i ∈ FD m) bigD (goodStringS.keep wr L.fr (fun _ _ => no_nil)) wn (fun i hi h' => by
          rcases L.p1 i h' with ⟨m, h1, h2, h3⟩ | h3
          · exact djD k m (by omega) (by omega) (by omega) i hi h3
          · have := old1 i (wi i hi); omega) (fun i hi h' => by
          rcases in2 i h' with h3 | h3
          · exact C.du i (wi i hi) h3
          · have := old1 i (wi i hi); omega) (fun i hi => .inl ⟨k, by omega, hk, hi⟩) (fun i ⟨m, h1, h2⟩ => ⟨m, by omega, h2⟩)
        have pu6 := kload1_at (o := 2) (tot := 3) (L6.fr.blk C.cell no_nil) rfl
        simp only [List.getElem?_cons_succ, List.getElem?_cons_zero] at pu6
        have qU6 : H6[bU]? = H[bU]? := L6.fr.2 bU bUl no_nil
        have lu := ldU H6 qU6 k (by omega)
        obtain ⟨v13, H8, R13, t13, L8⟩ := L6.pushU (QU := fun i => ∃ m, m < k + 1 ∧ m < n - 1 ∧ i ∈ FU m) bigU (goodInt64S.keep ur L6.fr (fun _ _ => no_nil)) un (fun i hi h' => by
          rcases L6.p1 i h' with ⟨m, h1, h2, h3⟩ | h3
          · exact C.du i ((elD m (by omega)).2.2 i h3) (ui i hi)
          · have := old2 i (ui i hi); omega) (fun i hi h' => by
          rcases L6.p2 i h' with ⟨m, h1, h2, h3⟩ | h3
          · exact djU k m (by omega) (by omega) (by omega) i hi h3
          · have := old2 i (ui i hi); omega) (fun i hi => .inl ⟨k, by omega, hk, hi⟩) (fun i ⟨m, h1, h2⟩ => ⟨m, by omega, h2⟩)
        have wc := (cell_of wr).1
        have uc := (cell_of ur).1
        refine ⟨(v11, v13, H8), funext fun G => ?_, R11, R13, ?_⟩
        · simp only [S.spec_l17Fall.l12]
          simp [s1, s2, s3, e1, n1, n2, pd, iD, lk, gfill, zeros, wc, kbs_at, t11, pu6, iU, lu, uc, t13, kj, -kload1_ptr, -kbin_lss, -kbin_eql, -kbin_neq, -kbin_add, -kbin_sub, -kbin_gtr, -kF_OO, -Int.natCast_add]
        · rw [dTo_succ, uTo_succ, dp, up]; exact L8
  · rintro r ⟨vd, vu, H1⟩ _
    funext G
    have s1 : kbin .sub (.int .i64 (n : Int)) (.int .i64 1) = some (.int .i64 ((n : Int) - 1)) := by rw [kbin_sub, wrap_id (by omega) (by omega)]
    have s2 : kbin .lss (.int .i64 ((n - 1 : Nat) : Int)) (.int .i64 ((n : Int) - 1)) = some (.bool false) := by rw [kbin_lss, decide_eq_false (by omega)]
    simp only [S.spec_l17Fall.l12]
    simp [s1, s2, -kbin_lss, -kbin_sub]
  rintro ⟨v7, v8, H3⟩ ⟨k1, R1, R2, L⟩
  simp only at L k1
  refine ⟨v7, v8, H3, R1, R2, ?_, fun G => ?_⟩
  · exact L.weak (fun i ⟨m, _, h2, h3⟩ => (elD m (by omega)).2.2 i h3) (fun i ⟨m, _, h2, h3⟩ => (elU m (by omega)).2.2 i h3)
  · have := congrFun k1 G
    exact this
end Go.Proofs.Ytlbnioapepelnaa.G

namespace Go.Proofs.Ytlbnioapepelnaa.G
open Go.RowKit
theorem gTo {β : Type} (l : List β) (m d : β) (j n : Nat) (hl : l.length + 1 = n) (h5 : n ≤ 5) (hj : j < n) (h2 : 2 ≤ n) : ((List.range (n - 1)).flatMap fun k => if k + 1 = j ∧ j + 1 < n then [m] else if k ≠ j ∧ k + 1 ≠ j then [l[k]?.getD d] else []) = if j = 0 then l.eraseIdx (j - 1) else if j + 1 = n then l.eraseIdx (j - 1) else (l.eraseIdx (j - 1)).set (j - 1) m := by
  subst hl
  have cj : j = 0 ∨ j = 1 ∨ j = 2 ∨ j = 3 ∨ j = 4 := by omega
  rcases l with _ | ⟨d0, _ | ⟨d1, _ | ⟨d2, _ | ⟨d3, _ | ⟨d4, l⟩⟩⟩⟩⟩
  · simp at h2
  · rcases cj with rfl | rfl | rfl | rfl | rfl <;> first | (exfalso; revert hj; decide) | (exfalso; simp at hj; done) | simp [List.range_succ]
  · rcases cj with rfl | rfl | rfl | rfl | rfl <;> first | (exfalso; revert hj; decide) | (exfalso; simp at hj; done) | simp [List.range_succ]
  · rcases cj with rfl | rfl | rfl | rfl | rfl <;> first | (exfalso; revert hj; decide) | (exfalso; simp at hj; done) | simp [List.range_succ]
  · rcases cj with rfl | rfl | rfl | rfl | rfl <;> first | (exfalso; revert hj; decide) | (exfalso; simp at hj; done) | simp [List.range_succ]
  · simp at h5
theorem n8_op {k p : Nat} {Hx : Heap} {old : List GV} {v4 v6 v7 v8 : GV} (hx : Hx[p]? = some [v6, v7, v8]) (ho : old.length = 3) (c6 : v6.cells = [v6] ∧ v6.isCell = true) (c7 : v7.cells = [v7] ∧ v7.isCell = true) (c8 : v8.cells = [v8] ∧ v8.isCell = true) (G : KT1 (GV × Heap)) : S.spec_l17Fall.n8 k G (.ptr p 0 3) v4 v6 v7 v8 (Hx.set p old) = G .ret (.bool true) Hx := by
  have hpl := (List.getElem?_eq_some_iff.1 hx).1
  obtain ⟨x, y, z, rfl⟩ : ∃ x y z, old = [x, y, z] := by
    match old, ho with
    | [x, y, z], _ => exact ⟨x, y, z, rfl⟩
  have h0 : (Hx.set p [x, y, z])[p]? = some [x, y, z] := List.getElem?_set_self hpl
  have s1 := kstore_at (o := 0) (tot := 3) (x := v6) h0 rfl (by omega) c6.1 c6.2
  rw [List.set_set] at s1
  have h1 : (Hx.set p [v6, y, z])[p]? = some [v6, y, z] := List.getElem?_set_self hpl
  have s2 := kstore_at (o := 1) (tot := 3) (x := v7) h1 rfl (by omega) c7.1 c7.2
  rw [List.set_set] at s2
  have h2 : (Hx.set p [v6, v7, z])[p]? = some [v6, v7, z] := List.getElem?_set_self hpl
  have s3 := kstore_at (o := 2) (tot := 3) (x := v8) h2 rfl (by omega) c8.1 c8.2
  rw [List.set_set] at s3
  have e3 : Hx.set p ([v6, v7, z].set 2 v8) = Hx := set_same hx
  rw [e3] at s3
  have e1 : ([x, y, z] : List GV).set 0 v6 = [v6, y, z] := rfl
  have e2 : ([v6, y, z] : List GV).set 1 v7 = [v6, v7, z] := rfl
  rw [e1] at s1
  rw [e2] at s2
  simp [S.spec_l17Fall.n8, s1, s2, s3, -kstore_ptr]
theorem set_back {H : Heap} {p : Nat} {c d : List GV} (h : H[p]? = some c) : (H.set p d).set p c = H := by rw [List.set_set]; exact set_same h
theorem spec_l17Fall_op (a : ChainT) (hP : ChainP a.1 a.2.1 a.2.2) (hm : okChain a) (i : Int) (hu : ∀ u ∈ a.2.2, u.length ≤ 4194304) : OpR fn.spec_l17Fall [.int .i64 i] a (fallM a i) := by
  intro p lo H vS vD vU RS RD RU C hlo
  have h1 := hP.1.1
  have h5 := hP.1.2
  have hd := hP.2.1
  have hn := hP.2.2.1
  have hpl := (List.getElem?_eq_some_iff.1 C.cell).1
  have q0 := kload1_at (o := 0) (tot := 3) C.cell rfl
  simp only [List.getElem?_cons_zero] at q0
  have klS : klen vS = some (.int .i64 a.1.length) := C.s.len
  by_cases c2 : 2 ≤ a.1.length
  case neg =>
    have hres : fallM a i = (a, false) := by unfold fallM; rw [if_neg (fun h => c2 h.1)]
    have g : kbin .lss (.int .i64 (a.1.length : Int)) (.int .i64 2) = some (.bool true) := by rw [kbin_lss, decide_eq_true (by omega)]
    rw [hres]
    refine ⟨H, vS, vD, vU, RS, RD, RU, S.spec_l17Fall.gives (k := 0) ?_, C, fun _ _ _ _ _ _ => rfl⟩
    simp [S.spec_l17Fall.run, q0, klS, g, -kload1_ptr, -kbin_lss]
  have g : kbin .lss (.int .i64 (a.1.length : Int)) (.int .i64 2) = some (.bool false) := by rw [kbin_lss, decide_eq_false (by omega)]
  have w1 : kbin .sub (.int .i64 (a.1.length : Int)) (.int .i64 1) = some (.int .i64 ((a.1.length : Int) - 1)) := by rw [kbin_sub, wrap_id (by omega) (by omega)]
  have sp := spec_l1In_spec i 0 ((a.1.length : Int) - 1)
  by_cases c1 : 0 ≤ i ∧ i < (a.1.length : Int)
  case neg =>
    have hres : fallM a i = (a, false) := by unfold fallM; rw [if_neg (fun h => c1 h.2)]
    rw [decide_eq_false (by omega)] at sp
    have ki : kN NN fn.spec_l1In [.int .i64 i, .int .i64 0, .int .i64 ((a.1.length : Int) - 1)] H = some (.bool false) := kN_at (xs := [.int .i64 i, .int .i64 0, .int .i64 ((a.1.length : Int) - 1)]) (by simp) sp
    rw [hres]
    refine ⟨H, vS, vD, vU, RS, RD, RU, S.spec_l17Fall.gives (k := 0) ?_, C, fun _ _ _ _ _ _ => rfl⟩
    simp [S.spec_l17Fall.run, q0, klS, g, w1, ki, -kload1_ptr, -kbin_lss, -kbin_sub, -kN_eq]
  rw [decide_eq_true (by omega)] at sp
  have ki : kN NN fn.spec_l1In [.int .i64 i, .int .i64 0, .int .i64 ((a.1.length : Int) - 1)] H = some (.bool true) := kN_at (xs := [.int .i64 i, .int .i64 0, .int .i64 ((a.1.length : Int) - 1)]) (by simp) sp
  obtain ⟨j, rfl⟩ : ∃ j : Nat, i = j := ⟨i.toNat, by omega⟩
  have hj : j < a.1.length := by omega
  have hres : fallM a (j : Int) = (fallS a.1 a.2.1 a.2.2 j, true) := by
    unfold fallM; rw [if_pos ⟨c2, c1⟩, Int.toNat_natCast, fall_eq hP hj]
  rw [hres]
  obtain ⟨w1', w2', v1, H1, H2, RS', k1, a1, k2, a2, rS, nS, mS, f1, f2⟩ := eraseS C.s C.ns hj c2 (by omega)
  have q1 := kload1_at (o := 0) (tot := 3) (f1.blk C.cell no_nil) rfl
  simp only [List.getElem?_cons_zero] at q1
  have aj := kadd1 (n := j) (by omega)
  have C2 := C.grow f2
  obtain ⟨v7, v8, H3, R1, R2, L, lp⟩ := fall_ways C2 hm hP hj c2 (.bool false) (.sl H.length 0 (a.1.length - 1) (a.1.length - 1) 2)
  have hl2 := f2.1
  have hl3 := L.fr.1
  have P3 := L.fr.blk C2.cell no_nil
  have bd := C.bd
  have rS3 := goodServerS.keep rS L.fr (fun _ _ => no_nil)
  -- the chain, as if it were told already
  obtain ⟨Hc, hHc⟩ : ∃ Hc, H3.set p [.sl H.length 0 (a.1.length - 1) (a.1.length - 1) 2, v7, v8] = Hc := ⟨_, rfl⟩
  have hpl3 : p < H3.length := by omega
  have Pc : Hc[p]? = some [.sl H.length 0 (a.1.length - 1) (a.1.length - 1) 2, v7, v8] := by rw [← hHc]; exact List.getElem?_set_self hpl3
  have fc : Fr [p] H3 Hc := by rw [← hHc]; exact .set (by simp)
  have n1 : p ∉ RS' := fun h => (mS p h).elim C.ps (fun h => by omega)
  have n2 : p ∉ R1 := fun h => (L.p1 p h).elim C.pd (fun h => by omega)
  have n3 : p ∉ R2 := fun h => (L.p2 p h).elim C.pu (fun h => by omega)
  have ne : ∀ {R : List Nat}, p ∉ R → ∀ i ∈ R, i ∉ [p] := fun hp i hi h => by rw [List.mem_singleton] at h; exact hp (h ▸ hi)
  have rSm := goodServerS.mem rS
  have C3 : ChainIn p lo (a.1.eraseIdx j, dTo j a.1.length a.2.1 (a.1.length - 1), uTo j a.1.length a.1 a.2.2 (a.1.length - 1)) Hc (.sl H.length 0 (a.1.length - 1) (a.1.length - 1) 2) v7 v8 RS' R1 R2 :=
    { cell := Pc, s := goodServerS.keep rS3 fc (ne n1), d := goodStringSS.keep L.d fc (ne n2), u := goodInt64SS.keep L.u fc (ne n3), ns := nS, nd := L.n1, nu := L.n2
      sd := fun i hi h => by
        have hi2 := rSm i hi
        rcases mS i hi with h' | h'
        · rcases L.p1 i h with h2 | h2
          · exact C.sd i h' h2
          · have := bd i (.inl h'); omega
        · rcases L.p1 i h with h2 | h2
          · have := bd i (.inr (.inl h2)); omega
          · omega
      su := fun i hi h => by
        have hi2 := rSm i hi
        rcases mS i hi with h' | h'
        · rcases L.p2 i h with h2 | h2
          · exact C.su i h' h2
          · have := bd i (.inl h'); omega
        · rcases L.p2 i h with h2 | h2
          · have := bd i (.inr (.inr h2)); omega
          · omega
      du := L.dj
      ls := fun i hi => (mS i hi).elim (C.ls i) (fun h => by omega)
      ld := fun i hi => (L.p1 i hi).elim (C.ld i) (fun h => by omega)
      lu := fun i hi => (L.p2 i hi).elim (C.lu i) (fun h => by omega)
      ps := n1, pd := n2, pu := n3 }
  have back : H3 = Hc.set p [vS, vD, vU] := by rw [← hHc]; exact (set_back P3).symm
  have c6 : (GV.sl H.length 0 (a.1.length - 1) (a.1.length - 1) 2).cells = [.sl H.length 0 (a.1.length - 1) (a.1.length - 1) 2] ∧ (GV.sl H.length 0 (a.1.length - 1) (a.1.length - 1) 2).isCell = true := ⟨rfl, rfl⟩
  have c7 := cell_of L.d
  have c8 := cell_of L.u
  have eD : dTo j a.1.length a.2.1 (a.1.length - 1) = if j = 0 then a.2.1.eraseIdx (j - 1) else if j + 1 = a.1.length then a.2.1.eraseIdx (j - 1) else (a.2.1.eraseIdx (j - 1)).set (j - 1) (a.2.1[j]?.getD [] ++ a.2.1[j - 1]?.getD []) := gTo _ _ _ j _ hd h5 hj c2
  have eU : uTo j a.1.length a.1 a.2.2 (a.1.length - 1) = if j = 0 then a.2.2.eraseIdx (j - 1) else if j + 1 = a.1.length then a.2.2.eraseIdx (j - 1) else (a.2.2.eraseIdx (j - 1)).set (j - 1) (if (sv a.1 (j - 1)).2 < (sv a.1 (j + 1)).2 then [(sv a.1 (j + 1)).2] else []) := gTo _ _ _ j _ hn h5 hj c2
  have frc : ∀ i, i < H.length → i ≠ p → Hc[i]? = H[i]? := fun i hi hp => by
    rw [fc.2 i (by omega) (by simpa using hp), L.fr.2 i (by omega) no_nil, f2.2 i hi no_nil]
  have z1 : ¬ (H.length ≤ p) := by omega
  have run0 : ∀ {Hf : Heap}, S.spec_l17Fall.n7 32 (fun x v4 h => kend x (some (v4, h))) (.ptr p 0 3) (.int .i64 (j : Int)) (.bool false) (.int .i64 (a.1.length : Int)) (.sl H.length 0 (a.1.length - 1) (a.1.length - 1) 2) v7 v8 H3 = some (.bool true, Hf) → HH fn.spec_l17Fall [.ptr p 0 3, .int .i64 (j : Int)] H = some (.bool true, Hf) := fun {Hf} e => by
    apply S.spec_l17Fall.gives (k := 32)
    simp only [Int.natCast_zero] at lp
    simp [S.spec_l17Fall.run, q0, klS, g, w1, ki, k1, a1, q1, aj, k2, a2, lp, -kload1_ptr, -kbin_lss, -kbin_sub, -kbin_add, -kN_eq, -Int.natCast_add, -S.spec_l17Fall.n7]
    simp [chk, meets, touches, z1, any_no2, e, -S.spec_l17Fall.n7]
  by_cases jl : j + 1 = a.1.length
  case neg =>
    have g2 : kbin .eql (.int .i64 (j : Int)) (.int .i64 ((a.1.length : Int) - 1)) = some (.bool false) := by rw [kbin_eql, decide_eq_false (by omega)]
    have eR : fallS a.1 a.2.1 a.2.2 j = (a.1.eraseIdx j, dTo j a.1.length a.2.1 (a.1.length - 1), uTo j a.1.length a.1 a.2.2 (a.1.length - 1)) := by
      rw [eD, eU]
      unfold fallS
      by_cases j0 : j = 0
      · rw [if_pos j0, if_pos j0, if_pos j0]
      · rw [if_neg j0, if_neg j0, if_neg j0, if_neg jl, if_neg jl, if_neg jl]
        unfold fallMid
        have e1 : sv (a.1.eraseIdx j) (j - 1) = sv a.1 (j - 1) := by unfold sv; rw [List.getElem?_eraseIdx, if_pos (by omega)]
        have e2 : sv (a.1.eraseIdx j) j = sv a.1 (j + 1) := by unfold sv; rw [List.getElem?_eraseIdx, if_neg (by omega)]
        rw [e1, e2]
    rw [eR]
    refine ⟨Hc, _, _, _, _, _, _, run0 ?_, C3, fun i hi hp hS hD hU => frc i hi hp⟩
    have n8 := n8_op (k := 32) (v4 := .bool false) Pc (old := [vS, vD, vU]) rfl c6 c7 c8 (fun x v4 h => kend x (some (v4, h)))
    rw [← back] at n8
    simp only [S.spec_l17Fall.n7, w1, g2, Option.bind_some, kcond_bool, cond_false, n8]
    rfl
  have g2 : kbin .eql (.int .i64 (j : Int)) (.int .i64 ((a.1.length : Int) - 1)) = some (.bool true) := by rw [kbin_eql, decide_eq_true (by omega)]
  have j0 : j ≠ 0 := by omega
  rw [if_neg j0, if_pos jl] at eD eU
  rw [eD, eU] at C3
  -- the last server
  obtain ⟨m, hm2⟩ : ∃ m, a.1.length = m + 2 := ⟨a.1.length - 2, by omega⟩
  have hlE : (a.1.eraseIdx j).length = m + 1 := by rw [List.length_eraseIdx, if_pos hj]; omega
  have hlU : (a.2.2.eraseIdx (j - 1)).length = m := by rw [List.length_eraseIdx, if_pos (by omega)]; omega
  have hmE : m < (a.1.eraseIdx j).length := by omega
  have hbd3 := C3.bd
  have hpc : p < Hc.length := (List.getElem?_eq_some_iff.1 Pc).1
  obtain ⟨bS, vL, hvS, hbS, t0, _, ⟨rL, hL⟩, _⟩ := C3.server (i := m) hmE
  obtain ⟨bS', H5, RS5, hvS', hbS', _, t2, C5, f5, m5, l5⟩ := C3.sureSet (i := m) hmE (((a.1.eraseIdx j)[m].1.length : Nat) : Int) (q := Hc.length) hbd3 (by have := f2.1; have := fc.1; omega) hpc
  have eb : bS' = bS := by rw [hvS] at hvS'; injection hvS' with h; exact h.symm
  subst eb
  simp only [hlE] at hvS t0 t2
  have hbp : bS' ≠ p := fun e => n1 (e ▸ hbS)
  have s2' : kbin .sub (.int .i64 (a.1.length : Int)) (.int .i64 2) = some (.int .i64 (m : Int)) := by rw [kbin_sub, wrap_id (by omega) (by omega)]; congr 2; omega
  have i1 : kia 2 (.sl H.length 0 (a.1.length - 1) (a.1.length - 1) 2) (.int .i64 (m : Int)) = some (.ptr bS' (m * 2) ((m + 1) * 2)) := by rw [hvS]; exact kia_at (by omega) rfl rfl
  have t0' : kload1 H3 (.ptr bS' (m * 2) ((m + 1) * 2)) = some vL := by rw [back, kload1_set hbp]; exact t0
  have t1' : klen vL = some (.int .i64 ((a.1.eraseIdx j)[m].1.length : Nat)) := hL.len
  have t2' : kstore 1 H3 (.ptr bS' (m * 2 + 1) ((m + 1) * 2)) (.int .i64 ((a.1.eraseIdx j)[m].1.length : Nat)) = some (H5.set p [vS, vD, vU]) := by rw [back]; exact kstore_set t2 hbp
  have hsv : sv (a.1.eraseIdx j) (j - 1) = (a.1.eraseIdx j)[m] := by unfold sv; rw [show j - 1 = m by omega, List.getElem?_eq_getElem hmE]; rfl
  have ejm : j - 1 = m := by omega
  have fr5 : ∀ i, i < H.length → i ≠ p → i ∉ RS → H5[i]? = H[i]? := fun i hi hp hS => by
    have := frc i hi hp
    rw [f5.2 i (by have := hl2; have := fc.1; omega) (fun h => (mS i h).elim hS (fun h => by omega)), this]
  by_cases c3 : 2 < a.1.length
  case neg =>
    have g3 : kbin .gtr (.int .i64 (a.1.length : Int)) (.int .i64 2) = some (.bool false) := by rw [kbin_gtr, decide_eq_false (by omega)]
    have eR : fallS a.1 a.2.1 a.2.2 j = ((a.1.eraseIdx j).set m ((a.1.eraseIdx j)[m].1, (((a.1.eraseIdx j)[m].1.length : Nat) : Int)), a.2.1.eraseIdx (j - 1), a.2.2.eraseIdx (j - 1)) := by
      unfold fallS fallLast
      rw [if_neg j0, if_pos jl, hsv, if_neg (by omega), ejm]
    rw [eR]
    refine ⟨H5, _, _, _, _, _, _, run0 ?_, C5, fun i hi hp hS hD hU => fr5 i hi hp hS⟩
    have n8 := n8_op (k := 32) (v4 := .bool false) C5.cell (old := [vS, vD, vU]) rfl c6 c7 c8 (fun x v4 h => kend x (some (v4, h)))
    simp only [S.spec_l17Fall.n7, w1, g2, Option.bind_some, kcond_bool, cond_true, cond_false, s2', i1, knil_ptr, kfa_ptr, Nat.add_zero, t0', t1', t2', g3, n8]
    rfl
  have g3 : kbin .gtr (.int .i64 (a.1.length : Int)) (.int .i64 2) = some (.bool true) := by rw [kbin_gtr, decide_eq_true (by omega)]
  obtain ⟨r, rfl⟩ : ∃ r, m = r + 1 := ⟨m - 1, by omega⟩
  have hrU : r < (a.2.2.eraseIdx (j - 1)).length := by omega
  have hln : ((a.2.2.eraseIdx (j - 1))[r]).length ≤ 4194304 := hu _ ((List.eraseIdx_sublist (l := a.2.2) (k := j - 1)).subset (List.getElem_mem hrU))
  have p5 : p < H5.length := (List.getElem?_eq_some_iff.1 C5.cell).1
  obtain ⟨_, _, hvS6, _, _, y1, _, _⟩ := C5.server (i := r + 1) (by rw [List.length_set]; omega)
  rw [hvS] at hvS6
  injection hvS6 with hb6
  subst hb6
  simp only [List.length_set, List.getElem_set_self, hlE] at y1
  obtain ⟨bU5, vX, v', H6, H7, RU7, hvU5, hbU5, y2, _, y3, y4, C7, f7, m7, _, kb⟩ := C5.upApp (i := r) hrU (((a.1.eraseIdx j)[r + 1].1.length : Nat) : Int) (q := H5.length) C5.bd (by have := fc.1; omega) p5 (Nat.le_refl _) hln
  simp only [hlU] at hvU5 y2 y4
  have s3' : kbin .sub (.int .i64 (a.1.length : Int)) (.int .i64 3) = some (.int .i64 (r : Int)) := by rw [kbin_sub, wrap_id (by omega) (by omega)]; congr 2; omega
  have i2 : kia 1 v8 (.int .i64 (r : Int)) = some (.ptr bU5 r (r + 1)) := by rw [hvU5]; exact kia_at (by omega) (by omega) (by omega)
  have hup : bU5 ≠ p := fun e => C5.pu (e ▸ hbU5)
  have y1' : kload1 (H5.set p [vS, vD, vU]) (.ptr bS' ((r + 1) * 2 + 1) ((r + 1 + 1) * 2)) = some (.int .i64 ((a.1.eraseIdx j)[r + 1].1.length : Nat)) := by rw [kload1_set hbp]; exact y1
  have y2' : kload1 (H5.set p [vS, vD, vU]) (.ptr bU5 r (r + 1)) = some vX := by rw [kload1_set hup]; exact y2
  have pk : p ∉ kblk vX := fun h => C5.pu (kb p h).1
  have eapp : H5.set p [vS, vD, vU] ++ [[GV.int .i64 ((a.1.eraseIdx j)[r + 1].1.length : Nat)]] = (H5 ++ [[GV.int .i64 ((a.1.eraseIdx j)[r + 1].1.length : Nat)]]).set p [vS, vD, vU] := (List.set_append_left _ _ p5).symm
  have y3' : kapp [.int .i64 0] 1 8 vX (.sl H5.length 0 1 1 1) (H5.set p [vS, vD, vU] ++ [[GV.int .i64 ((a.1.eraseIdx j)[r + 1].1.length : Nat)]]) = some (v', H6.set p [vS, vD, vU]) := by
    rw [eapp]; exact kapp_set y3 (by omega) pk (by simp; omega)
  have y4' : kstore 1 (H6.set p [vS, vD, vU]) (.ptr bU5 r (r + 1)) v' = some (H7.set p [vS, vD, vU]) := kstore_set y4 hup
  have eR : fallS a.1 a.2.1 a.2.2 j = ((a.1.eraseIdx j).set (r + 1) ((a.1.eraseIdx j)[r + 1].1, (((a.1.eraseIdx j)[r + 1].1.length : Nat) : Int)), a.2.1.eraseIdx (j - 1), (a.2.2.eraseIdx (j - 1)).set r ((a.2.2.eraseIdx (j - 1))[r] ++ [(((a.1.eraseIdx j)[r + 1].1.length : Nat) : Int)])) := by
    have hset : ∀ v, (a.1.eraseIdx j).set (j - 1) v = (a.1.eraseIdx j).set (r + 1) v := fun v => by rw [ejm]
    unfold fallS fallLast
    rw [if_neg j0, if_pos jl, hsv, if_pos (by omega), hset, show j - 2 = r by omega, List.getElem?_eq_getElem hrU]; rfl
  rw [eR]
  refine ⟨H7, _, _, _, _, _, _, run0 ?_, C7, fun i hi hp hS hD hU => ?_⟩
  · have n8 := n8_op (k := 32) (v4 := .bool false) C7.cell (old := [vS, vD, vU]) rfl c6 c7 c8 (fun x v4 h => kend x (some (v4, h)))
    simp only [S.spec_l17Fall.n7, w1, g2, Option.bind_some, kcond_bool, cond_true, cond_false, s2', i1, knil_ptr, kfa_ptr, Nat.add_zero, t0', t1', t2', g3, s3', i2, y2', y1', gfill, zeros, List.replicate, kbs_at, List.length_set, y3', kr_mk, y4', n8]
    simp [kbs_at, y3', i2, y4', n8, -kstore_ptr, -S.spec_l17Fall.n8]
  · rw [f7.2 i (by have := fc.1; omega) (fun h => (L.p2 i h).elim hU (fun h => by omega)), fr5 i hi hp hS]
end Go.Proofs.Ytlbnioapepelnaa.G

namespace Go.Proofs.Ytlbnioapepelnaa.G
open Go.RowKit

open Classical in
theorem spec_Fall_spec (a : ChainT) (hm : okChain a) (i : Int) : NN fn.spec_Fall [.agg (mChain true a), .int .i64 i] = some (.tup [.agg (mChain false (onM a (fallM a i)).1), .bool (onM a (fallM a i)).2]) := by
  have hc := spec_ChainOk_spec a.1 a.2.1 a.2.2 hm
  have bM : ∀ H : Heap, bors H [.agg (mChain true a)] = some [.agg (mChain true a)] := fun H => by simp
  have hc' : NN fn.spec_ChainOk [.agg (mChain true a)] = some (.bool (decide (ChainP a.1 a.2.1 a.2.2))) := hc
  have hML : (mChain true a).length = 3 := rfl
  by_cases h : ChainP a.1 a.2.1 a.2.2
  case neg =>
    have hon : onM a (fallM a i) = (([], [], []), false) := by unfold onM; rw [if_neg h]
    rw [decide_eq_false h] at hc'
    rw [hon]
    apply S.spec_Fall.gives (k := 0)
    have q := kN_at (H := [mChain true a, [.nils, .nils, .nils]]) (bM _) hc'
    have e1 := finN_chain (t := false) (h := [mChain true a, [.nils, .nils, .nils]]) rChain_none
    simp only [mChain] at q e1
    simp [S.spec_Fall.run, gfill, q, e1, -kN_eq]
  have hon : onM a (fallM a i) = (fallM a i) := by unfold onM; rw [if_pos h]
  rw [decide_eq_true h] at hc'
  rw [hon]
  obtain ⟨M, hM⟩ : ∃ M, mChain true a = M := ⟨_, rfl⟩
  have cp := fun H => fresh_agg goodChain (f := fn.spec_l17Copy) (args := [.agg M]) (xs := [.agg M]) (H := H) (x := a) (by rw [← hM]; exact bM _) (by rw [← hM]; exact spec_l17Copy_spec a hm H.length)
  rw [hM] at hc' bM hML ⊢
  obtain ⟨H0, hH0⟩ : ∃ H0 : Heap, [M, [.nils, .nils, .nils]] = H0 := ⟨_, rfl⟩
  have l0 : H0.length = 2 := by rw [← hH0]; rfl
  have A0 : H0[0]? = some M := by rw [← hH0]; rfl
  have Z0 : H0[1]? = some [.nils, .nils, .nils] := by rw [← hH0]; rfl
  have hbox : ∀ {Q : Type} (K : GV → Heap → Option Q), kbox (.agg M) [] K = K (.ptr 0 0 3) [M] := fun K => by rw [kbox_agg, hML]; rfl
  have hal : ∀ {Q : Type} (K : GV → Heap → Option Q), kalloc [.nils, .nils, .nils] [M] K = K (.ptr 1 0 3) H0 := fun K => by rw [kalloc_eq, ← hH0]; rfl
  have q := kN_at (H := H0) (bM _) hc'
  obtain ⟨c1, R1, H1, t1, r1, n1, b1, f1, l1⟩ := cp H0
  have cl1 := goodChain.len r1
  have v1 := var_at (H := H1) (z := [.nils, .nils, .nils]) (c := c1) (n := 3) rfl cl1 (goodChain.cell r1)
  obtain ⟨H2, hH2⟩ : ∃ H2, H1 ++ [c1] = H2 := ⟨_, rfl⟩
  have f2 : Fr [] H1 H2 := by rw [← hH2]; exact .app
  have l2 : H2.length = H1.length + 1 := by rw [← hH2]; simp
  have X2 : H2[H1.length]? = some c1 := by rw [← hH2]; simp
  rw [hH2] at v1
  obtain ⟨vS, vD, vU, RS, RD, RU, hcc, C, hin⟩ := rChain_in (lo := 2) X2 (goodChain.keep r1 f2 (fun _ _ => no_nil)) n1 (fun i hi => by have := b1 i hi; omega) (fun hi => by have := b1 _ hi; omega)
  obtain ⟨H3, vS', vD', vU', RS', RD', RU', t3, C3, k3⟩ := spec_l17Fall_op a h hm i (fun u hu => Nat.le_trans (hm.2.2.2 u hu) (by omega)) H1.length 2 H2 vS vD vU RS RD RU C (by omega)
  have Z3 : H3[1]? = some [.nils, .nils, .nils] := by
    have hc := f2.blk (f1.blk Z0 no_nil) no_nil
    have hno : ∀ S : List Nat, (∀ j ∈ S, j ∈ RS ∨ j ∈ RD ∨ j ∈ RU) → 1 ∉ S := fun S hS hi' => by
      have := b1 1 (hin 1 (hS 1 hi')); omega
    rw [k3 1 (List.getElem?_eq_some_iff.1 hc).1 (by omega) (hno _ fun j hj => Or.inl hj) (hno _ fun j hj => Or.inr (Or.inl hj)) (hno _ fun j hj => Or.inr (Or.inr hj)), hc]
  obtain ⟨hr3, nd3⟩ := C3.fin
  have l3 := kloadA_at (n := 3) C3.cell rfl
  have hc3 : [vS', vD', vU'].all GV.isCell = true := by simp [(cell_of C3.s).2, (cell_of C3.d).2, (cell_of C3.u).2]
  have s3 := kstoreA_at (n := 3) Z3 rfl (c' := [vS', vD', vU']) rfl hc3
  have hl3 := (List.getElem?_eq_some_iff.1 Z3).1
  obtain ⟨H4, hH4⟩ : ∃ H4, H3.set 1 [vS', vD', vU'] = H4 := ⟨_, rfl⟩
  have f4 : Fr [1] H3 H4 := by rw [← hH4]; exact .set (by simp)
  rw [hH4] at s3
  have A4 : H4[1]? = some [vS', vD', vU'] := by rw [← hH4, List.getElem?_set_self hl3]
  have l4 := kloadA_at (n := 3) A4 rfl
  have e1 := finN_chain (t := (fallM a i).2) (goodChain.keep hr3 f4 (fun i hi h => by
    rw [List.mem_singleton] at h
    simp only [List.mem_append] at hi
    rcases hi with h' | h' | h'
    · have := C3.ls i h'; omega
    · have := C3.ld i h'; omega
    · have := C3.lu i h'; omega))
  apply S.spec_Fall.gives (k := 0)
  simp [S.spec_Fall.run, hbox, hal, kloadA_at A0 hML, q, t1, v1, hH2, t3, l3, s3, l4, e1, -kN_eq, -kF_OO, -kloadA_ptr, -kstore_ptr, -kbox_agg, -kalloc_eq]
  simp [kalloc_at, v1, t3, l3, s3, l4, e1, -kloadA_ptr, -kstore_ptr, -kalloc_eq]
noncomputable def fallR (a : ChainT) (i : Int) : ChainT × Bool := onM a (fallM a i)
theorem fallR_ok (a : ChainT) (hm : okChain a) (i : Int) (hz : zChain a ≤ 1048576) : okChain (fallR a i).1 := fallM_ok a hm hz i
theorem spec_FallR (a : ChainT) (hm : okChain a) (i : Int) : NN fn.spec_Fall [.agg (mChain true a), .int .i64 i] = some (.tup [.agg (mChain false (fallR a i).1), .bool (fallR a i).2]) := spec_Fall_spec a hm i
theorem impl_FallR (a : ChainT) (hm : okChain a) (i : Int) (b : Nat) : ∃ c bl, OO fn.impl_Fall [.agg (mChain true a), .int .i64 i] b = some (.tup [.agg c, .bool (fallR a i).2], bl) ∧ ∀ H T, H.length = b → rChain (H ++ bl ++ T) c (fallR a i).1 (List.range' b bl.length) := impl_Fall_spec a hm i b
end Go.Proofs.Ytlbnioapepelnaa.G

namespace Go.Proofs.Ytlbnioapepelnaa.G
open Go.RowKit
noncomputable section
variable {R : Type} (k : Nat) (σ : GS) (h : Heap)
namespace S.laws_FnExactFall
noncomputable def c0 := bodyOf Try.f3
noncomputable def c1 := cR c0
noncomputable def c2 := cR c1
noncomputable def c3 := cR c2
noncomputable def c4 := cR c3
noncomputable def c5 := cR c4
noncomputable def c6 := cR c5
noncomputable def c7 := cR c6
noncomputable def c8 := cR c7
noncomputable def c9 := cR c8
noncomputable def c10 := cR c9
noncomputable def c11 := cR c10
noncomputable def c12 := cR c11
noncomputable def c13 := cR c12
noncomputable def c14 := cR c13
noncomputable def c15 := cR c14
noncomputable def c16 := cR c15
noncomputable def c17 := cR c16
noncomputable def c18 := cR c17
noncomputable def c19 := cR c18
noncomputable def c20 := cR c19
@[simp] def n20 {R : Type} (k : Nat) (G : KT1 R) (v4 v9 v12 : GV) (h : Heap) := (kloadA 3 h v9).bind fun v93 => (kN NN fn.laws_heldChain [v93, (.int .i64 1)] h).bind fun v95 => (kbin .lss v95 (.int .i64 0)).bind fun v97 => kcond v97 (G .ret (.bool false) h) ((kbin .neq v95 v12).bind fun v100 => kcond v100 (G .ret (.bool false) h) (G .ret (.bool true) h))
theorem n20_eq (G : KT1 R) : KC k 101 c20 σ h (Q1 G 4) = W3 (n20 k G) 4 9 12 σ h := by kernel_rfl
noncomputable def c21 := cL c19
noncomputable def c22 := cR c21
@[simp] def n22 {R : Type} (k : Nat) (G : KT3 R) (v4 v9 v12 v92 : GV) (h : Heap) := kcond v92 (G .ret (.bool false) v9 v12 h) (G .nrm v4 v9 v12 h)
theorem n22_eq (G : KT3 R) : KC k 101 c22 σ h (Q3 G 4 9 12) = W4 (n22 k G) 4 9 12 92 σ h := by kernel_rfl
noncomputable def c23 := cL c21
noncomputable def o23 : Array Oper := cO c23
@[simp] def g23_2 {R : Type} (k : Nat) (G : KT4 R) (v4 v9 v12 v88 v91 : GV) (h : Heap) := (kpick v88 (.bool true) v91).bind fun v92 => G .nrm v4 v9 v12 v92 h
theorem g23_2_eq (G : KT4 R) : kgroups PP cfg NN HH 101 o23 [(none, [8])] σ h (fun σ h => G .nrm (σ 4) (σ 9) (σ 12) (σ 92) h) = W5 (g23_2 k G) 4 9 12 88 91 σ h := by kernel_rfl
@[simp] def g23_1 (G : KT4 R) (v4 v7 v9 v12 v15 v88 : GV) (h : Heap) := bif tr false v88 then (keqB .neq v15 v7).bind fun v91 => g23_2 k G v4 v9 v12 v88 v91 h else g23_2 k G v4 v9 v12 v88 .un h
theorem g23_1_eq (G : KT4 R) : kgroups PP cfg NN HH 101 o23 [(some (4, false), [5, 6, 7]), (none, [8])] σ h (fun σ h => G .nrm (σ 4) (σ 9) (σ 12) (σ 92) h) = W6 (g23_1 k G) 4 7 9 12 15 88 σ h := (kgroups_cons (fun σ h => g23_2_eq k σ h G)).trans (by kernel_rfl)
@[simp] def g23_0 (G : KT4 R) (v4 v6 v7 v9 v12 v14 v15 : GV) (h : Heap) := (kloadA 3 h v14).bind fun v84 => (kloadA 3 h v6).bind fun v85 => (kN NN fn.laws_eqChain [v84, v85] h).bind fun v86 => (kun .not v86).bind fun v87 => g23_1 k G v4 v7 v9 v12 v15 v87 h
theorem g23_0_eq (G : KT4 R) : kgroups PP cfg NN HH 101 o23 [(none, [0, 1, 2, 3, 4]), (some (4, false), [5, 6, 7]), (none, [8])] σ h (fun σ h => G .nrm (σ 4) (σ 9) (σ 12) (σ 92) h) = W7 (g23_0 k G) 4 6 7 9 12 14 15 σ h := (kgroups_cons (fun σ h => g23_1_eq k σ h G)).trans (by kernel_rfl)
@[simp] def n23 (G : KT4 R) (v4 v6 v7 v9 v12 v14 v15 : GV) (h : Heap) := g23_0 k G v4 v6 v7 v9 v12 v14 v15 h
theorem n23_eq (G : KT4 R) : KC k 101 c23 σ h (Q4 G 4 9 12 92) = W7 (n23 k G) 4 6 7 9 12 14 15 σ h := (kregion_eq (id := 25) (draw := false) (ops := o23) (gs := [(none, [0, 1, 2, 3, 4]), (some (4, false), [5, 6, 7]), (none, [8])]) (by kernel_rfl) (by kernel_rfl) (by kernel_rfl)).trans (g23_0_eq k σ h G)
@[simp] def n21 (G : KT3 R) (v4 v6 v7 v9 v12 v14 v15 : GV) (h : Heap) := n23 k (fun x v4 v9 v12 v92 h => kx x (n22 k G v4 v9 v12 v92 h) (G x v4 v9 v12 h)) v4 v6 v7 v9 v12 v14 v15 h
theorem n21_eq (G : KT3 R) : KC k 101 c21 σ h (Q3 G 4 9 12) = W7 (n21 k G) 4 6 7 9 12 14 15 σ h := (kseq (b := c22) rfl (fun σ h => n22_eq k σ h G)).trans (n23_eq k σ h (fun x v4 v9 v12 v92 h => kx x (n22 k G v4 v9 v12 v92 h) (G x v4 v9 v12 h)))
@[simp] def n19 (G : KT1 R) (v4 v6 v7 v9 v12 v14 v15 : GV) (h : Heap) := n21 k (fun x v4 v9 v12 h => kx x (n20 k G v4 v9 v12 h) (G x v4 h)) v4 v6 v7 v9 v12 v14 v15 h
theorem n19_eq (G : KT1 R) : KC k 101 c19 σ h (Q1 G 4) = W7 (n19 k G) 4 6 7 9 12 14 15 σ h := (kseq (b := c20) rfl (fun σ h => n20_eq k σ h G)).trans (n21_eq k σ h (fun x v4 v9 v12 h => kx x (n20 k G v4 v9 v12 h) (G x v4 h)))
noncomputable def c24 := cL c18
@[simp] def n18 (G : KT1 R) (v1 v2 v4 v6 v7 v9 v12 : GV) (h : Heap) := (kloadA 3 h v2).bind fun v78 => (kF false HH fn.laws_toChain [v78] h).bind fun r => kr r fun v79 h => (kF false HH fn.impl_Fall [v79, v1] h).bind fun r => kr r fun v81 h => (kxt 0 v81).bind fun v82 => (kxt 1 v81).bind fun v83 => kalloc [.nils, .nils, .nils] h fun v14 h => (kstore 3 h v14 v82).bind fun h => n19 k G v4 v6 v7 v9 v12 v14 v83 h
theorem n18_eq (G : KT1 R) : KC k 101 c18 σ h (Q1 G 4) = W7 (n18 k G) 1 2 4 6 7 9 12 σ h := (kseq (a := c24) (b := c19) rfl (fun σ h => n19_eq k σ h G)).trans (by kernel_rfl)
noncomputable def c25 := cL c17
@[simp] def n17 (G : KT1 R) (v1 v2 v4 v6 v7 v9 v12 v13 : GV) (h : Heap) := (kbin .neq v13 v12).bind fun v76 => kcond v76 (G .ret (.bool false) h) (n18 k G v1 v2 v4 v6 v7 v9 v12 h)
theorem n17_eq (G : KT1 R) : KC k 101 c17 σ h (Q1 G 4) = W8 (n17 k G) 1 2 4 6 7 9 12 13 σ h := (kseq (a := c25) (b := c18) rfl (fun σ h => n18_eq k σ h G)).trans (by kernel_rfl)
noncomputable def c26 := cL c16
@[simp] def n16 (G : KT1 R) (v1 v2 v4 v6 v7 v9 v12 v13 : GV) (h : Heap) := (kbin .lss v13 (.int .i64 0)).bind fun v73 => kcond v73 (G .ret (.bool false) h) (n17 k G v1 v2 v4 v6 v7 v9 v12 v13 h)
theorem n16_eq (G : KT1 R) : KC k 101 c16 σ h (Q1 G 4) = W8 (n16 k G) 1 2 4 6 7 9 12 13 σ h := (kseq (a := c26) (b := c17) rfl (fun σ h => n17_eq k σ h G)).trans (by kernel_rfl)
noncomputable def c27 := cL c15
@[simp] def n15 (G : KT1 R) (v1 v2 v4 v6 v7 v9 v12 v13 : GV) (h : Heap) := (kloadA 3 h v9).bind fun v69 => (kN NN fn.laws_heldChain [v69, v13] h).bind fun v71 => n16 k G v1 v2 v4 v6 v7 v9 v12 v71 h
theorem n15_eq (G : KT1 R) : KC k 101 c15 σ h (Q1 G 4) = W8 (n15 k G) 1 2 4 6 7 9 12 13 σ h := (kseq (a := c27) (b := c16) rfl (fun σ h => n16_eq k σ h G)).trans (by kernel_rfl)
noncomputable def c28 := cL c14
@[simp] def n14 (G : KT1 R) (v1 v2 v4 v6 v7 v9 v12 : GV) (h : Heap) := n15 k G v1 v2 v4 v6 v7 v9 v12 (.int .i64 1) h
theorem n14_eq (G : KT1 R) : KC k 101 c14 σ h (Q1 G 4) = W7 (n14 k G) 1 2 4 6 7 9 12 σ h := (kseq (a := c28) (b := c15) rfl (fun σ h => n15_eq k σ h G)).trans (by kernel_rfl)
noncomputable def c29 := cL c13
@[simp] def n13 (G : KT1 R) (v1 v2 v4 v6 v7 v9 v12 : GV) (h : Heap) := (kloadA 3 h v9).bind fun v66 => (HH fn.laws_markChain [v66, v12] h).bind fun r => kr r fun v68 h => n14 k G v1 v2 v4 v6 v7 v9 v68 h
theorem n13_eq (G : KT1 R) : KC k 101 c13 σ h (Q1 G 4) = W7 (n13 k G) 1 2 4 6 7 9 12 σ h := (kseq (a := c29) (b := c14) rfl (fun σ h => n14_eq k σ h G)).trans (by kernel_rfl)
noncomputable def c30 := cL c12
@[simp] def n12 (G : KT1 R) (v1 v2 v4 v6 v7 v9 : GV) (h : Heap) := n13 k G v1 v2 v4 v6 v7 v9 (.int .i64 1) h
theorem n12_eq (G : KT1 R) : KC k 101 c12 σ h (Q1 G 4) = W6 (n12 k G) 1 2 4 6 7 9 σ h := (kseq (a := c30) (b := c13) rfl (fun σ h => n13_eq k σ h G)).trans (by kernel_rfl)
noncomputable def c31 := cL c11
noncomputable def c32 := cR c31
@[simp] def n32 {R : Type} (k : Nat) (G : KT6 R) (v1 v2 v4 v6 v7 v9 v65 : GV) (h : Heap) := kcond v65 (G .ret v1 v2 (.bool false) v6 v7 v9 h) (G .nrm v1 v2 v4 v6 v7 v9 h)
theorem n32_eq (G : KT6 R) : KC k 101 c32 σ h (Q6 G 1 2 4 6 7 9) = W7 (n32 k G) 1 2 4 6 7 9 65 σ h := by kernel_rfl
noncomputable def c33 := cL c31
noncomputable def o33 : Array Oper := cO c33
@[simp] def g33_4 {R : Type} (k : Nat) (G : KT7 R) (v1 v2 v4 v6 v7 v9 v61 v64 : GV) (h : Heap) := (kpick v61 (.bool true) v64).bind fun v65 => G .nrm v1 v2 v4 v6 v7 v9 v65 h
theorem g33_4_eq (G : KT7 R) : kgroups PP cfg NN HH 101 o33 [(none, [12])] σ h (fun σ h => G .nrm (σ 1) (σ 2) (σ 4) (σ 6) (σ 7) (σ 9) (σ 65) h) = W8 (g33_4 k G) 1 2 4 6 7 9 61 64 σ h := by kernel_rfl
@[simp] def g33_3 (G : KT7 R) (v1 v2 v4 v6 v7 v9 v10 v61 : GV) (h : Heap) := bif tr false v61 then (keqB .neq v10 v7).bind fun v64 => g33_4 k G v1 v2 v4 v6 v7 v9 v61 v64 h else g33_4 k G v1 v2 v4 v6 v7 v9 v61 .un h
theorem g33_3_eq (G : KT7 R) : kgroups PP cfg NN HH 101 o33 [(some (8, false), [9, 10, 11]), (none, [12])] σ h (fun σ h => G .nrm (σ 1) (σ 2) (σ 4) (σ 6) (σ 7) (σ 9) (σ 65) h) = W8 (g33_3 k G) 1 2 4 6 7 9 10 61 σ h := (kgroups_cons (fun σ h => g33_4_eq k σ h G)).trans (by kernel_rfl)
@[simp] def g33_2 (G : KT7 R) (v1 v2 v4 v6 v7 v9 v10 v55 v59 : GV) (h : Heap) := (kpick v55 (.bool true) v59).bind fun v60 => g33_3 k G v1 v2 v4 v6 v7 v9 v10 v60 h
theorem g33_2_eq (G : KT7 R) : kgroups PP cfg NN HH 101 o33 [(none, [7, 8]), (some (8, false), [9, 10, 11]), (none, [12])] σ h (fun σ h => G .nrm (σ 1) (σ 2) (σ 4) (σ 6) (σ 7) (σ 9) (σ 65) h) = W9 (g33_2 k G) 1 2 4 6 7 9 10 55 59 σ h := (kgroups_cons (fun σ h => g33_3_eq k σ h G)).trans (by kernel_rfl)
@[simp] def g33_1 (G : KT7 R) (v1 v2 v4 v6 v7 v9 v10 v55 : GV) (h : Heap) := bif tr false v55 then (kloadA 3 h v9).bind fun v56 => (kloadA 3 h v6).bind fun v57 => (kN NN fn.laws_eqChain [v56, v57] h).bind fun v58 => (kun .not v58).bind fun v59 => g33_2 k G v1 v2 v4 v6 v7 v9 v10 v55 v59 h else g33_2 k G v1 v2 v4 v6 v7 v9 v10 v55 .un h
theorem g33_1_eq (G : KT7 R) : kgroups PP cfg NN HH 101 o33 [(some (2, false), [3, 4, 5, 6]), (none, [7, 8]), (some (8, false), [9, 10, 11]), (none, [12])] σ h (fun σ h => G .nrm (σ 1) (σ 2) (σ 4) (σ 6) (σ 7) (σ 9) (σ 65) h) = W8 (g33_1 k G) 1 2 4 6 7 9 10 55 σ h := (kgroups_cons (fun σ h => g33_2_eq k σ h G)).trans (by kernel_rfl)
@[simp] def g33_0 (G : KT7 R) (v1 v2 v4 v6 v7 v9 v10 v11 : GV) (h : Heap) := (kbin .lss v11 (.int .i64 0)).bind fun v54 => g33_1 k G v1 v2 v4 v6 v7 v9 v10 v54 h
theorem g33_0_eq (G : KT7 R) : kgroups PP cfg NN HH 101 o33 [(none, [0, 1, 2]), (some (2, false), [3, 4, 5, 6]), (none, [7, 8]), (some (8, false), [9, 10, 11]), (none, [12])] σ h (fun σ h => G .nrm (σ 1) (σ 2) (σ 4) (σ 6) (σ 7) (σ 9) (σ 65) h) = W8 (g33_0 k G) 1 2 4 6 7 9 10 11 σ h := (kgroups_cons (fun σ h => g33_1_eq k σ h G)).trans (by kernel_rfl)
@[simp] def n33 (G : KT7 R) (v1 v2 v4 v6 v7 v9 v10 v11 : GV) (h : Heap) := g33_0 k G v1 v2 v4 v6 v7 v9 v10 v11 h
theorem n33_eq (G : KT7 R) : KC k 101 c33 σ h (Q7 G 1 2 4 6 7 9 65) = W8 (n33 k G) 1 2 4 6 7 9 10 11 σ h := (kregion_eq (id := 14) (draw := false) (ops := o33) (gs := [(none, [0, 1, 2]), (some (2, false), [3, 4, 5, 6]), (none, [7, 8]), (some (8, false), [9, 10, 11]), (none, [12])]) (by kernel_rfl) (by kernel_rfl) (by kernel_rfl)).trans (g33_0_eq k σ h G)
@[simp] def n31 (G : KT6 R) (v1 v2 v4 v6 v7 v9 v10 v11 : GV) (h : Heap) := n33 k (fun x v1 v2 v4 v6 v7 v9 v65 h => kx x (n32 k G v1 v2 v4 v6 v7 v9 v65 h) (G x v1 v2 v4 v6 v7 v9 h)) v1 v2 v4 v6 v7 v9 v10 v11 h
theorem n31_eq (G : KT6 R) : KC k 101 c31 σ h (Q6 G 1 2 4 6 7 9) = W8 (n31 k G) 1 2 4 6 7 9 10 11 σ h := (kseq (b := c32) rfl (fun σ h => n32_eq k σ h G)).trans (n33_eq k σ h (fun x v1 v2 v4 v6 v7 v9 v65 h => kx x (n32 k G v1 v2 v4 v6 v7 v9 v65 h) (G x v1 v2 v4 v6 v7 v9 h)))
@[simp] def n11 (G : KT1 R) (v1 v2 v4 v6 v7 v9 v10 v11 : GV) (h : Heap) := n31 k (fun x v1 v2 v4 v6 v7 v9 h => kx x (n12 k G v1 v2 v4 v6 v7 v9 h) (G x v4 h)) v1 v2 v4 v6 v7 v9 v10 v11 h
theorem n11_eq (G : KT1 R) : KC k 101 c11 σ h (Q1 G 4) = W8 (n11 k G) 1 2 4 6 7 9 10 11 σ h := (kseq (b := c12) rfl (fun σ h => n12_eq k σ h G)).trans (n31_eq k σ h (fun x v1 v2 v4 v6 v7 v9 h => kx x (n12 k G v1 v2 v4 v6 v7 v9 h) (G x v4 h)))
noncomputable def c34 := cL c10
@[simp] def n10 (G : KT1 R) (v1 v2 v4 v6 v7 v8 v9 v10 v11 : GV) (h : Heap) := (kloadA 3 h v8).bind fun v50 => (HH fn.laws_markChain [v50, v11] h).bind fun r => kr r fun v52 h => n11 k G v1 v2 v4 v6 v7 v9 v10 v52 h
theorem n10_eq (G : KT1 R) : KC k 101 c10 σ h (Q1 G 4) = W9 (n10 k G) 1 2 4 6 7 8 9 10 11 σ h := (kseq (a := c34) (b := c11) rfl (fun σ h => n11_eq k σ h G)).trans (by kernel_rfl)
noncomputable def c35 := cL c9
@[simp] def n9 (G : KT1 R) (v1 v2 v4 v6 v7 v8 v9 v10 : GV) (h : Heap) := n10 k G v1 v2 v4 v6 v7 v8 v9 v10 (.int .i64 1) h
theorem n9_eq (G : KT1 R) : KC k 101 c9 σ h (Q1 G 4) = W8 (n9 k G) 1 2 4 6 7 8 9 10 σ h := (kseq (a := c35) (b := c10) rfl (fun σ h => n10_eq k σ h G)).trans (by kernel_rfl)
noncomputable def c36 := cL c8
@[simp] def n8 (G : KT1 R) (v1 v2 v4 v6 v7 v8 v9 v10 : GV) (h : Heap) := (kloadA 3 h v8).bind fun v45 => (kloadA 3 h v2).bind fun v46 => (kF false HH fn.laws_toChain [v46] h).bind fun r => kr r fun v47 h => (kN NN fn.laws_eqChain [v45, v47] h).bind fun v48 => (kun .not v48).bind fun v49 => kcond v49 (G .ret (.bool false) h) (n9 k G v1 v2 v4 v6 v7 v8 v9 v10 h)
theorem n8_eq (G : KT1 R) : KC k 101 c8 σ h (Q1 G 4) = W8 (n8 k G) 1 2 4 6 7 8 9 10 σ h := (kseq (a := c36) (b := c9) rfl (fun σ h => n9_eq k σ h G)).trans (by kernel_rfl)
noncomputable def c37 := cL c7
noncomputable def c38 := cR c37
@[simp] def n38 {R : Type} (k : Nat) (G : KT8 R) (v1 v2 v4 v6 v7 v8 v9 v10 v44 : GV) (h : Heap) := kcond v44 (G .ret v1 v2 (.bool false) v6 v7 v8 v9 v10 h) (G .nrm v1 v2 v4 v6 v7 v8 v9 v10 h)
theorem n38_eq (G : KT8 R) : KC k 101 c38 σ h (Q8 G 1 2 4 6 7 8 9 10) = W9 (n38 k G) 1 2 4 6 7 8 9 10 44 σ h := by kernel_rfl
noncomputable def c39 := cL c37
noncomputable def o39 : Array Oper := cO c39
@[simp] def g39_2 {R : Type} (k : Nat) (G : KT9 R) (v1 v2 v4 v6 v7 v8 v9 v10 v40 v43 : GV) (h : Heap) := (kpick v40 (.bool true) v43).bind fun v44 => G .nrm v1 v2 v4 v6 v7 v8 v9 v10 v44 h
theorem g39_2_eq (G : KT9 R) : kgroups PP cfg NN HH 101 o39 [(none, [8])] σ h (fun σ h => G .nrm (σ 1) (σ 2) (σ 4) (σ 6) (σ 7) (σ 8) (σ 9) (σ 10) (σ 44) h) = W10 (g39_2 k G) 1 2 4 6 7 8 9 10 40 43 σ h := by kernel_rfl
@[simp] def g39_1 (G : KT9 R) (v1 v2 v4 v6 v7 v8 v9 v10 v40 : GV) (h : Heap) := bif tr false v40 then (keqB .neq v10 v7).bind fun v43 => g39_2 k G v1 v2 v4 v6 v7 v8 v9 v10 v40 v43 h else g39_2 k G v1 v2 v4 v6 v7 v8 v9 v10 v40 .un h
theorem g39_1_eq (G : KT9 R) : kgroups PP cfg NN HH 101 o39 [(some (4, false), [5, 6, 7]), (none, [8])] σ h (fun σ h => G .nrm (σ 1) (σ 2) (σ 4) (σ 6) (σ 7) (σ 8) (σ 9) (σ 10) (σ 44) h) = W9 (g39_1 k G) 1 2 4 6 7 8 9 10 40 σ h := (kgroups_cons (fun σ h => g39_2_eq k σ h G)).trans (by kernel_rfl)
@[simp] def g39_0 (G : KT9 R) (v1 v2 v4 v6 v7 v8 v9 v10 : GV) (h : Heap) := (kloadA 3 h v9).bind fun v36 => (kloadA 3 h v6).bind fun v37 => (kN NN fn.laws_eqChain [v36, v37] h).bind fun v38 => (kun .not v38).bind fun v39 => g39_1 k G v1 v2 v4 v6 v7 v8 v9 v10 v39 h
theorem g39_0_eq (G : KT9 R) : kgroups PP cfg NN HH 101 o39 [(none, [0, 1, 2, 3, 4]), (some (4, false), [5, 6, 7]), (none, [8])] σ h (fun σ h => G .nrm (σ 1) (σ 2) (σ 4) (σ 6) (σ 7) (σ 8) (σ 9) (σ 10) (σ 44) h) = W8 (g39_0 k G) 1 2 4 6 7 8 9 10 σ h := (kgroups_cons (fun σ h => g39_1_eq k σ h G)).trans (by kernel_rfl)
@[simp] def n39 (G : KT9 R) (v1 v2 v4 v6 v7 v8 v9 v10 : GV) (h : Heap) := g39_0 k G v1 v2 v4 v6 v7 v8 v9 v10 h
theorem n39_eq (G : KT9 R) : KC k 101 c39 σ h (Q9 G 1 2 4 6 7 8 9 10 44) = W8 (n39 k G) 1 2 4 6 7 8 9 10 σ h := (kregion_eq (id := 8) (draw := false) (ops := o39) (gs := [(none, [0, 1, 2, 3, 4]), (some (4, false), [5, 6, 7]), (none, [8])]) (by kernel_rfl) (by kernel_rfl) (by kernel_rfl)).trans (g39_0_eq k σ h G)
@[simp] def n37 (G : KT8 R) (v1 v2 v4 v6 v7 v8 v9 v10 : GV) (h : Heap) := n39 k (fun x v1 v2 v4 v6 v7 v8 v9 v10 v44 h => kx x (n38 k G v1 v2 v4 v6 v7 v8 v9 v10 v44 h) (G x v1 v2 v4 v6 v7 v8 v9 v10 h)) v1 v2 v4 v6 v7 v8 v9 v10 h
theorem n37_eq (G : KT8 R) : KC k 101 c37 σ h (Q8 G 1 2 4 6 7 8 9 10) = W8 (n37 k G) 1 2 4 6 7 8 9 10 σ h := (kseq (b := c38) rfl (fun σ h => n38_eq k σ h G)).trans (n39_eq k σ h (fun x v1 v2 v4 v6 v7 v8 v9 v10 v44 h => kx x (n38 k G v1 v2 v4 v6 v7 v8 v9 v10 v44 h) (G x v1 v2 v4 v6 v7 v8 v9 v10 h)))
@[simp] def n7 (G : KT1 R) (v1 v2 v4 v6 v7 v8 v9 v10 : GV) (h : Heap) := n37 k (fun x v1 v2 v4 v6 v7 v8 v9 v10 h => kx x (n8 k G v1 v2 v4 v6 v7 v8 v9 v10 h) (G x v4 h)) v1 v2 v4 v6 v7 v8 v9 v10 h
theorem n7_eq (G : KT1 R) : KC k 101 c7 σ h (Q1 G 4) = W8 (n7 k G) 1 2 4 6 7 8 9 10 σ h := (kseq (b := c8) rfl (fun σ h => n8_eq k σ h G)).trans (n37_eq k σ h (fun x v1 v2 v4 v6 v7 v8 v9 v10 h => kx x (n8 k G v1 v2 v4 v6 v7 v8 v9 v10 h) (G x v4 h)))
noncomputable def c40 := cL c6
@[simp] def n6 (G : KT1 R) (v1 v2 v4 v6 v7 v8 : GV) (h : Heap) := (kloadA 3 h v8).bind fun v31 => (kF false HH fn.impl_Fall [v31, v1] h).bind fun r => kr r fun v33 h => (kxt 0 v33).bind fun v34 => (kxt 1 v33).bind fun v35 => kalloc [.nils, .nils, .nils] h fun v9 h => (kstore 3 h v9 v34).bind fun h => n7 k G v1 v2 v4 v6 v7 v8 v9 v35 h
theorem n6_eq (G : KT1 R) : KC k 101 c6 σ h (Q1 G 4) = W6 (n6 k G) 1 2 4 6 7 8 σ h := (kseq (a := c40) (b := c7) rfl (fun σ h => n7_eq k σ h G)).trans (by kernel_rfl)
noncomputable def c41 := cL c5
@[simp] def n5 (G : KT1 R) (v1 v2 v4 v6 v7 : GV) (h : Heap) := (kloadA 3 h v2).bind fun v28 => (kF false HH fn.laws_toChain [v28] h).bind fun r => kr r fun v29 h => kalloc [.nils, .nils, .nils] h fun v8 h => (kstore 3 h v8 v29).bind fun h => n6 k G v1 v2 v4 v6 v7 v8 h
theorem n5_eq (G : KT1 R) : KC k 101 c5 σ h (Q1 G 4) = W5 (n5 k G) 1 2 4 6 7 σ h := (kseq (a := c41) (b := c6) rfl (fun σ h => n6_eq k σ h G)).trans (by kernel_rfl)
noncomputable def c42 := cL c4
@[simp] def n4 (G : KT1 R) (v1 v2 v4 : GV) (h : Heap) := (kloadA 3 h v2).bind fun v22 => (kF false HH fn.laws_toChain [v22] h).bind fun r => kr r fun v23 h => (kN NN fn.spec_Fall [v23, v1] h).bind fun v25 => (kxt 0 v25).bind fun v26 => (kxt 1 v25).bind fun v27 => kalloc [.nils, .nils, .nils] h fun v6 h => (kstore 3 h v6 v26).bind fun h => n5 k G v1 v2 v4 v6 v27 h
theorem n4_eq (G : KT1 R) : KC k 101 c4 σ h (Q1 G 4) = W3 (n4 k G) 1 2 4 σ h := (kseq (a := c42) (b := c5) rfl (fun σ h => n5_eq k σ h G)).trans (by kernel_rfl)
noncomputable def c43 := cL c3
@[simp] def n3 (G : KT1 R) (v1 v2 v4 v5 : GV) (h : Heap) := (kbin .lss v5 (.int .i64 0)).bind fun v20 => kcond v20 (G .ret (.bool true) h) (n4 k G v1 v2 v4 h)
theorem n3_eq (G : KT1 R) : KC k 101 c3 σ h (Q1 G 4) = W4 (n3 k G) 1 2 4 5 σ h := (kseq (a := c43) (b := c4) rfl (fun σ h => n4_eq k σ h G)).trans (by kernel_rfl)
noncomputable def c44 := cL c2
@[simp] def n2 (G : KT1 R) (v1 v2 v4 v5 : GV) (h : Heap) := (kloadA 3 h v2).bind fun v16 => (kN NN fn.laws_szChain [v16, v5] h).bind fun v18 => n3 k G v1 v2 v4 v18 h
theorem n2_eq (G : KT1 R) : KC k 101 c2 σ h (Q1 G 4) = W4 (n2 k G) 1 2 4 5 σ h := (kseq (a := c44) (b := c3) rfl (fun σ h => n3_eq k σ h G)).trans (by kernel_rfl)
noncomputable def c45 := cL c1
@[simp] def n1 (G : KT1 R) (v1 v2 v4 : GV) (h : Heap) := n2 k G v1 v2 v4 (.int .i64 1048576) h
theorem n1_eq (G : KT1 R) : KC k 101 c1 σ h (Q1 G 4) = W3 (n1 k G) 1 2 4 σ h := (kseq (a := c45) (b := c2) rfl (fun σ h => n2_eq k σ h G)).trans (by kernel_rfl)
noncomputable def c46 := cL c0
@[simp] def n0 (G : KT1 R) (v0 v1 : GV) (h : Heap) := kbox v0 h fun v2 h => n1 k G v1 v2 (.bool false) h
theorem n0_eq (G : KT1 R) : KC k 101 c0 σ h (Q1 G 4) = W2 (n0 k G) 0 1 σ h := (kseq (a := c46) (b := c1) rfl (fun σ h => n1_eq k σ h G)).trans (by kernel_rfl)
def run {R : Type} (k : Nat) (a0 a1 : GV) (h : Heap) (fin : GV → Heap → Option R) : Option R := n0 k (fun x v4 h => kend x (fin v4 h)) a0 a1 h
theorem gives {k : Nat} {a0 a1 : GV} {v : GV} (e : run k a0 a1 [] finN = some v) : NN fn.laws_FnExactFall [a0, a1] = some v := nω_of (by kernel_rfl) (((kfun_eq (nt := 101) (c := c0) (show PP.funcs[fn.laws_FnExactFall]? = some Try.f3 by kernel_rfl) (by kernel_rfl) (by kernel_rfl) (fun x σ h => by cases x <;> kernel_rfl)).trans (n0_eq k _ [] _)).trans e)
end S.laws_FnExactFall
end
end Go.Proofs.Ytlbnioapepelnaa.G

namespace Go.Proofs.Ytlbnioapepelnaa.G
open Go.RowKit
theorem dec_of_Fall {p : Prop} (i : Decidable p) (h : p) : @decide p i = true := by cases i <;> simp_all
theorem bors_pl_Fall {H : Heap} {g : GV} {gs xs : List GV} (hg : bor 9 H g = some (g, [])) (h : bors H gs = some xs) : bors H (g :: gs) = some (g :: xs) := by rw [bors_cons, hg, h]; rfl
theorem FnExactFall_row (a0 : (List ((List (ByteArray) × Int)) × List (List (ByteArray)) × List (List (Int)))) (i0 : (inSl (fun x1 : (List (ByteArray) × Int) => inSl (fun x2 : ByteArray => x2.size ≤ maxLen) x1.1 ∧ (Lit.int .i64 x1.2).wf = true) a0.1) ∧ (inSl (fun x1 : List (ByteArray) => inSl (fun x2 : ByteArray => x2.size ≤ maxLen) x1) a0.2.1 ∧ inSl (fun x1 : List (Int) => inSl (fun x2 : Int => (Lit.int .i64 x2).wf = true) x1) a0.2.2)) (a1 : Int) (i1 : (Lit.int .i64 a1).wf = true) : NN fn.laws_FnExactFall [(.agg [fzl true 2 (fun x1 : (List (ByteArray) × Int) => [fzl true 1 (fun x2 : ByteArray => [GV.str x2]) x1.1, GV.int .i64 x1.2]) a0.1, fzl true 1 (fun x1 : List (ByteArray) => [fzl true 1 (fun x2 : ByteArray => [GV.str x2]) x1]) a0.2.1, fzl true 1 (fun x1 : List (Int) => [fzl true 1 (fun x2 : Int => [GV.int .i64 x2]) x1]) a0.2.2]), (GV.int .i64 a1)] = some (.bool true) := by
  obtain ⟨e0_1, e0_2, e0_3⟩ := a0
  try simp only at i0
  have sz0 := laws_szChain_spec e0_1 e0_2 e0_3 1048576 i0 (by omega) (by omega)
  obtain ⟨a0, ha0⟩ : ∃ a : (List ((List (ByteArray) × Int)) × List (List (ByteArray)) × List (List (Int))), (e0_1, e0_2, e0_3) = a := ⟨_, rfl⟩
  have sz0 : NN fn.laws_szChain [.agg (mChain true (e0_1, e0_2, e0_3)), .int .i64 1048576] = _ := sz0
  have bM0 : ∀ (H : Heap) (gs zs : List GV), bors H gs = some zs → bors H (.agg (mChain true (e0_1, e0_2, e0_3)) :: gs) = some (.agg (mChain true (e0_1, e0_2, e0_3)) :: zs) := fun H gs zs h => by
    rw [bors_cons, h]; simp
  show NN fn.laws_FnExactFall [.agg (mChain true (e0_1, e0_2, e0_3)), .int .i64 a1] = some (.bool true)
  rw [ha0] at sz0 bM0 ⊢
  have hML0 : (mChain true a0).length = 3 := rfl
  obtain ⟨M0, hM0⟩ : ∃ M, mChain true a0 = M := ⟨_, rfl⟩
  rw [hM0] at sz0 bM0 hML0 ⊢
  apply S.laws_FnExactFall.gives (k := 0)
  obtain ⟨H0, hH0⟩ : ∃ H0 : Heap, [M0] = H0 := ⟨_, rfl⟩
  have hbox0 : ∀ {Q : Type} (K : GV → Heap → Option Q), kbox (.agg M0) [] K = K (.ptr 0 0 3) H0 := fun K => by rw [kbox_agg, hML0, ← hH0]; rfl
  have A0 : H0[0]? = some M0 := by rw [← hH0]; rfl
  have l0 : H0.length = 1 := by rw [← hH0]; rfl
  have sz' : kN NN fn.laws_szChain [.agg M0, .int .i64 1048576] H0 = _ := kN_at (bM0 _ _ _ (by simp)) sz0
  by_cases h : (1048576 : Int) < (zChain a0 : Int)
  · rw [if_pos h] at sz'
    unfold S.laws_FnExactFall.run S.laws_FnExactFall.n0
    rw [hbox0]
    simp [kloadA_at A0 hML0, sz', -kN_eq, -kloadA_ptr]
  rw [if_neg h] at sz'
  have hz : zChain a0 ≤ 1048576 := by omega
  have hm0 : okChain a0 := okChain_of hz
  have h1 : ¬ ((1048576 : Int) - (zChain a0 : Int) < 0) := by omega
  have ksz : kbin .lss (.int .i64 (1048576 - (zChain a0 : Int))) (.int .i64 0) = some (.bool false) := by rw [kbin_lss, decide_eq_false h1]
  have to0 := fun H => fresh_agg goodChain (f := fn.laws_toChain) (args := [.agg M0]) (xs := [.agg M0]) (H := H) (x := a0) (bM0 _ _ _ (by simp)) (by rw [← hM0]; exact laws_toChain_spec a0 hm0 H.length)
  have cl0 := cChain_le hm0
  have okr := fallR_ok a0 hm0 a1 hz
  have sp := spec_FallR a0 hm0 a1
  have im := impl_FallR a0 hm0 a1
  obtain ⟨w0, w1, hres⟩ : ∃ w0 w1, fallR a0 a1 = (w0, w1) := ⟨_, _, rfl⟩
  rw [hres] at okr sp
  simp only [hres] at im okr sp
  have ok0 : okChain w0 := okr
  have cw0 := cChain_le ok0
  have bW0 : ∀ (H : Heap) (gs zs : List GV), bors H gs = some zs → bors H (.agg (mChain false w0) :: gs) = some (.agg (mChain true w0) :: zs) := fun H gs zs h => by
    rw [bors_cons, h]; simp
  have hWL0 : (mChain false w0).length = 3 := rfl
  have hWc0 : (mChain false w0).all GV.isCell = true := by simp
  obtain ⟨W0, hW0⟩ : ∃ W, mChain false w0 = W := ⟨_, rfl⟩
  rw [hW0] at bW0 hWL0 hWc0 sp
  have esChain : ∀ x : (List ((List (ByteArray) × Int)) × List (List (ByteArray)) × List (List (Int))), okChain x → NN fn.laws_eqChain [.agg (mChain true x), .agg (mChain true x)] = some (.bool true) := fun x hm => by
    obtain ⟨q_1, q_2, q_3⟩ := x
    have := laws_eqChain_spec q_1 q_1 q_2 q_2 q_3 q_3 hm
    exact this.trans (congrArg (fun b => some (GV.bool b)) (dec_of_Fall _ rfl))
  have ec0 := esChain w0 ok0
  have ea0 := esChain a0 hm0
  obtain ⟨c1, R1, H1, t1, r1_, n1, b1, f1, l1⟩ := to0 H0
  have A0_1 := f1.blk A0 no_nil
  have s2 : kN NN fn.spec_Fall [.agg c1, .int .i64 a1] H1 = some (.tup [.agg W0, .bool w1]) := kN_at (bors_agg goodChain (by omega) r1_ (bors_pl_Fall (by simp) (by simp))) sp
  have v3 := var_at (H := H1) (z := [.nils, .nils, .nils]) (c := W0) (n := 3) rfl hWL0 hWc0
  obtain ⟨H3, hH3⟩ : ∃ H', H1 ++ [W0] = H' := ⟨_, rfl⟩
  have f3 : Fr [] H1 H3 := by rw [← hH3]; exact .app
  have l3 : H3.length = H1.length + 1 := by rw [← hH3]; simp
  have BW0_3 : H3[H1.length]? = some W0 := by rw [← hH3]; simp
  rw [hH3] at v3
  have A0_3 := f3.blk A0_1 no_nil
  obtain ⟨c4, R4, H4, t4, r4_, n4, b4, f4, l4⟩ := to0 H3
  have A0_4 := f4.blk A0_3 no_nil
  have BW0_4 := f4.blk BW0_3 no_nil
  have xl0 := goodChain.len r4_
  have xc0 := goodChain.cell r4_
  have v5 := var_at (H := H4) (z := [.nils, .nils, .nils]) (c := c4) (n := 3) rfl xl0 xc0
  obtain ⟨H5, hH5⟩ : ∃ H', H4 ++ [c4] = H' := ⟨_, rfl⟩
  have f5 : Fr [] H4 H5 := by rw [← hH5]; exact .app
  have l5 : H5.length = H4.length + 1 := by rw [← hH5]; simp
  have BX0_5 : H5[H4.length]? = some c4 := by rw [← hH5]; simp
  rw [hH5] at v5
  have A0_5 := f5.blk A0_4 no_nil
  have BW0_5 := f5.blk BW0_4 no_nil
  have r4_5 := goodChain.keep r4_ f5 (fun _ _ => no_nil)
  obtain ⟨g6, R6, H6, t6, r6_, n6, b6, f6, l6⟩ := fresh_tup goodChain (t := w1) (f := fn.impl_Fall) (args := [.agg c4, .int .i64 a1]) (xs := [.agg (mChain true a0), .int .i64 a1]) (H := H5) (x := w0) (bors_agg goodChain (by omega) r4_5 (bors_pl_Fall (by simp) (by simp))) (im H5.length)
  have A0_6 := f6.blk A0_5 no_nil
  have BW0_6 := f6.blk BW0_5 no_nil
  have BX0_6 := f6.blk BX0_5 no_nil
  have r4_6 := goodChain.keep r4_5 f6 (fun _ _ => no_nil)
  have glG0 := goodChain.len r6_
  have gcG0 := goodChain.cell r6_
  have v7 := var_at (H := H6) (z := [.nils, .nils, .nils]) (c := g6) (n := 3) rfl glG0 gcG0
  obtain ⟨H7, hH7⟩ : ∃ H', H6 ++ [g6] = H' := ⟨_, rfl⟩
  have f7 : Fr [] H6 H7 := by rw [← hH7]; exact .app
  have l7 : H7.length = H6.length + 1 := by rw [← hH7]; simp
  have BG0_7 : H7[H6.length]? = some g6 := by rw [← hH7]; simp
  rw [hH7] at v7
  have A0_7 := f7.blk A0_6 no_nil
  have BW0_7 := f7.blk BW0_6 no_nil
  have BX0_7 := f7.blk BX0_6 no_nil
  have r4_7 := goodChain.keep r4_6 f7 (fun _ _ => no_nil)
  have r6_7 := goodChain.keep r6_ f7 (fun _ _ => no_nil)
  have e8 : kN NN fn.laws_eqChain [.agg g6, .agg W0] H7 = some (.bool true) := kN_at (bors_agg goodChain (by omega) r6_7 (bW0 _ _ _ (by simp))) ec0
  have kt1 : keqB .neq (.bool w1) (.bool w1) = some (.bool false) := by cases w1 <;> rfl
  obtain ⟨c10, R10, H10, t10, r10_, n10, b10, f10, l10⟩ := to0 H7
  have A0_10 := f10.blk A0_7 no_nil
  have BW0_10 := f10.blk BW0_7 no_nil
  have BX0_10 := f10.blk BX0_7 no_nil
  have BG0_10 := f10.blk BG0_7 no_nil
  have r4_10 := goodChain.keep r4_7 f10 (fun _ _ => no_nil)
  have r6_10 := goodChain.keep r6_7 f10 (fun _ _ => no_nil)
  have e11 : kN NN fn.laws_eqChain [.agg c4, .agg c10] H10 = some (.bool true) := kN_at (bors_agg goodChain (by omega) r4_10 (bors_agg goodChain (by omega) r10_ (by simp))) ea0
  obtain ⟨H12, m12, rr12, f12⟩ := laws_markChain_spec H10 c4 a0 R4 (1) hm0 r4_10 n4 (by omega)
  have l12 := f12.1
  simp only [show ((1 : Nat) : Int) = 1 from rfl] at m12
  have A0_12 := f12.blk A0_10 (b4.no (by omega))
  have BW0_12 := f12.blk BW0_10 (b4.no (by omega))
  have BX0_12 := f12.blk BX0_10 (b4.no (by omega))
  have BG0_12 := f12.blk BG0_10 (b4.no (by omega))
  have r6_12 := goodChain.keep r6_10 f12 (b6.apart b4 (by omega))
  have kn13 : kbin .lss (.int .i64 ((1 + cChain a0 : Nat) : Int)) (.int .i64 0) = some (.bool false) := by rw [kbin_lss, decide_eq_false (by omega)]
  have e14 : kN NN fn.laws_eqChain [.agg g6, .agg W0] H12 = some (.bool true) := kN_at (bors_agg goodChain (by omega) r6_12 (bW0 _ _ _ (by simp))) ec0
  obtain ⟨H16, m16, rr16, f16⟩ := laws_markChain_spec H12 g6 w0 R6 (1) ok0 r6_12 n6 (by omega)
  have l16 := f16.1
  simp only [show ((1 : Nat) : Int) = 1 from rfl] at m16
  have A0_16 := f16.blk A0_12 (b6.no (by omega))
  have BW0_16 := f16.blk BW0_12 (b6.no (by omega))
  have BX0_16 := f16.blk BX0_12 (b6.no (by omega))
  have BG0_16 := f16.blk BG0_12 (b6.no (by omega))
  have hd17 := laws_heldChain_spec w0 (1) ok0 (by omega)
  have q17 : kN NN fn.laws_heldChain [.agg g6, .int .i64 ((1 : Nat) : Int)] H16 = some (.int .i64 ((1 + cChain w0 : Nat) : Int)) := kN_at (bors_agg goodChain (by omega) rr16 (bors_pl_Fall (by simp) (by simp))) hd17
  simp only [show ((1 : Nat) : Int) = 1 from rfl] at q17
  have kn17 : kbin .lss (.int .i64 ((1 + cChain w0 : Nat) : Int)) (.int .i64 0) = some (.bool false) := by rw [kbin_lss, decide_eq_false (by omega)]
  have kq : kbin .neq (.int .i64 ((1 + cChain w0 : Nat) : Int)) (.int .i64 ((1 + cChain w0 : Nat) : Int)) = some (.bool false) := by simp
  obtain ⟨c18, R18, H18, t18, r18_, n18, b18, f18, l18⟩ := to0 H16
  have A0_18 := f18.blk A0_16 no_nil
  have BW0_18 := f18.blk BW0_16 no_nil
  have BX0_18 := f18.blk BX0_16 no_nil
  have BG0_18 := f18.blk BG0_16 no_nil
  have r6_18 := goodChain.keep rr16 f18 (fun _ _ => no_nil)
  obtain ⟨g19, R19, H19, t19, r19_, n19, b19, f19, l19⟩ := fresh_tup goodChain (t := w1) (f := fn.impl_Fall) (args := [.agg c18, .int .i64 a1]) (xs := [.agg (mChain true a0), .int .i64 a1]) (H := H18) (x := w0) (bors_agg goodChain (by omega) r18_ (bors_pl_Fall (by simp) (by simp))) (im H18.length)
  have A0_19 := f19.blk A0_18 no_nil
  have BW0_19 := f19.blk BW0_18 no_nil
  have BX0_19 := f19.blk BX0_18 no_nil
  have BG0_19 := f19.blk BG0_18 no_nil
  have r6_19 := goodChain.keep r6_18 f19 (fun _ _ => no_nil)
  have r18_19 := goodChain.keep r18_ f19 (fun _ _ => no_nil)
  have glY0 := goodChain.len r19_
  have gcY0 := goodChain.cell r19_
  have v20 := var_at (H := H19) (z := [.nils, .nils, .nils]) (c := g19) (n := 3) rfl glY0 gcY0
  obtain ⟨H20, hH20⟩ : ∃ H', H19 ++ [g19] = H' := ⟨_, rfl⟩
  have f20 : Fr [] H19 H20 := by rw [← hH20]; exact .app
  have l20 : H20.length = H19.length + 1 := by rw [← hH20]; simp
  have BY0_20 : H20[H19.length]? = some g19 := by rw [← hH20]; simp
  rw [hH20] at v20
  have A0_20 := f20.blk A0_19 no_nil
  have BW0_20 := f20.blk BW0_19 no_nil
  have BX0_20 := f20.blk BX0_19 no_nil
  have BG0_20 := f20.blk BG0_19 no_nil
  have r6_20 := goodChain.keep r6_19 f20 (fun _ _ => no_nil)
  have r18_20 := goodChain.keep r18_19 f20 (fun _ _ => no_nil)
  have r19_20 := goodChain.keep r19_ f20 (fun _ _ => no_nil)
  have e21 : kN NN fn.laws_eqChain [.agg g19, .agg W0] H20 = some (.bool true) := kN_at (bors_agg goodChain (by omega) r19_20 (bW0 _ _ _ (by simp))) ec0
  have hd23 := laws_heldChain_spec w0 (1) ok0 (by omega)
  have q23 : kN NN fn.laws_heldChain [.agg g6, .int .i64 ((1 : Nat) : Int)] H20 = some (.int .i64 ((1 + cChain w0 : Nat) : Int)) := kN_at (bors_agg goodChain (by omega) r6_20 (bors_pl_Fall (by simp) (by simp))) hd23
  simp only [show ((1 : Nat) : Int) = 1 from rfl] at q23
  have kn23 : kbin .lss (.int .i64 ((1 + cChain w0 : Nat) : Int)) (.int .i64 0) = some (.bool false) := by rw [kbin_lss, decide_eq_false (by omega)]
  simp only [S.laws_FnExactFall.run, S.laws_FnExactFall.n0, S.laws_FnExactFall.n1, S.laws_FnExactFall.n2, Option.bind_some, kr_mk, kxt_tup, List.getElem?_cons_zero, List.getElem?_cons_succ, kcond_bool, cond_true, cond_false, kun_not, Bool.not_true, Bool.not_false, kpick_bool, tr_bool, tr_un, kx_nrm, kx_ret, kb_nrm, kb_ret, kend_ret, kend_nrm, kold_eq, krs_eq, finN_bool, klenS_str, beq_self_eq_true, beq_false, Bool.false_eq_true, BEq.rfl, Bool.beq_eq_decide_eq, decide_true, decide_false, reduceCtorEq, kalloc_at, hbox0, kloadA_at A0 hML0, sz', ksz, t1, s2, v3, hH3, kloadA_at A0_3 hML0, t4, v5, hH5, kloadA_at BX0_5 xl0, t6, v7, hH7, kloadA_at BG0_7 glG0, kloadA_at BW0_7 hWL0, e8, kt1, kloadA_at BX0_7 xl0, kloadA_at A0_7 hML0, t10, e11, kloadA_at BX0_10 xl0, m12, kn13, kloadA_at BG0_12 glG0, kloadA_at BW0_12 hWL0, e14, m16, kloadA_at BG0_16 glG0, q17, kn17, kq, kloadA_at A0_16 hML0, t18, t19, v20, hH20, kloadA_at BY0_20 glY0, kloadA_at BW0_20 hWL0, e21, kloadA_at BG0_20 glG0, q23, kn23, List.length_cons, List.length_nil, Nat.zero_add, Nat.reduceAdd]
  try simp only [S.laws_FnExactFall.n3, S.laws_FnExactFall.n4, S.laws_FnExactFall.n5, S.laws_FnExactFall.n6, Option.bind_some, kr_mk, kxt_tup, List.getElem?_cons_zero, List.getElem?_cons_succ, kcond_bool, cond_true, cond_false, kun_not, Bool.not_true, Bool.not_false, kpick_bool, tr_bool, tr_un, kx_nrm, kx_ret, kb_nrm, kb_ret, kend_ret, kend_nrm, kold_eq, krs_eq, finN_bool, klenS_str, beq_self_eq_true, beq_false, Bool.false_eq_true, BEq.rfl, Bool.beq_eq_decide_eq, decide_true, decide_false, reduceCtorEq, kalloc_at, hbox0, kloadA_at A0 hML0, sz', ksz, t1, s2, v3, hH3, kloadA_at A0_3 hML0, t4, v5, hH5, kloadA_at BX0_5 xl0, t6, v7, hH7, kloadA_at BG0_7 glG0, kloadA_at BW0_7 hWL0, e8, kt1, kloadA_at BX0_7 xl0, kloadA_at A0_7 hML0, t10, e11, kloadA_at BX0_10 xl0, m12, kn13, kloadA_at BG0_12 glG0, kloadA_at BW0_12 hWL0, e14, m16, kloadA_at BG0_16 glG0, q17, kn17, kq, kloadA_at A0_16 hML0, t18, t19, v20, hH20, kloadA_at BY0_20 glY0, kloadA_at BW0_20 hWL0, e21, kloadA_at BG0_20 glG0, q23, kn23, List.length_cons, List.length_nil, Nat.zero_add, Nat.reduceAdd]
  try simp only [S.laws_FnExactFall.n7, S.laws_FnExactFall.n37, S.laws_FnExactFall.n39, S.laws_FnExactFall.g39_0, Option.bind_some, kr_mk, kxt_tup, List.getElem?_cons_zero, List.getElem?_cons_succ, kcond_bool, cond_true, cond_false, kun_not, Bool.not_true, Bool.not_false, kpick_bool, tr_bool, tr_un, kx_nrm, kx_ret, kb_nrm, kb_ret, kend_ret, kend_nrm, kold_eq, krs_eq, finN_bool, klenS_str, beq_self_eq_true, beq_false, Bool.false_eq_true, BEq.rfl, Bool.beq_eq_decide_eq, decide_true, decide_false, reduceCtorEq, kalloc_at, hbox0, kloadA_at A0 hML0, sz', ksz, t1, s2, v3, hH3, kloadA_at A0_3 hML0, t4, v5, hH5, kloadA_at BX0_5 xl0, t6, v7, hH7, kloadA_at BG0_7 glG0, kloadA_at BW0_7 hWL0, e8, kt1, kloadA_at BX0_7 xl0, kloadA_at A0_7 hML0, t10, e11, kloadA_at BX0_10 xl0, m12, kn13, kloadA_at BG0_12 glG0, kloadA_at BW0_12 hWL0, e14, m16, kloadA_at BG0_16 glG0, q17, kn17, kq, kloadA_at A0_16 hML0, t18, t19, v20, hH20, kloadA_at BY0_20 glY0, kloadA_at BW0_20 hWL0, e21, kloadA_at BG0_20 glG0, q23, kn23, List.length_cons, List.length_nil, Nat.zero_add, Nat.reduceAdd]
  try simp only [S.laws_FnExactFall.g39_1, S.laws_FnExactFall.g39_2, S.laws_FnExactFall.n38, S.laws_FnExactFall.n8, Option.bind_some, kr_mk, kxt_tup, List.getElem?_cons_zero, List.getElem?_cons_succ, kcond_bool, cond_true, cond_false, kun_not, Bool.not_true, Bool.not_false, kpick_bool, tr_bool, tr_un, kx_nrm, kx_ret, kb_nrm, kb_ret, kend_ret, kend_nrm, kold_eq, krs_eq, finN_bool, klenS_str, beq_self_eq_true, beq_false, Bool.false_eq_true, BEq.rfl, Bool.beq_eq_decide_eq, decide_true, decide_false, reduceCtorEq, kalloc_at, hbox0, kloadA_at A0 hML0, sz', ksz, t1, s2, v3, hH3, kloadA_at A0_3 hML0, t4, v5, hH5, kloadA_at BX0_5 xl0, t6, v7, hH7, kloadA_at BG0_7 glG0, kloadA_at BW0_7 hWL0, e8, kt1, kloadA_at BX0_7 xl0, kloadA_at A0_7 hML0, t10, e11, kloadA_at BX0_10 xl0, m12, kn13, kloadA_at BG0_12 glG0, kloadA_at BW0_12 hWL0, e14, m16, kloadA_at BG0_16 glG0, q17, kn17, kq, kloadA_at A0_16 hML0, t18, t19, v20, hH20, kloadA_at BY0_20 glY0, kloadA_at BW0_20 hWL0, e21, kloadA_at BG0_20 glG0, q23, kn23, List.length_cons, List.length_nil, Nat.zero_add, Nat.reduceAdd]
  try simp only [S.laws_FnExactFall.n9, S.laws_FnExactFall.n10, S.laws_FnExactFall.n11, S.laws_FnExactFall.n31, Option.bind_some, kr_mk, kxt_tup, List.getElem?_cons_zero, List.getElem?_cons_succ, kcond_bool, cond_true, cond_false, kun_not, Bool.not_true, Bool.not_false, kpick_bool, tr_bool, tr_un, kx_nrm, kx_ret, kb_nrm, kb_ret, kend_ret, kend_nrm, kold_eq, krs_eq, finN_bool, klenS_str, beq_self_eq_true, beq_false, Bool.false_eq_true, BEq.rfl, Bool.beq_eq_decide_eq, decide_true, decide_false, reduceCtorEq, kalloc_at, hbox0, kloadA_at A0 hML0, sz', ksz, t1, s2, v3, hH3, kloadA_at A0_3 hML0, t4, v5, hH5, kloadA_at BX0_5 xl0, t6, v7, hH7, kloadA_at BG0_7 glG0, kloadA_at BW0_7 hWL0, e8, kt1, kloadA_at BX0_7 xl0, kloadA_at A0_7 hML0, t10, e11, kloadA_at BX0_10 xl0, m12, kn13, kloadA_at BG0_12 glG0, kloadA_at BW0_12 hWL0, e14, m16, kloadA_at BG0_16 glG0, q17, kn17, kq, kloadA_at A0_16 hML0, t18, t19, v20, hH20, kloadA_at BY0_20 glY0, kloadA_at BW0_20 hWL0, e21, kloadA_at BG0_20 glG0, q23, kn23, List.length_cons, List.length_nil, Nat.zero_add, Nat.reduceAdd]
  try simp only [S.laws_FnExactFall.n33, S.laws_FnExactFall.g33_0, S.laws_FnExactFall.g33_1, S.laws_FnExactFall.g33_2, Option.bind_some, kr_mk, kxt_tup, List.getElem?_cons_zero, List.getElem?_cons_succ, kcond_bool, cond_true, cond_false, kun_not, Bool.not_true, Bool.not_false, kpick_bool, tr_bool, tr_un, kx_nrm, kx_ret, kb_nrm, kb_ret, kend_ret, kend_nrm, kold_eq, krs_eq, finN_bool, klenS_str, beq_self_eq_true, beq_false, Bool.false_eq_true, BEq.rfl, Bool.beq_eq_decide_eq, decide_true, decide_false, reduceCtorEq, kalloc_at, hbox0, kloadA_at A0 hML0, sz', ksz, t1, s2, v3, hH3, kloadA_at A0_3 hML0, t4, v5, hH5, kloadA_at BX0_5 xl0, t6, v7, hH7, kloadA_at BG0_7 glG0, kloadA_at BW0_7 hWL0, e8, kt1, kloadA_at BX0_7 xl0, kloadA_at A0_7 hML0, t10, e11, kloadA_at BX0_10 xl0, m12, kn13, kloadA_at BG0_12 glG0, kloadA_at BW0_12 hWL0, e14, m16, kloadA_at BG0_16 glG0, q17, kn17, kq, kloadA_at A0_16 hML0, t18, t19, v20, hH20, kloadA_at BY0_20 glY0, kloadA_at BW0_20 hWL0, e21, kloadA_at BG0_20 glG0, q23, kn23, List.length_cons, List.length_nil, Nat.zero_add, Nat.reduceAdd]
  try simp only [S.laws_FnExactFall.g33_3, S.laws_FnExactFall.g33_4, S.laws_FnExactFall.n32, S.laws_FnExactFall.n12, Option.bind_some, kr_mk, kxt_tup, List.getElem?_cons_zero, List.getElem?_cons_succ, kcond_bool, cond_true, cond_false, kun_not, Bool.not_true, Bool.not_false, kpick_bool, tr_bool, tr_un, kx_nrm, kx_ret, kb_nrm, kb_ret, kend_ret, kend_nrm, kold_eq, krs_eq, finN_bool, klenS_str, beq_self_eq_true, beq_false, Bool.false_eq_true, BEq.rfl, Bool.beq_eq_decide_eq, decide_true, decide_false, reduceCtorEq, kalloc_at, hbox0, kloadA_at A0 hML0, sz', ksz, t1, s2, v3, hH3, kloadA_at A0_3 hML0, t4, v5, hH5, kloadA_at BX0_5 xl0, t6, v7, hH7, kloadA_at BG0_7 glG0, kloadA_at BW0_7 hWL0, e8, kt1, kloadA_at BX0_7 xl0, kloadA_at A0_7 hML0, t10, e11, kloadA_at BX0_10 xl0, m12, kn13, kloadA_at BG0_12 glG0, kloadA_at BW0_12 hWL0, e14, m16, kloadA_at BG0_16 glG0, q17, kn17, kq, kloadA_at A0_16 hML0, t18, t19, v20, hH20, kloadA_at BY0_20 glY0, kloadA_at BW0_20 hWL0, e21, kloadA_at BG0_20 glG0, q23, kn23, List.length_cons, List.length_nil, Nat.zero_add, Nat.reduceAdd]
  try simp only [S.laws_FnExactFall.n13, S.laws_FnExactFall.n14, S.laws_FnExactFall.n15, S.laws_FnExactFall.n16, Option.bind_some, kr_mk, kxt_tup, List.getElem?_cons_zero, List.getElem?_cons_succ, kcond_bool, cond_true, cond_false, kun_not, Bool.not_true, Bool.not_false, kpick_bool, tr_bool, tr_un, kx_nrm, kx_ret, kb_nrm, kb_ret, kend_ret, kend_nrm, kold_eq, krs_eq, finN_bool, klenS_str, beq_self_eq_true, beq_false, Bool.false_eq_true, BEq.rfl, Bool.beq_eq_decide_eq, decide_true, decide_false, reduceCtorEq, kalloc_at, hbox0, kloadA_at A0 hML0, sz', ksz, t1, s2, v3, hH3, kloadA_at A0_3 hML0, t4, v5, hH5, kloadA_at BX0_5 xl0, t6, v7, hH7, kloadA_at BG0_7 glG0, kloadA_at BW0_7 hWL0, e8, kt1, kloadA_at BX0_7 xl0, kloadA_at A0_7 hML0, t10, e11, kloadA_at BX0_10 xl0, m12, kn13, kloadA_at BG0_12 glG0, kloadA_at BW0_12 hWL0, e14, m16, kloadA_at BG0_16 glG0, q17, kn17, kq, kloadA_at A0_16 hML0, t18, t19, v20, hH20, kloadA_at BY0_20 glY0, kloadA_at BW0_20 hWL0, e21, kloadA_at BG0_20 glG0, q23, kn23, List.length_cons, List.length_nil, Nat.zero_add, Nat.reduceAdd]
  try simp only [S.laws_FnExactFall.n17, S.laws_FnExactFall.n18, S.laws_FnExactFall.n19, S.laws_FnExactFall.n21, Option.bind_some, kr_mk, kxt_tup, List.getElem?_cons_zero, List.getElem?_cons_succ, kcond_bool, cond_true, cond_false, kun_not, Bool.not_true, Bool.not_false, kpick_bool, tr_bool, tr_un, kx_nrm, kx_ret, kb_nrm, kb_ret, kend_ret, kend_nrm, kold_eq, krs_eq, finN_bool, klenS_str, beq_self_eq_true, beq_false, Bool.false_eq_true, BEq.rfl, Bool.beq_eq_decide_eq, decide_true, decide_false, reduceCtorEq, kalloc_at, hbox0, kloadA_at A0 hML0, sz', ksz, t1, s2, v3, hH3, kloadA_at A0_3 hML0, t4, v5, hH5, kloadA_at BX0_5 xl0, t6, v7, hH7, kloadA_at BG0_7 glG0, kloadA_at BW0_7 hWL0, e8, kt1, kloadA_at BX0_7 xl0, kloadA_at A0_7 hML0, t10, e11, kloadA_at BX0_10 xl0, m12, kn13, kloadA_at BG0_12 glG0, kloadA_at BW0_12 hWL0, e14, m16, kloadA_at BG0_16 glG0, q17, kn17, kq, kloadA_at A0_16 hML0, t18, t19, v20, hH20, kloadA_at BY0_20 glY0, kloadA_at BW0_20 hWL0, e21, kloadA_at BG0_20 glG0, q23, kn23, List.length_cons, List.length_nil, Nat.zero_add, Nat.reduceAdd]
  try simp only [S.laws_FnExactFall.n23, S.laws_FnExactFall.g23_0, S.laws_FnExactFall.g23_1, S.laws_FnExactFall.g23_2, Option.bind_some, kr_mk, kxt_tup, List.getElem?_cons_zero, List.getElem?_cons_succ, kcond_bool, cond_true, cond_false, kun_not, Bool.not_true, Bool.not_false, kpick_bool, tr_bool, tr_un, kx_nrm, kx_ret, kb_nrm, kb_ret, kend_ret, kend_nrm, kold_eq, krs_eq, finN_bool, klenS_str, beq_self_eq_true, beq_false, Bool.false_eq_true, BEq.rfl, Bool.beq_eq_decide_eq, decide_true, decide_false, reduceCtorEq, kalloc_at, hbox0, kloadA_at A0 hML0, sz', ksz, t1, s2, v3, hH3, kloadA_at A0_3 hML0, t4, v5, hH5, kloadA_at BX0_5 xl0, t6, v7, hH7, kloadA_at BG0_7 glG0, kloadA_at BW0_7 hWL0, e8, kt1, kloadA_at BX0_7 xl0, kloadA_at A0_7 hML0, t10, e11, kloadA_at BX0_10 xl0, m12, kn13, kloadA_at BG0_12 glG0, kloadA_at BW0_12 hWL0, e14, m16, kloadA_at BG0_16 glG0, q17, kn17, kq, kloadA_at A0_16 hML0, t18, t19, v20, hH20, kloadA_at BY0_20 glY0, kloadA_at BW0_20 hWL0, e21, kloadA_at BG0_20 glG0, q23, kn23, List.length_cons, List.length_nil, Nat.zero_add, Nat.reduceAdd]
  try simp only [S.laws_FnExactFall.n22, S.laws_FnExactFall.n20, Option.bind_some, kr_mk, kxt_tup, List.getElem?_cons_zero, List.getElem?_cons_succ, kcond_bool, cond_true, cond_false, kun_not, Bool.not_true, Bool.not_false, kpick_bool, tr_bool, tr_un, kx_nrm, kx_ret, kb_nrm, kb_ret, kend_ret, kend_nrm, kold_eq, krs_eq, finN_bool, klenS_str, beq_self_eq_true, beq_false, Bool.false_eq_true, BEq.rfl, Bool.beq_eq_decide_eq, decide_true, decide_false, reduceCtorEq, kalloc_at, hbox0, kloadA_at A0 hML0, sz', ksz, t1, s2, v3, hH3, kloadA_at A0_3 hML0, t4, v5, hH5, kloadA_at BX0_5 xl0, t6, v7, hH7, kloadA_at BG0_7 glG0, kloadA_at BW0_7 hWL0, e8, kt1, kloadA_at BX0_7 xl0, kloadA_at A0_7 hML0, t10, e11, kloadA_at BX0_10 xl0, m12, kn13, kloadA_at BG0_12 glG0, kloadA_at BW0_12 hWL0, e14, m16, kloadA_at BG0_16 glG0, q17, kn17, kq, kloadA_at A0_16 hML0, t18, t19, v20, hH20, kloadA_at BY0_20 glY0, kloadA_at BW0_20 hWL0, e21, kloadA_at BG0_20 glG0, q23, kn23, List.length_cons, List.length_nil, Nat.zero_add, Nat.reduceAdd]
end Go.Proofs.Ytlbnioapepelnaa.G

namespace Go.Proofs.Ytlbnioapepelnaa.G
open Go.RowKit Go.ChangeShapes Go.WideShapes Go.ChangeAt

theorem frz_true {d : Nat} {h : Heap} {v : GV} {r : List Nat} (e : frz d h v = some (.bool true, r)) : v = .bool true := by
  cases d with
  | zero => cases e
  | succ d =>
    cases v with
    | bool b => cases e; rfl
    | sl i off len cap es =>
      simp only [frz, Option.bind_eq_bind, obsi] at e
      obtain ⟨cs, _, xs, _, e⟩ := e
      split at e
      · cases len <;> cases e
      · cases e
    | fz t n es cells => cases n <;> cases t <;> cases e
    | agg cs => simp only [frz, Option.bind_eq_bind, obsi] at e; obtain ⟨xs, _, e⟩ := e; cases e
    | tup cs => simp only [frz, Option.bind_eq_bind, obsi] at e; obtain ⟨xs, _, e⟩ := e; cases e
    | _ => cases e

theorem law_N {P : Program} {C : Cfg} (hM : P.follows .mixedOrders = true) (hN : NameOk P) (hX : XSound P C) {f : FuncId} {args : List GV} {us : List Value} {W : World} (hx : C.ext f = none) (e : nω P C f args = some (.bool true))
    (hgl : GL W (fun c => c < W.heap.size)) (hv : VRs W E0 (fun _ => False) args (fun c => c < W.heap.size) us) : Calls P f us.toArray W fun e w' => e = .returned (.bool true) ∧ Below W.heap.size W w' := by
  unfold nω at e
  simp only [hx] at e
  obtain ⟨⟨v, h'⟩, h1, h2⟩ := obsi.1 e
  obtain ⟨⟨v', r⟩, h3, h4⟩ := Option.map_eq_some_iff.1 h2
  simp only at h4 h3
  subst h4
  have := frz_true h3
  subst this
  obtain ⟨k, lg, h5⟩ := kω_some.1 h1
  exact law_calls hM hN hX (k := k) (by rw [h5]; rfl) (fun _ h => h) hgl (VRs_mono (w := W) ⟨fun _ _ h => h, fun _ _ _ h => h, fun _ h => h.elim⟩ _ _ _ _ (fun _ h => .inl h) (fun _ _ => rfl) hv)

theorem one_cell' {v u : Value} (h : v.cells.toList = [u]) (hv : ∀ cs, v = .agg cs → False) : v = u := by
  cases v with
  | agg cs => exact (hv cs rfl).elim
  | _ => simpa [Value.cells] using h

theorem told_one {W : World} {g : GV} {v : Value} (h : Told W [g] v.cells.toList) (hv : ∀ cs, v = .agg cs → False) : VR W E0 (fun _ => False) g (fun c => c < W.heap.size) v := by
  obtain ⟨u, us, h1, h2, h3⟩ := h
  simp only [VRsi] at h3
  subst h3
  rw [one_cell' h1 hv]
  exact h2
theorem told_agg {W : World} {cs : List GV} {v : Value} (h : Told W cs v.cells.toList) (hv : ∃ us, v = .agg us) : VR W E0 (fun _ => False) (.agg cs) (fun c => c < W.heap.size) v := by
  obtain ⟨us, rfl⟩ := hv
  exact ⟨us, rfl, h⟩

theorem tells_sl {α : Type} {P : Program} {t e es : Nat} {mk : α → List GV} {I : α → Prop} (ht : P.underlying t = some (.slice e)) (hs : P.cellsOf t = 1) (hes : P.cellsOf e = es) (he : Tells P e mk I) : Tells P t (fun xs : List α => [fzl true es mk xs]) (inSl I) := by
  subst hes
  exact tells_slice ht hs he

theorem tells_st {α : Type} {P : Program} {t : TypeId} {fs : Array Field} {l : List Field} {o sz : Nat} {mk : α → List GV} {I : α → Prop} (ht : P.underlying t = some (.struct fs)) (hl : fs.toList = l) (h : TellsAt P l o sz mk I) (ho : o = 0) (hs : P.cellsOf t = sz) : Tells P t mk I := by
  subst hl; subst ho; subst hs
  exact tells_struct ht h

theorem below_allT {H : Type} {enc : TypeId × Value → H} {P : Program} (hl : laidOutB P = true) {W W' : World} (hb : Below W.heap.size W W') :
    ∀ {ts : List TypeId} {vs : List Value} {ds : List (DataW H)} {ps : List MemPlace}, (∀ t ∈ ts, P.readableRec t = true ∧ t < P.types.size) →
      DataW.TrodAll enc P W 0 (fun _ => true) true ts vs ds ps → DataW.TrodAll enc P W' 0 (fun b => decide (b < W.heap.size)) true ts vs ds ps
  | [], [], [], _, _, h => h
  | t :: ts, v :: vs, d :: ds, ps, hr, h => by
    obtain ⟨p, q, h1, h2, rfl⟩ := h
    obtain ⟨a, b⟩ := hr t (by simp)
    exact ⟨p, q, Below.trod hl a b h1 hb (by obtain ⟨m, hm⟩ := h1; exact DataW.trod_lt m _ _ _ hm), below_allT hl hb (fun t ht => hr t (by simp [ht])) h2, rfl⟩
  | [], [], _ :: _, _, _, h => h.elim
  | [], _ :: _, _, _, _, h => h.elim
  | _ :: _, [], _, _, _, h => h.elim
  | _ :: _, _ :: _, [], _, _, h => h.elim


end Go.Proofs.Ytlbnioapepelnaa.G
