/- ReadEntry: both answer with the entry that is shown so, if there is one. -/
import Derived.Test.YtklhdbkaejbajaaDoorTRead2
namespace Go.Proofs.YtklhdbkaejbajaaDoor.G
open Go.RowKit Go.Lib
set_option linter.unusedVariables false
set_option linter.unusedSimpArgs false

/-- The entry that is shown as s. -/
def Shows (s : List UInt8) (k c q : Int) (l : List UInt8) : Prop := entP k c q l.length = true ∧ shM k c q l = s
theorem hexM_nosp (l : List UInt8) : (32 : UInt8) ∉ hexM l := by
  have hd : ∀ n, n < 16 → hexD n ≠ 32 := by decide +kernel
  intro h
  unfold hexM at h
  obtain ⟨x, _, hx⟩ := List.mem_flatMap.1 h
  have hlt := x.toNat_lt
  rcases List.mem_cons.1 hx with e | hx
  · exact hd _ (by omega) e.symm
  · rcases List.mem_cons.1 hx with e | hx
    · exact hd _ (by omega) e.symm
    · cases hx
theorem entP_cases {k c q : Int} {n : Nat} (h : entP k c q n = true) : (k = 1 ∧ 0 ≤ c ∧ c ≤ 3 ∧ 1 ≤ q ∧ q ≤ 10000 ∧ 1 ≤ n ∧ n ≤ 20) ∨ (k = 2 ∧ c = 0 ∧ q = 0 ∧ 1 ≤ n ∧ n ≤ 60) ∨ (k = 3 ∧ 1 ≤ c ∧ c ≤ 60 ∧ 1 ≤ q ∧ q ≤ 30 ∧ n = 0) := by
  unfold entP at h
  by_cases h1 : k = 1
  · simp [h1] at h; omega
  · by_cases h2 : k = 2
    · simp [h2] at h; omega
    · simp [h1, h2] at h; omega
abbrev w_keys : List UInt8 := [107, 101, 121, 115]
abbrev w_out : List UInt8 := [111, 117, 116]
abbrev w_size : List UInt8 := [115, 105, 122, 101]
/-- What its words are. -/
theorem Shows.words {s : List UInt8} {k c q : Int} {l : List UInt8} (h : Shows s k c q l) :
    (k = 1 ∧ wrd s = [w_keys, itoa c, itoa q, hexM l] ∧ 0 ≤ c ∧ c ≤ 10000 ∧ 0 ≤ q ∧ q ≤ 10000) ∨ (k = 2 ∧ wrd s = [w_out, hexM l] ∧ c = 0 ∧ q = 0) ∨ (k = 3 ∧ wrd s = [w_size, itoa c, itoa q] ∧ l = [] ∧ 0 ≤ c ∧ c ≤ 10000 ∧ 0 ≤ q ∧ q ≤ 10000) := by
  obtain ⟨h1, h2⟩ := h
  subst h2
  rcases entP_cases h1 with ⟨rfl, a⟩ | ⟨rfl, rfl, rfl, a⟩ | ⟨rfl, a1, a2, a3, a4, a5⟩
  · refine .inl ⟨rfl, ?_, by omega, by omega, by omega, by omega⟩
    have e : shM 1 c q l = w_keys ++ 32 :: (itoa c ++ 32 :: (itoa q ++ 32 :: hexM l)) := by
      unfold shM
      rw [if_pos rfl, spcM_two]
      simp [keysT]
    rw [e, wrd_hit _ _ (by decide), wrd_hit _ _ itoa_nosp, wrd_hit _ _ itoa_nosp, wrd_miss _ (hexM_nosp l)]
  · refine .inr (.inl ⟨rfl, ?_, rfl, rfl⟩)
    have e : shM 2 0 0 l = w_out ++ 32 :: hexM l := by
      unfold shM
      rw [if_neg (by decide), if_pos rfl]
      simp [outT]
    rw [e, wrd_hit _ _ (by decide), wrd_miss _ (hexM_nosp l)]
  · refine .inr (.inr ⟨rfl, ?_, List.length_eq_zero_iff.1 a5, by omega, by omega, by omega, by omega⟩)
    have e : shM 3 c q l = w_size ++ 32 :: (itoa c ++ 32 :: itoa q) := by
      unfold shM
      rw [if_neg (by decide), if_neg (by decide), spcM_two]
      simp [sizeT]
    rw [e, wrd_hit _ _ (by decide), wrd_hit _ _ itoa_nosp, wrd_miss _ itoa_nosp]
theorem Shows.ne {s : List UInt8} {k c q : Int} {l : List UInt8} (h : Shows s k c q l) : s ≠ [] := fun e => by
  have := h.words
  rw [e] at this
  simp [wrd] at this
theorem Shows.show' {s : List UInt8} {k c q : Int} {l : List UInt8} (h : Shows s k c q l) : showM k c q l = s := by
  unfold showM
  rw [if_pos h.1, h.2]
theorem shows_of {s : List UInt8} {k c q : Int} {l : List UInt8} (h : showM k c q l = s) (hs : s ≠ []) : Shows s k c q l := by
  unfold showM at h
  split at h
  · rename_i h1; exact ⟨h1, h⟩
  · exact absurd h.symm hs
theorem itoa_inj {a b : Int} (ha : 0 ≤ a ∧ a ≤ 10000) (hb : 0 ≤ b ∧ b ≤ 10000) (h : itoa a = itoa b) : a = b := by
  have := congrArg (parseIntB 64) h
  rw [parse_itoa (by omega) (by omega), parse_itoa (by omega) (by omega)] at this
  injection this
theorem hexM_inj {a b : List UInt8} (h : hexM a = hexM b) : a = b := by
  have := congrArg (unh gI) h
  rwa [unh_hex gI_hex, unh_hex gI_hex] at this
theorem Shows.uniq {s : List UInt8} {k c q k' c' q' : Int} {l l' : List UInt8} (h : Shows s k c q l) (h' : Shows s k' c' q' l') : k = k' ∧ c = c' ∧ q = q' ∧ l = l' := by
  rcases h.words with ⟨rfl, e, a⟩ | ⟨rfl, e, a⟩ | ⟨rfl, e, a⟩ <;> rcases h'.words with ⟨rfl, e', b⟩ | ⟨rfl, e', b⟩ | ⟨rfl, e', b⟩ <;> rw [e] at e' <;> first | (exfalso; simp at e'; done) | skip
  · simp only [List.cons.injEq, and_true, true_and] at e'
    exact ⟨rfl, itoa_inj (by omega) (by omega) e'.1, itoa_inj (by omega) (by omega) e'.2.1, hexM_inj e'.2.2⟩
  · simp only [List.cons.injEq, and_true, true_and] at e'
    exact ⟨rfl, by omega, by omega, hexM_inj e'⟩
  · simp only [List.cons.injEq, and_true, true_and] at e'
    exact ⟨rfl, itoa_inj (by omega) (by omega) e'.1, itoa_inj (by omega) (by omega) e'.2, by rw [a.1, b.1]⟩

/-! The program. -/
theorem app_at {b n m : Nat} {cells new z : List GV} {H : Heap} (hb : H[b]? = some cells) (hl : cells.length = n) (hm : new.length = m) (h0 : 0 < m) (hc : new.all GV.isCell = true) (hz : z.length = 1) (hn : n + m ≤ 4194304) :
    kapp z 1 16 (.sl b 0 n n 1) (.sl H.length 0 m m 1) (H ++ [new]) = some (.sl b 0 (n + m) (n + m) 1, (H ++ [new]).set b (cells ++ new)) := by
  have hbl := (List.getElem?_eq_some_iff.1 hb).1
  have hg : gcells (H ++ [new]) 1 (.sl H.length 0 m m 1) = some (m, new, [H.length]) := by
    simp only [gcells, Option.bind_eq_bind, cellsAt_if]
    have e : (H ++ [new])[H.length]? = some new := by simp
    rw [e]
    simp only [Option.bind_some]
    rw [if_pos (by omega)]
    simp only [Option.bind_some, true_and, List.drop_zero]
    rw [if_pos (Nat.le_refl _), List.take_of_length_le (by omega)]
  have e : (H ++ [new])[b]? = some cells := by rw [List.getElem?_append_left hbl]; exact hb
  unfold kapp
  rw [hg]
  simp only [Option.bind_some]
  rw [if_pos ⟨hc, hz, by simp only [maxLen]; omega, by simp only [roomMax]; omega⟩]
  simp only [cellsAt_if, e, Option.bind_some]
  rw [if_pos (by omega)]
  simp only [Option.bind_some]
  rw [if_pos ⟨trivial, Nat.le_refl _, by simp only [roomMax]; omega, by simp only [maxLen]; omega⟩, if_neg (by omega), if_pos ⟨trivial, by omega⟩, Nat.mul_one, List.take_of_length_le (by omega)]
section
variable {H : Heap} {E : List GV}
theorem e_len (hE : E.length = 4) : cellsAt (H ++ [E]) H.length 4 = some E := by
  rw [cellsAt_if]; simp [hE]
theorem e_load (hE : E.length = 4) {i : Nat} (hi : i < 4) : kload1 (H ++ [E]) (.ptr H.length i 4) = E[i]? := by
  rw [kload1_ptr, e_len hE]; rfl
theorem e_all (hE : E.length = 4) : kloadA 4 (H ++ [E]) (.ptr H.length 0 4) = some (.agg E) := by
  rw [kloadA_ptr, e_len hE]
  simp only [Option.bind_some]
  rw [if_pos (by omega), List.drop_zero, List.take_of_length_le (by omega)]
theorem e_store (hE : E.length = 4) {i : Nat} (hi : i < 4) {x : GV} (hx : x.cells = [x]) (hc : x.isCell = true) : kstore 1 (H ++ [E]) (.ptr H.length i 4) x = some (H ++ [E.set i x]) := by
  rw [kstore_at (cells := E) (by simp) hE hi hx hc]
  congr 1
  simp
theorem w_load {b N : Nat} {cells : List GV} (hb : H[b]? = some cells) (hl : cells.length = N) {i : Nat} : kload1 (H ++ [E]) (.ptr b i N) = cells[i]? := by
  have hbl := (List.getElem?_eq_some_iff.1 hb).1
  have e : (H ++ [E])[b]? = some cells := by rw [List.getElem?_append_left hbl]; exact hb
  rw [kload1_ptr, cellsAt_if, e]
  simp [hl]
theorem r_store {C R0 : List GV} (h0 : H[0]? = some R0) (hR : R0.length = 4) (hC : C.length = 4) (hcc : C.all GV.isCell = true) : ∃ H', kstore 4 (H ++ [E]) (.ptr 0 0 4) (.agg C) = some H' ∧ kloadA 4 H' (.ptr 0 0 4) = some (.agg C) := by
  have hbl := (List.getElem?_eq_some_iff.1 h0).1
  have e : (H ++ [E])[0]? = some R0 := by rw [List.getElem?_append_left hbl]; exact h0
  refine ⟨(H ++ [E]).set 0 C, ?_, ?_⟩
  · rw [kstore_ptr]
    rw [if_pos ⟨hC, hcc⟩, cellsAt_if, e]
    simp only [Option.bind_some]
    rw [if_pos hR]
    simp only [Option.bind_some]
    rw [if_pos (by omega)]
    congr 2
    show splice R0 0 C = C
    simp [splice, hC, hR]
  · rw [kloadA_ptr, cellsAt_if]
    have : ((H ++ [E]).set 0 C)[0]? = some C := List.getElem?_set_self (by simp)
    rw [this]
    simp [hC]
    rw [List.take_of_length_le (by omega)]
end
abbrev zeroE : List GV := [.int .i64 0, .int .i64 0, .int .i64 0, .str { data := #[] }]
def Reads (f : FuncId) (s : List UInt8) : Prop :=
  (∃ k c q l, Shows s k c q l ∧ NN f [.str (bs s)] = some (.tup [ent k c q l, .bool true])) ∨
  ((∀ k c q l, ¬ Shows s k c q l) ∧ NN f [.str (bs s)] = some (.tup [.agg zeroE, .bool false]))
/-- What comes of a candidate. -/
def outE (s : List UInt8) (ok : Bool) (k c q : Int) (l : List UInt8) : GV := bif ok then .tup [ent k c q l, .bool true] else .tup [.agg zeroE, .bool false]
abbrev finE : GX → GV → GV → Heap → Option GV := fun x v2 v3 h => kend x ((kloadA 4 h v2).bind fun w => finN (.tup [w, v3]) h)
theorem n5_post (s : List UInt8) (H : Heap) {R0 : List GV} (h0 : H[0]? = some R0) (hR : R0.length = 4) (k c q : Int) (l : List UInt8) :
    S.impl_ReadEntry.n5 0 finE (.str (bs s)) (.ptr 0 0 4) (.bool false) (.ptr H.length 0 4) (H ++ [[.int .i64 k, .int .i64 c, .int .i64 q, .str (bs l)]]) = some (outE s (decide (s ≠ [] ∧ showM k c q l = s)) k c q l) := by
  have eq0 : kbin .eql (.str (bs s)) (.str { data := #[] }) = some (.bool (decide (s = []))) := by
    rw [show ({ data := #[] } : ByteArray) = bs [] from rfl, eq_str]
  have al := e_all (H := H) (E := [.int .i64 k, .int .i64 c, .int .i64 q, .str (bs l)]) rfl
  have sh : ∀ H, kN NN fn.impl_ShowEntry [ent k c q l] H = _ := fun H => kN_at (by simp [ent]) (impl_ShowEntry_spec k c q l)
  have ne : kbin .neq (.str (bs (showM k c q l))) (.str (bs s)) = some (.bool (decide (showM k c q l ≠ s))) := by rw [kbin_sneq]; simp only [ne_eq, bs_inj]
  have ga : gfill (fun i => [(0, 1), (1, 1), (2, 1), (3, 1)][i]?) zeroE [] = some zeroE := rfl
  have ka : ∀ {Q : Type} (h : Heap) (K : GV → Heap → Option Q), kagg zeroE h K = K (.agg zeroE) h := fun h K => rfl
  obtain ⟨H1, s1, s2⟩ := r_store (H := H) (E := [.int .i64 k, .int .i64 c, .int .i64 q, .str (bs l)]) (C := zeroE) h0 hR rfl rfl
  obtain ⟨H2, t1, t2⟩ := r_store (H := H) (E := [.int .i64 k, .int .i64 c, .int .i64 q, .str (bs l)]) (C := [.int .i64 k, .int .i64 c, .int .i64 q, .str (bs l)]) h0 hR rfl rfl
  have f1 : ∀ H, finN (.tup [.agg zeroE, .bool false]) H = some (.tup [.agg zeroE, .bool false]) := fun H => rfl
  have f2 : ∀ H, finN (.tup [ent k c q l, .bool true]) H = some (.tup [ent k c q l, .bool true]) := fun H => rfl
  have z : (GV.agg [.int .i64 k, .int .i64 c, .int .i64 q, .str (bs l)]) = ent k c q l := rfl
  rw [z] at al t1 t2
  unfold outE
  obtain ⟨b1, hb1⟩ : ∃ b, decide (s = []) = b := ⟨_, rfl⟩
  obtain ⟨b2, hb2⟩ : ∃ b, decide (showM k c q l ≠ s) = b := ⟨_, rfl⟩
  have hd : decide (s ≠ [] ∧ showM k c q l = s) = (!b1 && !b2) := by rw [← hb1, ← hb2, Bool.eq_iff_iff]; simp
  rw [hd]
  rw [hb1] at eq0
  rw [hb2] at ne
  generalize GV.str (bs (showM k c q l)) = T at *
  generalize ent k c q l = E at *
  generalize GV.str (bs s) = D at *
  generalize H ++ [[GV.int .i64 k, .int .i64 c, .int .i64 q, .str (bs l)]] = HH0 at *
  generalize GV.ptr H.length 0 4 = P at *
  generalize GV.ptr 0 0 4 = P0 at *
  cases b1 <;> cases b2 <;> simp [S.impl_ReadEntry.n5, eq0, al, sh, ne, ga, ka, s1, s2, t1, t2, f1, f2, -kN_eq]
theorem reads_of {f : FuncId} {s : List UInt8} {k c q : Int} {l : List UInt8} (e : NN f [.str (bs s)] = some (outE s (decide (s ≠ [] ∧ showM k c q l = s)) k c q l)) (hop : ∀ k' c' q' l', Shows s k' c' q' l' → k' = k ∧ c' = c ∧ q' = q ∧ l' = l) : Reads f s := by
  by_cases h : s ≠ [] ∧ showM k c q l = s
  · rw [decide_eq_true h] at e
    exact .inl ⟨k, c, q, l, shows_of h.2 h.1, e⟩
  · rw [decide_eq_false h] at e
    refine .inr ⟨fun k' c' q' l' hs => h ?_, e⟩
    obtain ⟨rfl, rfl, rfl, rfl⟩ := hop _ _ _ _ hs
    exact ⟨hs.ne, hs.show'⟩
theorem impl_ReadEntry_spec (s : List UInt8) (hs : s.length ≤ 1048576) : Reads fn.impl_ReadEntry s := by
  obtain ⟨v7, H1, p1, p2, p3⟩ := Split_spec s hs [zeroE]
  have hl := wrd_len s
  have h10 : H1[0]? = some zeroE := by rw [p3.2 0 (by simp) (by simp)]; rfl
  rcases p2 with ⟨q1, _⟩ | ⟨b, rfl, hb⟩
  · exfalso
    have := congrArg List.length q1
    simp at this
    simp [this] at hl
  obtain ⟨cells, hcells⟩ : ∃ cells, ((wrd s).map bs).flatMap cs = cells := ⟨_, rfl⟩
  have hcm : cells = (wrd s).map wcell := by rw [← hcells]; simp [cs, List.flatMap_map]; rw [List.map_eq_flatMap]; rfl
  rw [hcells] at hb
  have hcl : cells.length = (wrd s).length := by rw [hcm, List.length_map]
  rw [List.length_map] at p1
  have hb0 : b ≠ 0 := fun e => by
    subst e
    rw [h10] at hb
    have := Option.some.inj hb
    rw [hcm] at this
    cases hw : wrd s with
    | nil => rw [hw] at this; cases this
    | cons w ws => rw [hw, List.map_cons] at this; injection this with this; cases this
  obtain ⟨P3, hP3⟩ : ∃ P3 : List GV, [.str { data := #[] }, .str { data := #[] }, .str { data := #[] }] = P3 := ⟨_, rfl⟩
  have ap := app_at (m := 3) (new := P3) (z := [.str { data := #[] }]) hb hcl (by rw [← hP3]; rfl) (by omega) (by rw [← hP3]; rfl) rfl (by omega)
  obtain ⟨H2, hH2⟩ : ∃ H2, (H1 ++ [P3]).set b (cells ++ P3) = H2 := ⟨_, rfl⟩
  rw [hH2] at ap
  have hbl := (List.getElem?_eq_some_iff.1 hb).1
  have h20 : H2[0]? = some zeroE := by rw [← hH2, List.getElem?_set_ne hb0, List.getElem?_append_left (by omega)]; exact h10
  have h2b : H2[b]? = some (cells ++ P3) := by rw [← hH2, List.getElem?_set_self (by simp; omega)]
  obtain ⟨N, hN⟩ : ∃ N, (wrd s).length + 3 = N := ⟨_, rfl⟩
  rw [hN] at ap
  have hcN : (cells ++ P3).length = N := by rw [List.length_append, hcl, ← hP3]; exact hN
  -- the words
  obtain ⟨wd, hwd⟩ : ∃ wd : List (List UInt8), wrd s ++ [[], [], []] = wd := ⟨_, rfl⟩
  have hcw : cells ++ P3 = wd.map wcell := by rw [← hwd, List.map_append, ← hcm, ← hP3]; rfl
  have hwl : wd.length = N := by rw [← hN, ← hwd, List.length_append]; rfl
  have hlw : ∀ i (h : i < wd.length), wd[i].length ≤ 1048576 := fun i h => by
    have hm : wd[i] ∈ wrd s ++ [[], [], []] := by rw [hwd]; exact List.getElem_mem h
    rcases List.mem_append.1 hm with hm | hm
    · have := wrd_mem s _ hm; omega
    · simp at hm; simp [hm]
  have i0 : 0 < wd.length := by omega
  have i1 : 1 < wd.length := by omega
  have i2 : 2 < wd.length := by omega
  have i3 : 3 < wd.length := by omega
  have ld : ∀ (E : List GV) i (h : i < wd.length), kload1 (H2 ++ [E]) (.ptr b i N) = some (.str (bs wd[i])) := fun E i h => by
    rw [w_load h2b hcN, hcw, List.getElem?_map, List.getElem?_eq_getElem h]; rfl
  have ki : ∀ i : Nat, i < 4 → kia 1 (.sl b 0 N N 1) (.int .i64 (i : Int)) = some (.ptr b i N) := fun i h => kia_at (by omega) (by omega) (by omega)
  have ki0 : kia 1 (.sl b 0 N N 1) (.int .i64 0) = some (.ptr b 0 N) := ki 0 (by omega)
  have ki1 : kia 1 (.sl b 0 N N 1) (.int .i64 1) = some (.ptr b 1 N) := ki 1 (by omega)
  have ki2 : kia 1 (.sl b 0 N N 1) (.int .i64 2) = some (.ptr b 2 N) := ki 2 (by omega)
  have ki3 : kia 1 (.sl b 0 N N 1) (.int .i64 3) = some (.ptr b 3 N) := ki 3 (by omega)
  obtain ⟨c, bc, nc, hc⟩ := impl_numberOf_spec wd[1] (hlw 1 i1)
  obtain ⟨q, bq, nq, hq⟩ := impl_numberOf_spec wd[2] (hlw 2 i2)
  have n1 : ∀ H, kN NN fn.impl_numberOf [.str (bs wd[1])] H = _ := fun H => kN_at (by simp) nc
  have n2 : ∀ H, kN NN fn.impl_numberOf [.str (bs wd[2])] H = _ := fun H => kN_at (by simp) nq
  have u1 : ∀ H, kN NN fn.impl_unhex [.str (bs wd[1])] H = _ := fun H => kN_at (by simp) (impl_unhex_spec wd[1] (hlw 1 i1))
  have u3 : ∀ H, kN NN fn.impl_unhex [.str (bs wd[3])] H = _ := fun H => kN_at (by simp) (impl_unhex_spec wd[3] (hlw 3 i3))
  have ld0 := fun E => ld E 0 i0
  have ld1 := fun E => ld E 1 i1
  have ld2 := fun E => ld E 2 i2
  have ld3 := fun E => ld E 3 i3
  have ek : kbin .eql (.str (bs wd[0])) (.str { data := #[107, 101, 121, 115] }) = some (.bool (decide (wd[0] = w_keys))) := eq_str (b := w_keys)
  have eo : kbin .eql (.str (bs wd[0])) (.str { data := #[111, 117, 116] }) = some (.bool (decide (wd[0] = w_out))) := eq_str (b := w_out)
  have ez : kbin .eql (.str (bs wd[0])) (.str { data := #[115, 105, 122, 101] }) = some (.bool (decide (wd[0] = w_size))) := eq_str (b := w_size)
  have fin := n5_post s H2 h20 rfl
  have rhs : ∀ k' c' q' l', Shows s k' c' q' l' → (k' = 1 ∧ wd[0] = w_keys ∧ c = c' ∧ q = q' ∧ unh gI wd[3] = l') ∨ (k' = 2 ∧ wd[0] = w_out ∧ c' = 0 ∧ q' = 0 ∧ unh gI wd[1] = l') ∨ (k' = 3 ∧ wd[0] = w_size ∧ c = c' ∧ q = q' ∧ l' = []) := fun k' c' q' l' h => by
    rcases h.words with ⟨g1, g2, g3⟩ | ⟨g1, g2, g3⟩ | ⟨g1, g2, g3⟩ <;> rw [g2] at hwd <;> subst hwd
    · exact .inl ⟨g1, rfl, (hc c' ⟨by omega, by omega, rfl⟩).1, (hq q' ⟨by omega, by omega, rfl⟩).1, unh_hex gI_hex l'⟩
    · exact .inr (.inl ⟨g1, rfl, g3.1, g3.2, unh_hex gI_hex l'⟩)
    · exact .inr (.inr ⟨g1, rfl, (hc c' ⟨by omega, by omega, rfl⟩).1, (hq q' ⟨by omega, by omega, rfl⟩).1, g3.1⟩)
  have ga : gfill (fun i => [(0, 1), (1, 1), (2, 1), (3, 1)][i]?) zeroE [] = some zeroE := rfl
  have g3 : gfill (fun i => some (i * 1, 1)) (zeros [(.str { data := #[] })] 3) [(0, (.str { data := #[] })), (1, (.str { data := #[] })), (2, (.str { data := #[] }))] = some P3 := by rw [← hP3]; rfl
  have stz : kstore 4 (H2 ++ [zeroE]) (.ptr H2.length 0 4) (.agg zeroE) = some (H2 ++ [zeroE]) := by
    rw [kstore_ptr, if_pos ⟨rfl, rfl⟩, e_len rfl]
    simp [splice]
  have start : S.impl_ReadEntry.run 0 (.str (bs s)) [] finN = S.impl_ReadEntry.n3 0 finE (.str (bs s)) (.ptr 0 0 4) (.bool false) (.sl b 0 N N 1) (.ptr H2.length 0 4) (H2 ++ [zeroE]) := by
    have p1' : kF false HH fn.strings_Split [.str (bs s), .str { data := #[32] }] ([] ++ [zeroE]) = some (.sl b 0 (wrd s).length (wrd s).length 1, H1) := p1
    simp only [S.impl_ReadEntry.run, S.impl_ReadEntry.n0, S.impl_ReadEntry.n1, S.impl_ReadEntry.n2, kalloc_eq, p1', Option.bind_some, kr_mk, g3, kbs_eq, ap, ga, kagg_eq, List.length_nil]
    have e4 : (zeroE).length = 4 := rfl
    rw [e4, stz]
    rfl
  have st0 : ∀ x0 x1 x2 x3 n, kstore 1 (H2 ++ [[x0, x1, x2, x3]]) (.ptr H2.length 0 4) (.int .i64 n) = some (H2 ++ [[.int .i64 n, x1, x2, x3]]) := fun x0 x1 x2 x3 n => e_store rfl (by omega) rfl rfl
  have st1 : ∀ x0 x1 x2 x3 n, kstore 1 (H2 ++ [[x0, x1, x2, x3]]) (.ptr H2.length 1 4) (.int .i64 n) = some (H2 ++ [[x0, .int .i64 n, x2, x3]]) := fun x0 x1 x2 x3 n => e_store rfl (by omega) rfl rfl
  have st2 : ∀ x0 x1 x2 x3 n, kstore 1 (H2 ++ [[x0, x1, x2, x3]]) (.ptr H2.length 2 4) (.int .i64 n) = some (H2 ++ [[x0, x1, .int .i64 n, x3]]) := fun x0 x1 x2 x3 n => e_store rfl (by omega) rfl rfl
  have st3 : ∀ x0 x1 x2 x3 t, kstore 1 (H2 ++ [[x0, x1, x2, x3]]) (.ptr H2.length 3 4) (.str t) = some (H2 ++ [[x0, x1, x2, .str t]]) := fun x0 x1 x2 x3 t => e_store rfl (by omega) rfl rfl
  have lk : ∀ x0 x1 x2 x3, kload1 (H2 ++ [[x0, x1, x2, x3]]) (.ptr H2.length 0 4) = some x0 := fun x0 x1 x2 x3 => by rw [e_load rfl (by omega)]; rfl
  have emp : GV.str { data := #[] } = .str (bs []) := rfl
  by_cases ck : wd[0] = w_keys
  · refine reads_of (k := 1) (c := c) (q := q) (l := unh gI wd[3]) (S.impl_ReadEntry.gives (k := 0) (start.trans ?_)) fun k' c' q' l' h => ?_
    · rw [decide_eq_true ck] at ek
      have fin1 := fin 1 c q (unh gI wd[3])
      generalize GV.str (bs wd[0]) = W0 at *
      generalize GV.str (bs s) = D at *
      simp [S.impl_ReadEntry.n3, ki0, ki1, ki2, ki3, ld0, ld1, ld2, ld3, ek, u3, n1, n2, st0, st1, st2, st3, lk, fin1, -kN_eq, -kload1_ptr, -kstore_ptr, -kloadA_ptr, -S.impl_ReadEntry.n5]
    · rcases rhs _ _ _ _ h with ⟨a1, a2, a3, a4, a5⟩ | ⟨a1, a2, _⟩ | ⟨a1, a2, _⟩
      · exact ⟨a1, a3.symm, a4.symm, a5.symm⟩
      · rw [ck] at a2; simp at a2
      · rw [ck] at a2; simp at a2
  rw [decide_eq_false ck] at ek
  by_cases co : wd[0] = w_out
  · refine reads_of (k := 2) (c := 0) (q := 0) (l := unh gI wd[1]) (S.impl_ReadEntry.gives (k := 0) (start.trans ?_)) fun k' c' q' l' h => ?_
    · rw [decide_eq_true co] at eo
      have fin1 := fin 2 0 0 (unh gI wd[1])
      generalize GV.str (bs wd[0]) = W0 at *
      generalize GV.str (bs s) = D at *
      simp [S.impl_ReadEntry.n3, ki0, ki1, ki2, ki3, ld0, ld1, ld2, ld3, ek, eo, u1, n1, n2, st0, st1, st2, st3, lk, fin1, -kN_eq, -kload1_ptr, -kstore_ptr, -kloadA_ptr, -S.impl_ReadEntry.n5]
    · rcases rhs _ _ _ _ h with ⟨a1, a2, _⟩ | ⟨a1, a2, a3, a4, a5⟩ | ⟨a1, a2, _⟩
      · exact absurd a2 ck
      · exact ⟨a1, a3, a4, a5.symm⟩
      · rw [co] at a2; simp at a2
  rw [decide_eq_false co] at eo
  by_cases cz : wd[0] = w_size
  · refine reads_of (k := 3) (c := c) (q := q) (l := []) (S.impl_ReadEntry.gives (k := 0) (start.trans ?_)) fun k' c' q' l' h => ?_
    · rw [decide_eq_true cz] at ez
      have fin1 := fin 3 c q []
      rw [← emp] at fin1
      generalize GV.str (bs wd[0]) = W0 at *
      generalize GV.str (bs s) = D at *
      simp [S.impl_ReadEntry.n3, ki0, ki1, ki2, ki3, ld0, ld1, ld2, ld3, ek, eo, ez, n1, n2, st0, st1, st2, st3, lk, fin1, -kN_eq, -kload1_ptr, -kstore_ptr, -kloadA_ptr, -S.impl_ReadEntry.n5]
    · rcases rhs _ _ _ _ h with ⟨a1, a2, _⟩ | ⟨a1, a2, _⟩ | ⟨a1, a2, a3, a4, a5⟩
      · exact absurd a2 ck
      · exact absurd a2 co
      · exact ⟨a1, a3.symm, a4.symm, a5⟩
  rw [decide_eq_false cz] at ez
  refine reads_of (k := 0) (c := c) (q := q) (l := []) (S.impl_ReadEntry.gives (k := 0) (start.trans ?_)) fun k' c' q' l' h => ?_
  · have fin1 := fin 0 c q []
    rw [← emp] at fin1
    generalize GV.str (bs wd[0]) = W0 at *
    generalize GV.str (bs s) = D at *
    simp [S.impl_ReadEntry.n3, ki0, ki1, ki2, ki3, ld0, ld1, ld2, ld3, ek, eo, ez, n1, n2, st0, st1, st2, st3, lk, fin1, -kN_eq, -kload1_ptr, -kstore_ptr, -kloadA_ptr, -S.impl_ReadEntry.n5]
  · rcases rhs _ _ _ _ h with ⟨a1, a2, _⟩ | ⟨a1, a2, _⟩ | ⟨a1, a2, _⟩
    · exact absurd a2 ck
    · exact absurd a2 co
    · exact absurd a2 cz
end Go.Proofs.YtklhdbkaejbajaaDoor.G
