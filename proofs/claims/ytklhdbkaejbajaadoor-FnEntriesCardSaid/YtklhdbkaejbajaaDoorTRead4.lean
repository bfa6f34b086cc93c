/- The reference's ReadEntry. -/
import Derived.Test.YtklhdbkaejbajaaDoorTRead3
namespace Go.Proofs.YtklhdbkaejbajaaDoor.G
open Go.RowKit Go.Lib
set_option linter.unusedVariables false
set_option linter.unusedSimpArgs false

/-- Bytes that are gathered behind two blocks. -/
def BufT (A B : List GV) (v : GV) (l : List UInt8) (h : Heap) : Prop := ∃ T, h = A :: B :: T ∧ ((l = [] ∧ v = .emp) ∨ ∃ b, v = .sl (b + 2) 0 l.length l.length 1 ∧ T[b]? = some (l.flatMap cy))
theorem BufT.buf {A B : List GV} {v : GV} {l : List UInt8} {h : Heap} (hb : BufT A B v l h) : Buf v l h := by
  obtain ⟨T, rfl, ⟨h1, h2⟩ | ⟨b, h1, h2⟩⟩ := hb
  · exact .inl ⟨h1, h2⟩
  · exact .inr ⟨b + 2, h1, by simpa using h2⟩
theorem BufT.app {A B : List GV} {v : GV} {l : List UInt8} {h : Heap} (hb : BufT A B v l h) {c : UInt8} (hl : l.length + 1 ≤ 4194304) :
    ∃ v' h', kapp [.int .u8 0] 1 1 v (.sl h.length 0 1 1 1) (h ++ [[.int .u8 (c.toNat : Int)]]) = some (v', h') ∧ BufT A B v' (l ++ [c]) h' := by
  have hg : gcells (h ++ [[GV.int .u8 (c.toNat : Int)]]) 1 (.sl h.length 0 1 1 1) = some (1, [GV.int .u8 (c.toNat : Int)], [h.length]) := by
    simp [gcells, cellsAt_if]
  obtain ⟨T, rfl, ⟨rfl, rfl⟩ | ⟨b, rfl, hh⟩⟩ := hb
  · refine ⟨.sl ((A :: B :: T) ++ [[GV.int .u8 (c.toNat : Int)]]).length 0 1 1 1, ((A :: B :: T) ++ [[GV.int .u8 (c.toNat : Int)]]) ++ [[GV.int .u8 (c.toNat : Int)]], ?_, T ++ [[GV.int .u8 (c.toNat : Int)]] ++ [[GV.int .u8 (c.toNat : Int)]], by simp, .inr ⟨T.length + 1, by simp, by simp [cy]⟩⟩
    unfold kapp
    rw [hg]
    simp only [Option.bind_some]
    rw [if_pos ⟨rfl, rfl, by simp only [maxLen]; omega, by simp only [roomMax]; omega⟩, if_neg (by omega)]
  · have hcl := cy_len l
    have hbl := (List.getElem?_eq_some_iff.1 hh).1
    refine ⟨.sl (b + 2) 0 (l.length + 1) (l.length + 1) 1, ((A :: B :: T) ++ [[GV.int .u8 (c.toNat : Int)]]).set (b + 2) ((l.flatMap cy).take (l.length * 1) ++ [GV.int .u8 (c.toNat : Int)]), ?_, (T ++ [[GV.int .u8 (c.toNat : Int)]]).set b ((l.flatMap cy).take (l.length * 1) ++ [GV.int .u8 (c.toNat : Int)]), by simp, .inr ⟨b, by simp, ?_⟩⟩
    · have e : ((A :: B :: T) ++ [[GV.int .u8 (c.toNat : Int)]])[b + 2]? = some (l.flatMap cy) := by
        simp only [List.cons_append, List.getElem?_cons_succ]
        rw [List.getElem?_append_left hbl]; exact hh
      unfold kapp
      rw [hg]
      simp only [Option.bind_some]
      rw [if_pos ⟨rfl, rfl, by simp only [maxLen]; omega, by simp only [roomMax]; omega⟩]
      simp only [cellsAt_if, e, Option.bind_some]
      rw [if_pos (by omega)]
      simp only [Option.bind_some]
      rw [if_pos ⟨trivial, Nat.le_refl _, by simp only [roomMax]; omega, by simp only [maxLen]; omega⟩, if_neg (by omega), if_pos ⟨trivial, by omega⟩]
    · rw [List.getElem?_set_self (by simp; omega), Nat.mul_one, List.take_of_length_le (by omega), List.flatMap_append]
      rfl
theorem l17_all {R : Type} (k : Nat) (G : KT5 R) (w : List UInt8) (hw : w.length ≤ 1048576) (v0 v2 v3 v5 : GV) (A B : List GV) {m : Nat} (hm : w.length < m) :
    ∃ v H, S.spec_ReadEntry.l17 k G m v0 v2 v3 v5 (.str (bs w)) .emp (.int .i64 0) [A, B] = G (.ext 1) v0 v2 v3 v5 v H ∧ BufT A B v (unh gS w) H := by
  have kl := klenS_bs w
  have hul := unh_len gS w
  have key := loop_inv (T := GV × Heap) (n := (unh gS w).length) (m := m) (Inv := fun j x => BufT A B x.1 ((unh gS w).take j) x.2)
    (f := fun r j x => S.spec_ReadEntry.l17 k G r v0 v2 v3 v5 (.str (bs w)) x.1 (.int .i64 ((2 * j : Nat) : Int)) x.2)
    (A := fun x => G (.ext 1) v0 v2 v3 v5 x.1 x.2) (s := (.emp, [A, B]))
    (by
      rintro j r ⟨v, H⟩ hj hb
      simp only at hb
      obtain ⟨h1, h2, e⟩ := unh_get gS w j hj
      have b1 := gS_b w[2 * j]
      have b2 := gS_b w[2 * j + 1]
      obtain ⟨c, hc⟩ : ∃ c, UInt8.ofNat (16 * gS w[2 * j] + gS w[2 * j + 1]).toNat = c := ⟨_, rfl⟩
      obtain ⟨v', H', a1, a2⟩ := hb.app (c := c) (by rw [List.length_take]; omega)
      have gf := gfill_one' (v := .int .u8 (c.toNat : Int)) (z := [.int .u8 0]) rfl rfl
      refine ⟨(v', H'), ?_, ?_⟩
      · have k1 := kbyte_nat (k := .i64) (l := w) h1
        have k2 := kbyte_nat (k := .i64) (l := w) h2
        have d1 : ∀ H, kN NN fn.spec_l18Digit [.int .u8 (w[2 * j].toNat : Int)] H = _ := fun H => kN_at (by simp) (digit_spec w[2 * j])
        have d2 : ∀ H, kN NN fn.spec_l18Digit [.int .u8 (w[2 * j + 1].toNat : Int)] H = _ := fun H => kN_at (by simp) (digit_spec w[2 * j + 1])
        have p1 : kbin .add (.int .i64 ((2 * j : Nat) : Int)) (.int .i64 1) = some (.int .i64 ((2 * j + 1 : Nat) : Int)) := by rw [kbin_add, wrap_id (by omega) (by omega)]; rfl
        have p2 : kbin .add (.int .i64 ((2 * j : Nat) : Int)) (.int .i64 2) = some (.int .i64 ((2 * (j + 1) : Nat) : Int)) := by rw [kbin_add, wrap_id (by omega) (by omega)]; congr 2
        have p3 : kbin .lss (.int .i64 ((2 * j + 1 : Nat) : Int)) (.int .i64 (w.length : Nat)) = some (.bool true) := by rw [kbin_lss, decide_eq_true (by omega)]
        have q1 : kbin .mul (.int .i64 16) (.int .i64 (gS w[2 * j])) = some (.int .i64 (16 * gS w[2 * j])) := by rw [kbin_mul, wrap_id (by omega) (by omega)]
        have q2 : kbin .add (.int .i64 (16 * gS w[2 * j])) (.int .i64 (gS w[2 * j + 1])) = some (.int .i64 (16 * gS w[2 * j] + gS w[2 * j + 1])) := by rw [kbin_add, wrap_id (by omega) (by omega)]
        have q3 : kconvI .u8 (.int .i64 (16 * gS w[2 * j] + gS w[2 * j + 1])) = some (.int .u8 (c.toNat : Int)) := by rw [kconvI_int, wrapm (by omega), hc]
        generalize GV.int .u8 (c.toNat : Int) = C at *
        generalize GV.int .i64 (16 * gS w[2 * j] + gS w[2 * j + 1]) = X3 at *
        generalize GV.int .i64 (16 * gS w[2 * j]) = X2 at *
        generalize GV.int .i64 (gS w[2 * j]) = X1 at *
        generalize GV.int .i64 (gS w[2 * j + 1]) = X4 at *
        generalize GV.int .u8 (w[2 * j].toNat : Int) = Z1 at *
        generalize GV.int .u8 (w[2 * j + 1].toNat : Int) = Z2 at *
        generalize GV.str (bs w) = D at *
        generalize GV.int .i64 ((2 * (j + 1) : Nat) : Int) = J2 at *
        generalize GV.int .i64 ((2 * j + 1 : Nat) : Int) = J1 at *
        generalize GV.int .i64 ((2 * j : Nat) : Int) = J at *
        generalize GV.int .i64 (w.length : Nat) = N0 at *
        simp [S.spec_ReadEntry.l17, kl, k1, k2, d1, d2, p1, p2, p3, q1, q2, q3, gf, kbs_eq, a1, -kN_eq]
      · show BufT A B v' ((unh gS w).take (j + 1)) H'
        rw [List.take_add_one, List.getElem?_eq_getElem hj, e, hc]
        exact a2)
    (by
      rintro r ⟨v, H⟩ hb
      have p1 : kbin .add (.int .i64 ((2 * (unh gS w).length : Nat) : Int)) (.int .i64 1) = some (.int .i64 ((2 * (unh gS w).length + 1 : Nat) : Int)) := by rw [kbin_add, wrap_id (by omega) (by omega)]; rfl
      have p3 : kbin .lss (.int .i64 ((2 * (unh gS w).length + 1 : Nat) : Int)) (.int .i64 (w.length : Nat)) = some (.bool false) := by rw [kbin_lss, decide_eq_false (by omega)]
      simp only
      generalize GV.str (bs w) = D at *
      generalize GV.int .i64 ((2 * (unh gS w).length + 1 : Nat) : Int) = J1 at *
      generalize GV.int .i64 ((2 * (unh gS w).length : Nat) : Int) = J at *
      generalize GV.int .i64 (w.length : Nat) = N0 at *
      simp [S.spec_ReadEntry.l17, kl, p1, p3])
    ⟨[], rfl, .inl ⟨by simp, rfl⟩⟩ (by omega)
  obtain ⟨⟨v, H⟩, e1, e2⟩ := key
  rw [List.take_length] at e2
  exact ⟨v, H, e1, e2⟩
theorem n9s_post (K : Nat) (s : List UInt8) (T : Heap) (k c q : Int) (l : List UInt8) (hl : l.length ≤ 1048576) :
    S.spec_ReadEntry.n9 K finE (.str (bs s)) (.ptr 0 0 4) (.bool false) (.ptr 1 0 4) (zeroE :: [.int .i64 k, .int .i64 c, .int .i64 q, .str (bs l)] :: T) = some (outE s (decide (entP k c q l.length = true ∧ shM k c q l = s)) k c q l) := by
  have al : kloadA 4 (zeroE :: [.int .i64 k, .int .i64 c, .int .i64 q, .str (bs l)] :: T) (.ptr 1 0 4) = some (ent k c q l) := by simp [kloadA_ptr, cellsAt_if]
  have sh : ∀ H, kN NN fn.spec_EntryOk [ent k c q l] H = _ := fun H => kN_at (by simp [ent]) (spec_EntryOk_spec k c q l)
  have ga : gfill (fun i => [(0, 1), (1, 1), (2, 1), (3, 1)][i]?) zeroE [] = some zeroE := rfl
  have ka : ∀ {Q : Type} (h : Heap) (K : GV → Heap → Option Q), kagg zeroE h K = K (.agg zeroE) h := fun h K => rfl
  have s1 : ∀ C : List GV, C.length = 4 → C.all GV.isCell = true → kstore 4 (zeroE :: [.int .i64 k, .int .i64 c, .int .i64 q, .str (bs l)] :: T) (.ptr 0 0 4) (.agg C) = some (C :: [.int .i64 k, .int .i64 c, .int .i64 q, .str (bs l)] :: T) := fun C h1 h2 => by
    rw [kstore_ptr, if_pos ⟨h1, h2⟩]
    simp [cellsAt_if, splice, h1, GV.cells]
  have s2 : ∀ C : List GV, C.length = 4 → kloadA 4 (C :: [.int .i64 k, .int .i64 c, .int .i64 q, .str (bs l)] :: T) (.ptr 0 0 4) = some (.agg C) := fun C h1 => by
    rw [kloadA_ptr]
    simp [cellsAt_if, h1]
    rw [List.take_of_length_le (by omega)]
  have t1 := s1 zeroE rfl rfl
  have t2 := s2 zeroE rfl
  have t3 := s1 [.int .i64 k, .int .i64 c, .int .i64 q, .str (bs l)] rfl rfl
  have t4 := s2 [.int .i64 k, .int .i64 c, .int .i64 q, .str (bs l)] rfl
  clear s1 s2
  have f1 : ∀ H, finN (.tup [.agg zeroE, .bool false]) H = some (.tup [.agg zeroE, .bool false]) := fun H => rfl
  have f2 : ∀ H, finN (.tup [ent k c q l, .bool true]) H = some (.tup [ent k c q l, .bool true]) := fun H => rfl
  by_cases he : entP k c q l.length = true
  case neg =>
    have he' : entP k c q l.length = false := by simpa using he
    rw [he'] at sh
    rw [decide_eq_false (by rw [he']; simp)]
    unfold outE
    generalize GV.str (bs s) = D at *
    generalize GV.ptr 1 0 4 = P at *
    generalize GV.ptr 0 0 4 = P0 at *
    generalize ent k c q l = E at *
    simp [S.spec_ReadEntry.n9, al, sh, ga, ka, t1, t2, f1, -kN_eq]
  rw [he] at sh
  have hb := entP_b he
  have sw : ∀ H, kN NN fn.spec_l18Show [ent k c q l] H = _ := fun H => kN_at (by simp [ent]) (spec_l18Show_spec k c q l hl (by omega) (by omega))
  have ne : kbin .neq (.str (bs (shM k c q l))) (.str (bs s)) = some (.bool (decide (shM k c q l ≠ s))) := by rw [kbin_sneq]; simp only [ne_eq, bs_inj]
  have z : (GV.agg [.int .i64 k, .int .i64 c, .int .i64 q, .str (bs l)]) = ent k c q l := rfl
  rw [z] at t3 t4
  unfold outE
  rw [he]
  by_cases h2 : shM k c q l = s
  · rw [decide_eq_false (by simpa using h2)] at ne
    rw [decide_eq_true ⟨rfl, h2⟩]
    generalize GV.str (bs (shM k c q l)) = W at *
    generalize GV.str (bs s) = D at *
    generalize GV.ptr 1 0 4 = P at *
    generalize GV.ptr 0 0 4 = P0 at *
    generalize ent k c q l = E at *
    simp [S.spec_ReadEntry.n9, al, sh, sw, ne, ga, ka, t3, t4, f2, -kN_eq]
  · rw [decide_eq_true h2] at ne
    rw [decide_eq_false (fun h => h2 h.2)]
    generalize GV.str (bs (shM k c q l)) = W at *
    generalize GV.str (bs s) = D at *
    generalize GV.ptr 1 0 4 = P at *
    generalize GV.ptr 0 0 4 = P0 at *
    generalize ent k c q l = E at *
    simp [S.spec_ReadEntry.n9, al, sh, sw, ne, ga, ka, t1, t2, f1, -kN_eq]
theorem n6s_post (K : Nat) (s hex : List UInt8) (hx : hex.length ≤ 1048576) (hK : hex.length < K) (k c q : Int) :
    S.spec_ReadEntry.n6 K finE (.str (bs s)) (.ptr 0 0 4) (.bool false) (.ptr 1 0 4) (.str (bs hex)) [zeroE, [.int .i64 k, .int .i64 c, .int .i64 q, .str { data := #[] }]] = some (outE s (decide (entP k c q (unh gS hex).length = true ∧ shM k c q (unh gS hex) = s)) k c q (unh gS hex)) := by
  obtain ⟨v, H, e1, e2⟩ := l17_all (R := GV) K (fun x v0 v2 v3 v5 v11 h => kb 1 x fun x => kx x (S.spec_ReadEntry.n8 K finE v0 v2 v3 v5 v11 h) (finE x v2 v3 h)) hex hx (.str (bs s)) (.ptr 0 0 4) (.bool false) (.ptr 1 0 4) zeroE [.int .i64 k, .int .i64 c, .int .i64 q, .str { data := #[] }] hK
  refine e1.trans ?_
  have hs := e2.buf.str
  obtain ⟨T, rfl, _⟩ := e2
  have hul := unh_len gS hex
  have st : kstore 1 (zeroE :: [.int .i64 k, .int .i64 c, .int .i64 q, .str { data := #[] }] :: T) (.ptr 1 3 4) (.str (bs (unh gS hex))) = some (zeroE :: [.int .i64 k, .int .i64 c, .int .i64 q, .str (bs (unh gS hex))] :: T) := by
    exact kstore_at (cells := [.int .i64 k, .int .i64 c, .int .i64 q, .str { data := #[] }]) (tot := 4) (o := 3) rfl rfl (by decide) rfl rfl
  have nn := n9s_post K s T k c q (unh gS hex) (by omega)
  generalize GV.str (bs (unh gS hex)) = U at *
  generalize GV.str (bs s) = D at *
  simp [hs, st, nn, -kstore_ptr, -kloadA_ptr, -S.spec_ReadEntry.n9]
theorem readsS_of {f : FuncId} {s : List UInt8} {k c q : Int} {l : List UInt8} (e : NN f [.str (bs s)] = some (outE s (decide (entP k c q l.length = true ∧ shM k c q l = s)) k c q l)) (hop : ∀ k' c' q' l', Shows s k' c' q' l' → k' = k ∧ c' = c ∧ q' = q ∧ l' = l) : Reads f s := by
  by_cases h : entP k c q l.length = true ∧ shM k c q l = s
  · rw [decide_eq_true h] at e
    exact .inl ⟨k, c, q, l, h, e⟩
  · rw [decide_eq_false h] at e
    refine .inr ⟨fun k' c' q' l' hs => h ?_, e⟩
    obtain ⟨rfl, rfl, rfl, rfl⟩ := hop _ _ _ _ hs
    exact hs
theorem spec_ReadEntry_spec (s : List UInt8) (hs : s.length ≤ 1048576) : Reads fn.spec_ReadEntry s := by
  have hl := wrd_len s
  obtain ⟨wd, hwd⟩ : ∃ wd, wrd s = wd := ⟨_, rfl⟩
  rw [hwd] at hl
  have w1 : ∀ H, kN NN fn.spec_l18Words [.str (bs s)] H = some (fzl false 1 cs (wd.map bs)) := fun H => kN_at (xs := [.str (bs s)]) (by simp) (by rw [spec_l18Words_spec s hs, hwd])
  have kl : klen (fzl false 1 cs (wd.map bs)) = some (.int .i64 (wd.length : Nat)) := by rw [klen_fzl, List.length_map]
  have hlw : ∀ i (h : i < wd.length), wd[i].length ≤ 1048576 := fun i h => by
    have := wrd_mem s wd[i] (by rw [hwd]; exact List.getElem_mem h)
    omega
  have ki : ∀ i : Nat, i < wd.length → kia 1 (fzl false 1 cs (wd.map bs)) (.int .i64 (i : Int)) = some (elp false cs (wd.map bs) i) := fun i h => by
    rw [kia_cs, if_pos ⟨by omega, by rw [List.length_map]; omega⟩]; simp
  have ld : ∀ i (h : i < wd.length) H, kload1 H (elp false cs (wd.map bs) i) = some (.str (bs wd[i])) := fun i h H => by
    rw [kload1_cs, List.getElem?_map, List.getElem?_eq_getElem h]; rfl
  have ki0 : kia 1 (fzl false 1 cs (wd.map bs)) (.int .i64 0) = _ := ki 0 (by omega)
  have ld0 := ld 0 (by omega)
  have e4 : kbin .eql (.int .i64 (wd.length : Nat)) (.int .i64 4) = some (.bool (decide (wd.length = 4))) := by rw [kbin_eql]; congr 2; rw [Bool.eq_iff_iff]; simp; omega
  have e2 : kbin .eql (.int .i64 (wd.length : Nat)) (.int .i64 2) = some (.bool (decide (wd.length = 2))) := by rw [kbin_eql]; congr 2; rw [Bool.eq_iff_iff]; simp; omega
  have e3 : kbin .eql (.int .i64 (wd.length : Nat)) (.int .i64 3) = some (.bool (decide (wd.length = 3))) := by rw [kbin_eql]; congr 2; rw [Bool.eq_iff_iff]; simp; omega
  have eg : kbin .gtr (.int .i64 (wd.length : Nat)) (.int .i64 2) = some (.bool (decide (2 < wd.length))) := by rw [kbin_gtr]; congr 2; rw [Bool.eq_iff_iff]; simp; omega
  have ek : kbin .eql (.str (bs wd[0])) (.str { data := #[107, 101, 121, 115] }) = some (.bool (decide (wd[0] = w_keys))) := eq_str (b := w_keys)
  have eo : kbin .eql (.str (bs wd[0])) (.str { data := #[111, 117, 116] }) = some (.bool (decide (wd[0] = w_out))) := eq_str (b := w_out)
  have ez : kbin .eql (.str (bs wd[0])) (.str { data := #[115, 105, 122, 101] }) = some (.bool (decide (wd[0] = w_size))) := eq_str (b := w_size)
  obtain ⟨K, hK⟩ : ∃ K, K = 1048577 := ⟨_, rfl⟩
  have ga : gfill (fun i => [(0, 1), (1, 1), (2, 1), (3, 1)][i]?) zeroE [] = some zeroE := rfl
  have start : S.spec_ReadEntry.run K (.str (bs s)) [] finN = S.spec_ReadEntry.n4 K finE (.str (bs s)) (.ptr 0 0 4) (.bool false) (fzl false 1 cs (wd.map bs)) (.ptr 1 0 4) (.str { data := #[] }) [zeroE, zeroE] := by
    have stz : kstore 4 [zeroE, zeroE] (.ptr 1 0 4) (.agg zeroE) = some [zeroE, zeroE] := by
      rw [kstore_ptr, if_pos ⟨rfl, rfl⟩]
      simp [cellsAt_if, splice, GV.cells]
    simp only [S.spec_ReadEntry.run, S.spec_ReadEntry.n0, S.spec_ReadEntry.n1, S.spec_ReadEntry.n2, S.spec_ReadEntry.n3, kalloc_eq, w1, Option.bind_some, ga, kagg_eq]
    show ((kstore 4 [zeroE, zeroE] (.ptr 1 0 4) (.agg zeroE)).bind fun h => S.spec_ReadEntry.n4 K finE _ _ _ _ _ _ h) = _
    rw [stz]; rfl
  have st0 : ∀ x0 x1 x2 x3 n, kstore 1 [zeroE, [x0, x1, x2, x3]] (.ptr 1 0 4) (.int .i64 n) = some [zeroE, [.int .i64 n, x1, x2, x3]] := fun x0 x1 x2 x3 n => by
    exact kstore_at (cells := [x0, x1, x2, x3]) (tot := 4) (o := 0) rfl rfl (by decide) rfl rfl
  have st1 : ∀ x0 x1 x2 x3 n, kstore 1 [zeroE, [x0, x1, x2, x3]] (.ptr 1 1 4) (.int .i64 n) = some [zeroE, [x0, .int .i64 n, x2, x3]] := fun x0 x1 x2 x3 n => by
    exact kstore_at (cells := [x0, x1, x2, x3]) (tot := 4) (o := 1) rfl rfl (by decide) rfl rfl
  have st2 : ∀ x0 x1 x2 x3 n, kstore 1 [zeroE, [x0, x1, x2, x3]] (.ptr 1 2 4) (.int .i64 n) = some [zeroE, [x0, x1, .int .i64 n, x3]] := fun x0 x1 x2 x3 n => by
    exact kstore_at (cells := [x0, x1, x2, x3]) (tot := 4) (o := 2) rfl rfl (by decide) rfl rfl
  -- the numbers
  have num : ∀ (kk : Int) (hex : List UInt8), hex.length ≤ 1048576 → ∃ c q, S.spec_ReadEntry.n5 K finE (.str (bs s)) (.ptr 0 0 4) (.bool false) (fzl false 1 cs (wd.map bs)) (.ptr 1 0 4) (.str (bs hex)) [zeroE, [.int .i64 kk, .int .i64 0, .int .i64 0, .str { data := #[] }]] = some (outE s (decide (entP kk c q (unh gS hex).length = true ∧ shM kk c q (unh gS hex) = s)) kk c q (unh gS hex)) ∧ (wd.length ≤ 2 → c = 0 ∧ q = 0) ∧ ∀ c' q', (h : 2 < wd.length) → Spells wd[1] c' → Spells wd[2] q' → c = c' ∧ q = q' := fun kk hex hx => by
    by_cases hg : 2 < wd.length
    · obtain ⟨c, bc, nc, hc⟩ := spec_l10Number_spec wd[1] (hlw 1 (by omega))
      obtain ⟨q, bq, nq, hq⟩ := spec_l10Number_spec wd[2] (hlw 2 hg)
      have n1 : ∀ H, kN NN fn.spec_l10Number [.str (bs wd[1])] H = _ := fun H => kN_at (by simp) nc
      have n2 : ∀ H, kN NN fn.spec_l10Number [.str (bs wd[2])] H = _ := fun H => kN_at (by simp) nq
      have ki1 : kia 1 (fzl false 1 cs (wd.map bs)) (.int .i64 1) = _ := ki 1 (by omega)
      have ki2 : kia 1 (fzl false 1 cs (wd.map bs)) (.int .i64 2) = _ := ki 2 hg
      have ld1 := ld 1 (by omega)
      have ld2 := ld 2 hg
      refine ⟨c, q, ?_, fun h => by omega, fun c' q' _ h1 h2 => ⟨(hc c' h1).1, (hq q' h2).1⟩⟩
      have fin := n6s_post K s hex hx (by omega) kk c q
      rw [decide_eq_true hg] at eg
      generalize fzl false 1 cs (wd.map bs) = F at *
      generalize elp false cs (wd.map bs) 1 = P1 at *
      generalize elp false cs (wd.map bs) 2 = P2 at *
      generalize GV.str (bs wd[1]) = W1 at *
      generalize GV.str (bs wd[2]) = W2 at *
      generalize GV.int .i64 (wd.length : Nat) = N0 at *
      generalize GV.str (bs hex) = X at *
      generalize GV.str (bs s) = D at *
      simp [kl, eg, ki1, ki2, ld1, ld2, n1, n2, st1, st2, fin, -kN_eq, -kstore_ptr, -kload1_ptr, -S.spec_ReadEntry.n6]
    · refine ⟨0, 0, ?_, fun _ => ⟨rfl, rfl⟩, fun c' q' h => absurd h hg⟩
      have fin := n6s_post K s hex hx (by omega) kk 0 0
      rw [decide_eq_false hg] at eg
      generalize fzl false 1 cs (wd.map bs) = F at *
      generalize GV.int .i64 (wd.length : Nat) = N0 at *
      generalize GV.str (bs hex) = X at *
      generalize GV.str (bs s) = D at *
      simp [kl, eg, fin, -kN_eq, -kstore_ptr, -kload1_ptr, -S.spec_ReadEntry.n6]
  have rhs : ∀ k' c' q' l', Shows s k' c' q' l' → (k' = 1 ∧ wd = [w_keys, itoa c', itoa q', hexM l'] ∧ 0 ≤ c' ∧ c' ≤ 10000 ∧ 0 ≤ q' ∧ q' ≤ 10000) ∨ (k' = 2 ∧ wd = [w_out, hexM l'] ∧ c' = 0 ∧ q' = 0) ∨ (k' = 3 ∧ wd = [w_size, itoa c', itoa q'] ∧ l' = [] ∧ 0 ≤ c' ∧ c' ≤ 10000 ∧ 0 ≤ q' ∧ q' ≤ 10000) := fun k' c' q' l' h => by
    have := h.words
    rw [hwd] at this
    exact this
  have emp : GV.str { data := #[] } = .str (bs []) := rfl
  by_cases cA : wd[0] = w_keys ∧ wd.length = 4
  · have kix : kia 1 (fzl false 1 cs (wd.map bs)) (.int .i64 3) = _ := ki 3 (by omega)
    have ldx := ld 3 (by omega)
    obtain ⟨c, q, fin, _, sp⟩ := num 1 (wd[3]'(by omega)) (hlw 3 (by omega))
    refine readsS_of (k := 1) (c := c) (q := q) (l := unh gS (wd[3]'(by omega))) (S.spec_ReadEntry.gives (k := K) (start.trans ?_)) fun k' c' q' l' h => ?_
    · rw [decide_eq_true cA.1] at ek
      rw [decide_eq_true cA.2] at e4
      generalize elp false cs (wd.map bs) 3 = P3 at *
      generalize GV.str (bs (wd[3]'(by omega))) = W3 at *
      generalize fzl false 1 cs (wd.map bs) = F at *
      generalize elp false cs (wd.map bs) 0 = P0 at *
      generalize GV.str (bs wd[0]) = W0 at *
      generalize GV.int .i64 (wd.length : Nat) = N0 at *
      generalize GV.str (bs s) = D at *
      simp [kl, ki0, ld0, ek, eo, ez, e4, e2, e3, st0, kix, ldx, fin, -kN_eq, -kstore_ptr, -kload1_ptr, -S.spec_ReadEntry.n5]
    · rcases rhs _ _ _ _ h with ⟨a1, a2, a3⟩ | ⟨a1, a2, _⟩ | ⟨a1, a2, _⟩
      · subst a2
        obtain ⟨z1, z2⟩ := sp c' q' (by simp) ⟨by omega, by omega, rfl⟩ ⟨by omega, by omega, rfl⟩
        exact ⟨a1, z1.symm, z2.symm, (unh_hex gS_hex l').symm⟩
      · subst a2; simp at cA
      · subst a2; simp at cA
  by_cases cB : wd[0] = w_out ∧ wd.length = 2
  · have kix : kia 1 (fzl false 1 cs (wd.map bs)) (.int .i64 1) = _ := ki 1 (by omega)
    have ldx := ld 1 (by omega)
    obtain ⟨c, q, fin, zz, sp⟩ := num 2 (wd[1]'(by omega)) (hlw 1 (by omega))
    refine readsS_of (k := 2) (c := c) (q := q) (l := unh gS (wd[1]'(by omega))) (S.spec_ReadEntry.gives (k := K) (start.trans ?_)) fun k' c' q' l' h => ?_
    · have hk : ¬ wd[0] = w_keys := fun e => by rw [cB.1] at e; simp at e
      rw [decide_eq_false hk] at ek
      rw [decide_eq_true cB.1] at eo
      rw [decide_eq_true cB.2] at e2
      generalize elp false cs (wd.map bs) 1 = P1 at *
      generalize GV.str (bs (wd[1]'(by omega))) = W1 at *
      generalize fzl false 1 cs (wd.map bs) = F at *
      generalize elp false cs (wd.map bs) 0 = P0 at *
      generalize GV.str (bs wd[0]) = W0 at *
      generalize GV.int .i64 (wd.length : Nat) = N0 at *
      generalize GV.str (bs s) = D at *
      simp [kl, ki0, ld0, ek, eo, ez, e4, e2, e3, st0, kix, ldx, fin, -kN_eq, -kstore_ptr, -kload1_ptr, -S.spec_ReadEntry.n5]
    · obtain ⟨z1, z2⟩ := zz (by omega)
      rcases rhs _ _ _ _ h with ⟨a1, a2, a3⟩ | ⟨a1, a2, a3, a4⟩ | ⟨a1, a2, _⟩
      · subst a2; simp at cB
      · subst a2
        exact ⟨a1, by omega, by omega, (unh_hex gS_hex l').symm⟩
      · subst a2; simp at cB
  by_cases cC : wd[0] = w_size ∧ wd.length = 3
  · obtain ⟨c, q, fin, _, sp⟩ := num 3 [] (by simp)
    rw [← emp] at fin
    refine readsS_of (k := 3) (c := c) (q := q) (l := unh gS []) (S.spec_ReadEntry.gives (k := K) (start.trans ?_)) fun k' c' q' l' h => ?_
    · have hk : ¬ wd[0] = w_keys := fun e => by rw [cC.1] at e; simp at e
      have ho : ¬ wd[0] = w_out := fun e => by rw [cC.1] at e; simp at e
      rw [decide_eq_false hk] at ek
      rw [decide_eq_false ho] at eo
      rw [decide_eq_true cC.1] at ez
      rw [decide_eq_true cC.2] at e3
      generalize fzl false 1 cs (wd.map bs) = F at *
      generalize elp false cs (wd.map bs) 0 = P0 at *
      generalize GV.str (bs wd[0]) = W0 at *
      generalize GV.int .i64 (wd.length : Nat) = N0 at *
      generalize GV.str (bs s) = D at *
      simp [kl, ki0, ld0, ek, eo, ez, e4, e2, e3, st0, fin, -kN_eq, -kstore_ptr, -kload1_ptr, -S.spec_ReadEntry.n5]
    · rcases rhs _ _ _ _ h with ⟨a1, a2, a3⟩ | ⟨a1, a2, _⟩ | ⟨a1, a2, a3, a4⟩
      · subst a2; simp at cC
      · subst a2; simp at cC
      · subst a2
        obtain ⟨z1, z2⟩ := sp c' q' (by simp) ⟨by omega, by omega, rfl⟩ ⟨by omega, by omega, rfl⟩
        exact ⟨a1, z1.symm, z2.symm, a3⟩
  obtain ⟨c, q, fin, _, sp⟩ := num 0 [] (by simp)
  rw [← emp] at fin
  refine readsS_of (k := 0) (c := c) (q := q) (l := unh gS []) (S.spec_ReadEntry.gives (k := K) (start.trans ?_)) fun k' c' q' l' h => ?_
  · obtain ⟨bk, hbk⟩ : ∃ b, decide (wd[0] = w_keys) = b := ⟨_, rfl⟩
    obtain ⟨bo, hbo⟩ : ∃ b, decide (wd[0] = w_out) = b := ⟨_, rfl⟩
    obtain ⟨bz, hbz⟩ : ∃ b, decide (wd[0] = w_size) = b := ⟨_, rfl⟩
    obtain ⟨b4, hb4⟩ : ∃ b, decide (wd.length = 4) = b := ⟨_, rfl⟩
    obtain ⟨b2, hb2⟩ : ∃ b, decide (wd.length = 2) = b := ⟨_, rfl⟩
    obtain ⟨b3, hb3⟩ : ∃ b, decide (wd.length = 3) = b := ⟨_, rfl⟩
    have x1 : (bk && b4) = false := by rw [← hbk, ← hb4, Bool.eq_false_iff]; intro h; simp only [Bool.and_eq_true, decide_eq_true_eq] at h; exact cA h
    have x2 : (bo && b2) = false := by rw [← hbo, ← hb2, Bool.eq_false_iff]; intro h; simp only [Bool.and_eq_true, decide_eq_true_eq] at h; exact cB h
    have x3 : (bz && b3) = false := by rw [← hbz, ← hb3, Bool.eq_false_iff]; intro h; simp only [Bool.and_eq_true, decide_eq_true_eq] at h; exact cC h
    rw [hbk] at ek
    rw [hbo] at eo
    rw [hbz] at ez
    rw [hb4] at e4
    rw [hb2] at e2
    rw [hb3] at e3
    clear hbk hbo hbz hb4 hb2 hb3
    generalize fzl false 1 cs (wd.map bs) = F at *
    generalize elp false cs (wd.map bs) 0 = P0 at *
    generalize GV.str (bs wd[0]) = W0 at *
    generalize GV.int .i64 (wd.length : Nat) = N0 at *
    generalize GV.str (bs s) = D at *
    cases bk <;> cases bo <;> cases bz <;> cases b4 <;> cases b2 <;> cases b3 <;> first | (exfalso; revert x1 x2 x3; decide) | simp [kl, ki0, ld0, ek, eo, ez, e4, e2, e3, st0, fin, -kN_eq, -kstore_ptr, -kload1_ptr, -S.spec_ReadEntry.n5]
  · exfalso
    rcases rhs _ _ _ _ h with ⟨a1, a2, _⟩ | ⟨a1, a2, _⟩ | ⟨a1, a2, _⟩
    · subst a2; simp at cA
    · subst a2; simp at cB
    · subst a2; simp at cC
end Go.Proofs.YtklhdbkaejbajaaDoor.G
