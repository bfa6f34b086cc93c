/- Stores, copies, appends, conversions. -/
import Derived.Test.YtolhjndfplfjpaaG11
namespace Go.Proofs.Ytolhjndfplfjpaa.G
open Go.RowKit
set_option linter.unusedVariables false
set_option linter.unusedSimpArgs false

section
variable {P : Program} {Pt Pp : Nat → Prop} {w : World} {ρ : Map} {h : Heap} {a : Act} {o : Oper} {σ : GS} {C : Cfg} {call : GCall} {F : Nat → Prop} {N : Nat}

/-- Cells written into a block, from place off on. -/
theorem store_step (p : Pre Pt w ρ Pp h F N) {i off tot c sh : Nat} {cs vs : List GV} {us : List Value} (r : List Nat) (hF : F i) (hcs : cellsAt h i tot = some cs) (hρ : ρ i tot = some (c, sh))
    (hfit : off + vs.length ≤ cs.length) (hv : VRs w ρ Pp vs Pt us) (hc : vs.all GV.isCell = true) :
    ∃ w', (storeCells ⟨c, sh + off, none⟩ us).run P w = .ok () w' ∧ Step Pt w ρ Pp h ⟨r, [i]⟩ w' (ρ.put i cs.length (c, sh)) Pp (h.set i (splice cs off vs)) := by
  obtain ⟨h1, h2⟩ := cellsAt_eq hcs
  have hb := p.hb i hF
  obtain ⟨⟨rc, ty, lo, hi, h3, h4, h5, h6⟩, h7, h8⟩ := cells_at hcs hb hρ
  dsimp only at h3 h4 h6
  have hl := VRs_len hv
  have hst := run_storeRow (P := P) (c := c) (o := sh + off) us 0 rc w h3 (by omega) (cells_one hv hc) h5
  refine ⟨_, hst, ?_⟩
  simp only [Nat.add_zero]
  have hlen : (splice cs off vs).length = cs.length := splice_len hfit
  have htk : (rc.toList.take (sh + off)).length = sh + off := by simp; omega
  rw [← hlen]
  refine Step.write p hF h1 (by rw [h2]; exact hρ) (by omega) rfl rfl rfl (by simp) h3 (setRow_heap w c rc _ ty (lo, hi) h3) (fun k hk => setRow_other w c k _ hk) ?_ (by omega) fun j g hg => ?_
  · simp; omega
  · have hj : j < cs.length := by
      have := (List.getElem?_eq_some_iff.1 hg).1
      omega
    unfold splice at hg
    by_cases hj1 : j < off
    · rw [List.append_assoc, List.getElem?_append_left (by simp; omega), List.getElem?_take, if_pos hj1] at hg
      obtain ⟨u, q1, q2⟩ := h6 j g hg
      refine ⟨u, ?_, q2⟩
      simp only [List.getElem?_toArray]
      rw [List.append_assoc, List.getElem?_append_left (by omega), List.getElem?_take, if_pos (by omega)]
      simpa using q1
    · by_cases hj2 : j < off + vs.length
      · rw [List.append_assoc, List.getElem?_append_right (by simp; omega), List.length_take, Nat.min_eq_left (by omega), List.getElem?_append_left (by omega)] at hg
        obtain ⟨u, q1, q2⟩ := VRs_get hv _ g hg
        refine ⟨u, ?_, q2⟩
        simp only [List.getElem?_toArray]
        rw [List.append_assoc, List.getElem?_append_right (by omega), htk, List.getElem?_append_left (by omega), ← q1]
        congr 1
        omega
      · rw [List.append_assoc, List.getElem?_append_right (by simp; omega), List.length_take, Nat.min_eq_left (by omega), List.getElem?_append_right (by omega), List.getElem?_drop] at hg
        obtain ⟨u, q1, q2⟩ := h6 _ g hg
        refine ⟨u, ?_, q2⟩
        simp only [List.getElem?_toArray]
        rw [List.append_assoc, List.getElem?_append_right (by omega), htk, List.getElem?_append_right (by omega), List.getElem?_drop]
        rw [Array.getElem?_toList, ← q1]
        congr 1
        omega

theorem op_store {t : TypeId} {x y : Operand} {v : GV} {h' : Heap} {lg : Lg} (ho : o.op = .store t x y) (hx : EV w ρ Pp Pt σ a x) (hy : EV w ρ Pp Pt σ a y) (e : gop P C call (eval σ) o h = some (v, h', lg)) (p : Pre Pt w ρ Pp h F N) (hF : ∀ i, i ∈ lg.w → F i) :
    OpTo P o a w (After Pt w ρ Pp h lg h' v) := by
  simp only [gop, ho, Option.bind_eq_bind, Option.bind_eq_some_iff, Option.some.injEq, Prod.mk.injEq] at e
  obtain ⟨g, hg, g', hg', ⟨h2, i⟩, hs, rfl, rfl, rfl⟩ := e
  have hu := hx _ hg
  have hv := hy _ hg'
  unfold gstore at hs
  simp only [Option.bind_eq_bind, Option.bind_eq_some_iff] at hs
  obtain ⟨n, hn, hs⟩ := hs
  split at hs
  · rename_i hc
    split at hs
    · rename_i b off tot
      simp only [Option.bind_eq_some_iff] at hs
      obtain ⟨cs, hcs, hs⟩ := hs
      split at hs
      · rename_i hfit
        simp only [Option.some.injEq, Prod.mk.injEq] at hs
        obtain ⟨rfl, rfl⟩ := hs
        obtain ⟨c, sh, h5, h6⟩ := hu
        obtain ⟨w', q1, q2⟩ := store_step (P := P) p (off := off) [] (hF b (by simp)) hcs h5 (by omega) (VR_cells hv) hc.2
        have hl := VRs_len (VR_cells hv)
        simp only [Array.length_toList] at hl
        refine .skip (w' := w') ?_ ⟨_, Pp, by simp [VR, VRi], q2⟩
        simp only [execOp, ho, Instr.storeAt, h6, Instr.sureAddr, storeVar, Sem.run_bind, Sem.run_pure, Result.andThen_ok, run_sizeOf hn]
        rw [if_neg (by omega)]
        rw [q1]
        rfl
      · cases hs
    · cases hs
  · cases hs

theorem gbytes_VRs (bs : List UInt8) : VRs w ρ Pp (bs.map fun b => GV.int .u8 b.toNat) Pt (bs.map fun b => Value.int .u8 b.toNat) := by
  induction bs with
  | nil => simp [VRs, VRsi]
  | cons b bs ih => exact ⟨_, _, rfl, rfl, ih⟩

/-- The first m elements of what is told whole. -/
theorem firstCells_run {es n m : Nat} {v : GV} {cs : List GV} {r : List Nat} {u : Value} (e : gcells h es v = some (n, cs, r)) (hv : VR w ρ Pp v Pt u) (hb : ∀ i, i ∈ r → HB w ρ Pp Pt h i) (hm : m ≤ n) :
    (Builtin.lenOf u).run P w = .ok n w ∧ ∃ us : List Value, (Builtin.firstCells es m u).run P w = .ok us.toArray w ∧ VRs w ρ Pp (cs.take (m * es)) Pt us := by
  rcases gcells_run e hv hb with ⟨rfl, rfl, rfl, _⟩ | ⟨A, cap', us, rfl, h1, h2, h3, h4⟩ | ⟨s, rfl, _, rfl, rfl, rfl⟩
  · exact ⟨rfl, [], rfl, by simp [VRs, VRsi]⟩
  · refine ⟨rfl, us.take (m * es), ?_, VRs_take _ h2⟩
    have hl := VRs_len h2
    have hmul : m * es ≤ n * es := Nat.mul_le_mul_right _ hm
    have := run_loadCells_list (P := P) w A (us.take (m * es)) (fun j u hj => by
      rw [List.getElem?_take] at hj
      split at hj
      · exact h4 j u hj
      · cases hj)
    rw [List.length_take, Nat.min_eq_left (by omega)] at this
    exact this
  · refine ⟨rfl, ((s.extract 0 m).data.map fun b => Value.int .u8 b.toNat).toList, ?_, ?_⟩
    · rw [Array.toArray_toList]; rfl
    · have : ((s.extract 0 m).data.map fun b => Value.int .u8 b.toNat).toList = (s.toList.take m).map fun b => Value.int .u8 b.toNat := by
        rw [Array.toList_map, ByteArray.toList_eq]
        congr 1
        simp [ByteArray.data_extract, Array.toList_extract, List.extract_eq_take_drop]
      rw [this, Nat.mul_one, ← List.map_take]
      exact gbytes_VRs _

theorem step_self (p : Pre Pt w ρ Pp h F N) {i : Nat} {cs : List GV} {c sh : Nat} (hF : F i) (hcs : h[i]? = some cs) (hρ : ρ i cs.length = some (c, sh)) (r : List Nat) : Step Pt w ρ Pp h ⟨r, [i]⟩ w ρ Pp h := by
  obtain ⟨⟨loc, h1, ⟨rc, ty, lo, hi, h3, h4, h5, h6⟩, h7, h8⟩, h9⟩ := p.hb i hF cs hcs
  rw [hρ] at h1
  cases h1
  have := Step.write p (r := r) hF hcs hρ (Nat.le_refl _) rfl rfl rfl rfl h3 h3 (fun _ _ => rfl) rfl h4 h6
  have e1 : h.set i cs = h := by
    apply List.ext_getElem?
    intro k
    by_cases hk : k = i
    · subst hk
      rw [hcs, List.getElem?_set]
      simp [(List.getElem?_eq_some_iff.1 hcs).1]
    · rw [List.getElem?_set_ne (Ne.symm hk)]
  have e2 : ρ.put i cs.length (c, sh) = ρ := by
    funext j m
    unfold Map.put
    split
    · rename_i hj
      rw [hj.1, hj.2, hρ]
    · rfl
  rw [e1, e2] at this
  exact this

theorem freeze_push (w : World) (rc : Array Value) (ty : TypeId) (n : Nat) :
    ({ w with heap := w.heap.push (.cells rc ty) } : World).freeze ⟨w.heap.size, n, none⟩ 1 = { w with heap := w.heap.push (.cells rc ty (n, n + 1)) } := by
  unfold World.freeze
  rw [if_neg (by omega)]
  congr 1
  apply Array.ext_getElem?
  intro k
  simp only [Array.getElem?_modify, Array.getElem?_push]
  by_cases hk : k = w.heap.size
  · subst hk; simp
  · rw [if_neg (Ne.symm hk), if_neg hk, if_neg hk]

theorem op_convert {s d : TypeId} {x : Operand} {v : GV} {h' : Heap} {lg : Lg} (ho : o.op = .convert s d x) (hx : EV w ρ Pp Pt σ a x) (e : gop P C call (eval σ) o h = some (v, h', lg)) (p : Pre Pt w ρ Pp h F h'.length) (hF : ∀ i, i ∈ lg.r → F i) :
    OpTo P o a w (After Pt w ρ Pp h lg h' v) := by
  simp only [gop, ho, Option.bind_eq_bind, Option.bind_eq_some_iff] at e
  obtain ⟨g, hg, e⟩ := e
  have hu := hx _ hg
  unfold gconvert at e
  split at e
  · rename_i hs hd
    simp only [Option.some.injEq, Prod.mk.injEq] at e
    obtain ⟨rfl, rfl, rfl⟩ := e
    simp only [VR, VRi] at hu
    refine .same (u := .int _ _) ?_ rfl
    simp [execOp, ho, hu, convert, run_underlying hs, run_underlying hd, Conv.intToInt]
  · rename_i hs hd
    simp only [Option.some.injEq, Prod.mk.injEq] at e
    obtain ⟨rfl, rfl, rfl⟩ := e
    simp only [VR, VRi] at hu
    refine .same (u := .string _) ?_ rfl
    simp [execOp, ho, hu, convert, run_underlying hs, run_underlying hd]
  · rename_i et b hs hd
    split at e
    · rename_i he
      simp only [Option.some.injEq, Prod.mk.injEq] at e
      obtain ⟨rfl, rfl, rfl⟩ := e
      simp only [VR, VRi] at hu
      -- the room drawn
      let q : Question := .appendCap b.size 0 et
      let cap := q.cut (w.tape w.drawn q)
      have hcap : b.size ≤ cap := Nat.le_add_right _ _
      let rc : Array Value := (b.data.map fun b => Value.int .u8 b.toNat) ++ Array.replicate (cap - b.size) (.int .u8 0)
      have hrc : rc.size = cap := by
        simp only [rc, Array.size_append, Array.size_map, Array.size_replicate]
        show b.size + (cap - b.size) = cap
        omega
      let w1 : World := { w.drew with heap := w.heap.push (.cells rc et (cap, cap + 1)) }
      refine .value (u := .slice (some ⟨w.heap.size, 0, none⟩) b.size cap) (w' := w1) ?_ ⟨ρ.put h.length (b.toList.map fun c => GV.int .u8 c.toNat).length (w.heap.size, 0), Pp, ?_, Step.fresh_block p (by simp) [] (lo := cap) (hi := cap + 1) (rc := rc) (ty := et) rfl rfl rfl rfl ?_ ?_ (us := b.toList.map fun c => Value.int .u8 c.toNat) ?_ (gbytes_VRs _)⟩
      · have hcv : (convert s d (.string b)).run P w = (Conv.stringToBytes et b).run P w := by
          simp only [convert, Sem.run_bind, run_underlying hs, run_underlying hd, Result.andThen_ok, run_underlying he]
        have hst : (Conv.stringToBytes et b).run P w = .ok (.slice (some ⟨w.heap.size, 0, none⟩) b.size cap) w1 := by
          have hq : (choose q).run P w = .ok cap w.drew := by
            rw [run_choose]
            rfl
          have hfr := freeze_push w.drew rc et rc.size
          have hsh : ({ w.drew with heap := w.drew.heap.push (.cells rc et) } : World).shape? w.heap.size = some (et, rc.size) := by
            simp [World.shape?, heap_drew]
          simp only [Conv.stringToBytes, Sem.run_bind]
          rw [hq]
          simp only [Result.andThen_ok, Sem.run_bind, newRow, run_newObj, Sem.run_pure, markStringish, run_shape, heap_drew]
          simp only [heap_drew] at hsh hfr
          rw [hsh]
          simp only [run_freeze, Result.andThen_ok]
          rw [hfr, hrc]
        simp only [execOp, ho, hu, Sem.run_bind, hcv, hst, Result.andThen_ok, Sem.run_pure]
      · refine ⟨w.heap.size, 0, ⟨w.heap.size, 0, none⟩, cap, ?_, rfl, Nat.le_refl _, hcap, .inr ⟨rfl, cap, ?_, by omega⟩⟩
        · rw [show 0 + b.size * 1 = (b.toList.map fun c => GV.int .u8 c.toNat).length by rw [List.length_map, ByteArray.toList_eq]; simp]
          exact put_same
        · simp [rsz, w1, hrc]
      · rw [List.length_map, ByteArray.toList_eq, hrc]
        exact hcap
      · intro o ho
        omega
      · rw [List.length_map, ByteArray.toList_eq]
        simp only [rc, Array.toList_append, Array.toList_map]
        rw [List.take_append_of_le_length (by simp)]
        rw [List.take_of_length_le (by simp)]
    · cases e
  · rename_i et hs hd _
    split at e
    · rename_i he
      split at e
      · cases e
      · cases e
      · simp only [Option.bind_eq_bind, Option.bind_eq_some_iff] at e
        obtain ⟨⟨n, cs, r⟩, hc, ns, hns, e⟩ := e
        split at e
        · rename_i hnl
          simp only [Option.some.injEq, Prod.mk.injEq] at e
          obtain ⟨rfl, rfl, rfl⟩ := e
          rcases gcells_run hc hu (fun i hi => p.hb i (hF i hi)) with ⟨q1, rfl, rfl, _⟩ | ⟨A, cap', us, q1, q2, q3, q4, q5⟩ | ⟨s', q1, rfl, _⟩
          · simp at hns
            subst hns
            refine .same (u := .string ByteArray.empty) ?_ rfl
            simp [execOp, ho, q1, convert, run_underlying hs, run_underlying hd, run_underlying he, Conv.bytesToString]
          · have hui := VRs_ints (k := .u8) q3 hns
            subst hui
            have hl := run_loadCells_list (P := P) w A _ q5
            rw [List.length_map, hnl] at hl
            have := run_bytesToString w A n cap' ns hl
            refine .same (u := .string ⟨(ns.map fun n : Int => UInt8.ofNat n.toNat).toArray⟩) ?_ (by simp [VR, VRi])
            rw [foldl_push_bytes] at this
            simp only [execOp, ho, q1, Sem.run_bind]
            rw [run_convert_bytes_string w s d et _ n cap' hs he hd, this]
            have : (ByteArray.empty.data ++ (ns.map fun n : Int => UInt8.ofNat n.toNat).toArray) = (ns.map fun n : Int => UInt8.ofNat n.toNat).toArray := by
              show (#[] ++ _) = _
              simp
            rw [this]
            rfl
          · simp_all
        · cases e
    · cases e
  · cases e
end

end Go.Proofs.Ytolhjndfplfjpaa.G
