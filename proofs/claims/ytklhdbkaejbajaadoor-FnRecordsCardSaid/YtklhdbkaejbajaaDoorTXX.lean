/- The library functions that are told by a rule answer so: out of the shelf's contracts. -/
import Derived.Test.YtklhdbkaejbajaaDoorT3D
import Derived.Test.YtklhdbkaejbajaaDoorShelf
namespace Go.Proofs.YtklhdbkaejbajaaDoor.G
open Go.RowKit
set_option linter.unusedVariables false

/-- A variable of an interface type holds an interface value. -/
theorem iface_of_shape {P : Program} {w : World} {g : Nat} {t : TypeId} {ms : Array (String × TypeId)} {zero : Array Value} (h : w.ShapedOpen P) (hg : g < P.globals.size)
    (h0 : ((begin P (fun _ _ => 0) default).world.heap[g]?).bind Obj.row? = some (zero, t)) (hz : zero.size = 1)
    (hb : P.buildable t = true) (hc : P.cellTypes P.depth t = some [t]) (hu : P.underlying t = some (.interface ms)) : ∃ v, w.cell? ⟨g, 0, none⟩ = some v ∧ (v = .nilIface ∨ ∃ t p, v = .iface t p) := by
  obtain ⟨cs, hh, hs, hr⟩ := h.1 g zero t hg h0
  obtain ⟨ts, hts, _, hall⟩ := hr hb
  rw [hc] at hts
  cases hts
  have h1 : 0 < cs.size := by omega
  obtain ⟨u, hu', hok⟩ := hall 0 cs[0] (by simp [h1])
  have : u = t := by simpa using hu'.symm
  subst this
  have hcell : w.cell? ⟨g, 0, none⟩ = some cs[0] := by simp [World.cell?, hh, h1]
  refine ⟨cs[0], hcell, ?_⟩
  unfold Cell.ok at hok
  rw [hu] at hok
  cases hv : cs[0] <;> rw [hv] at hok <;> first | exact .inl rfl | exact .inr ⟨_, _, rfl⟩ | simp at hok
theorem cellIn0 {w : World} {a : Addr} {v : Value} (h : w.cell? a = some v) : a.block < w.heap.size := by
  unfold World.cell? at h
  split at h
  · rename_i hb; exact (Array.getElem?_eq_some_iff.1 hb).1
  · cases h
theorem GL.at {w : World} {Pp : Nat → Prop} (h : GL w Pp) : ∃ W0, Base W0 ∧ ∀ a v, W0.cell? a = some v → w.cell? a = some v := by
  obtain ⟨W0, h1, _, h3⟩ := h.base
  exact ⟨W0, h1, fun a v e => by rw [below_cell h3 (cellIn0 e)]; exact e⟩
theorem pow10_g : PP.globalNamed "internal/strconv.uint64pow10" = some (5) := by kernel_rfl
theorem extNe {f n : Nat} (h : f ≠ n) : Nat.beq f n = false := by
  cases e : Nat.beq f n with
  | true => exact absurd (Nat.eq_of_beq_eq_true e) h
  | false => rfl
theorem extOf_cases {f : FuncId} {e : List GV → Option GV} (h : extOf f = some e) : (f = fn.strconv_FormatInt ∧ e = rFormatInt) ∨ (f = fn.strings_Join ∧ e = rJoin) ∨ (f = fn.strconv_ParseInt ∧ e = rParseInt) ∨ (f = fn.strings_Cut ∧ e = rCut) ∨ (f = fn.strings_IndexByte ∧ e = rIndexByte) ∨ (f = fn.strings_Index ∧ e = rIndexS) ∨ (f = fn.strings_Count ∧ e = rCountS) := by
  unfold extOf at h
  by_cases h1 : f = 139
  · subst h1; exact .inl ⟨rfl, (Option.some.inj h).symm⟩
  by_cases h2 : f = 141
  · subst h2; exact .inr (.inl ⟨rfl, (Option.some.inj h).symm⟩)
  by_cases h3 : f = 78
  · subst h3; exact .inr (.inr (.inl ⟨rfl, (Option.some.inj h).symm⟩))
  by_cases h4 : f = 77
  · subst h4; exact .inr (.inr (.inr (.inl ⟨rfl, (Option.some.inj h).symm⟩)))
  by_cases h5 : f = 148
  · subst h5; exact .inr (.inr (.inr (.inr (.inl ⟨rfl, (Option.some.inj h).symm⟩))))
  by_cases h6 : f = 189
  · subst h6; exact .inr (.inr (.inr (.inr (.inr (.inl ⟨rfl, (Option.some.inj h).symm⟩)))))
  by_cases h7 : f = 188
  · subst h7; exact .inr (.inr (.inr (.inr (.inr (.inr ⟨rfl, (Option.some.inj h).symm⟩)))))
  rw [extNe h1, extNe h2, extNe h3, extNe h4, extNe h5, extNe h6, extNe h7] at h
  cases h
theorem parse_ok : oParseInt PP fn.strconv_ParseInt := by
  intro s w Pp hgl hs
  obtain ⟨W0, ⟨_, _, ⟨v1, c1, d1⟩, v2, c2, d2⟩, hc⟩ := hgl.at
  refine ⟨fun v hv => ?_, fun h1 h2 => ?_, fun h1 => ?_⟩
  · refine Calls.mono (Any.strconv_ParseInt_10_at64_ok Tryd.laysC174 s (by omega) v hv w) fun en w' ⟨h3, h4⟩ => ⟨h3, ?_⟩
    rcases h4 with rfl | ⟨t, rfl⟩
    · exact Below.refl _ _
    · exact Lib.bytesWorld_below _ _ _
  · cases hp : Lib.parseIntB 64 s.data.toList with
    | ok v => exact absurd hp (h1 v)
    | range => exact absurd hp h2
    | _ =>
      refine Calls.mono (Any.strconv_ParseInt_10_at64_syntax Tryd.laysC174 s hs hp v1 w (hc _ _ c1) d1) fun en w' ⟨N, h3, _, _, h4⟩ => ⟨⟨_, _, h3⟩, h4⟩
  · exact Calls.mono (Any.strconv_ParseInt_10_at64_range Tryd.laysC174 s hs h1 v2 w (hc _ _ c2) d2) fun en w' ⟨N, h3, _, _, h4⟩ => ⟨⟨_, _, h3⟩, h4⟩
theorem drew_below {w w' : World} (h : ∃ n, w' = w.drewN n) : Below w.heap.size w w' := by
  obtain ⟨n, rfl⟩ := h
  exact ⟨rfl, rfl, rfl, Nat.le_refl _, fun _ _ => rfl⟩
theorem xsound : XSound PP cfg := by
  intro f e args v us w Pp Pt hf he hv hlt hgl
  rcases extOf_cases hf with ⟨rfl, rfl⟩ | ⟨rfl, rfl⟩ | ⟨rfl, rfl⟩ | ⟨rfl, rfl⟩ | ⟨rfl, rfl⟩ | ⟨rfl, rfl⟩ | ⟨rfl, rfl⟩
  · refine ruleFormatInt (P := PP) (f := fn.strconv_FormatInt) ?_ args v us w Pp Pt he hv hlt hgl
    intro n w Pp hgl h1 h2
    refine Calls.mono (Tryd.strconv_FormatInt_10 n h1 h2 w (hgl.tab pow10_g fun W hb => hb.1)) fun en w' ⟨h3, h4⟩ => ⟨h3, grow_below h4⟩
  · refine ruleJoin (P := PP) (f := fn.strings_Join) ?_ args v us w Pp Pt he hv hlt hgl
    exact ⟨fun a c sep w => Tryd.strings_Join_none a c sep w, fun bk o c xs sep w h1 h2 h3 h4 h5 => Tryd.strings_Join bk o c xs sep w h1 h2 h3 h4 h5⟩
  · exact ruleParseInt (P := PP) (f := fn.strconv_ParseInt) parse_ok args v us w Pp Pt he hv hlt hgl
  · refine ruleCut (P := PP) (f := fn.strings_Cut) ?_ args v us w Pp Pt he hv hlt hgl
    intro s sep w Pp hgl hs
    obtain ⟨W0, ⟨_, ⟨m, hm⟩, _⟩, hc⟩ := hgl.at
    exact Calls.mono (Tryd.strings_Cut s sep m w hs (hc _ _ hm)) fun en w' ⟨h3, h4⟩ => ⟨h3, drew_below h4⟩
  · exact ruleIndexByte (P := PP) (f := fn.strings_IndexByte) (fun s c w => Tryd.strings_IndexByte s c w) args v us w Pp Pt he hv hlt hgl
  · refine ruleIndexS (P := PP) (f := fn.strings_Index) ?_ args v us w Pp Pt he hv hlt hgl
    intro s sep w Pp hgl hs
    obtain ⟨W0, ⟨_, ⟨m, hm⟩, _⟩, hc⟩ := hgl.at
    exact Tryd.strings_Index s sep m w hs (hc _ _ hm)
  · refine ruleCountS (P := PP) (f := fn.strings_Count) ?_ args v us w Pp Pt he hv hlt hgl
    intro s sep w Pp hgl hs h1
    obtain ⟨W0, ⟨_, ⟨m, hm⟩, _⟩, hc⟩ := hgl.at
    exact Tryd.strings_Count_any s sep m w hs (hc _ _ hm) h1
end Go.Proofs.YtklhdbkaejbajaaDoor.G
