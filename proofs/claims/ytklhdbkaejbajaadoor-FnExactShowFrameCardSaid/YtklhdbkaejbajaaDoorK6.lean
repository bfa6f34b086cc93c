/- Words and lemmas for what is printed: pieces of code one by one. -/
import Derived.Test.YtklhdbkaejbajaaDoorK5
namespace Go.Proofs.YtklhdbkaejbajaaDoor.G
open Go.RowKit
set_option linter.unusedVariables false
set_option linter.unusedSimpArgs false

section
variable {R : Type}
def kalloc (z : List GV) (h : Heap) (K : GV → Heap → Option R) : Option R := K (.ptr h.length 0 z.length) (h ++ [z])
def kbox (v : GV) (h : Heap) (K : GV → Heap → Option R) : Option R := K (.ptr h.length 0 v.cells.length) (h ++ [v.cells])
def kagg (cs : List GV) (h : Heap) (K : GV → Heap → Option R) : Option R := K (.agg cs) h
def kbs (len es : Nat) (cs : List GV) (h : Heap) (K : GV → Heap → Option R) : Option R := K (.sl h.length 0 len len es) (h ++ [cs])
def kst (s : ByteArray) (K : GV → Option R) : Option R := K (.str s)
def kby (s : ByteArray) (h : Heap) (K : GV → Heap → Option R) : Option R := K (.sl h.length 0 s.size s.size 1) (h ++ [kbytes s])
def kr (r : GV × Heap) (K : GV → Heap → Option R) : Option R := K r.1 r.2
def kold (h : Heap) (K : Heap → Option R) : Option R := K h
def krs (rs : List Rec) (K : List Rec → Option R) : Option R := K rs
def kborr (h : Heap) (g : GV) : List Nat := match bor 9 h g with | some y => y.2 | none => []
def kcond (v : GV) (a b : Option R) : Option R :=
  match v with
  | .bool c => bif c then a else b
  | _ => none
def kx (x : GX) (a b : Option R) : Option R :=
  match x with
  | .nrm => a
  | _ => b
def kb (id : Nat) (x : GX) (K : GX → Option R) : Option R :=
  match x with
  | .ext id' => bif Nat.beq id' id then K .nrm else K (.ext id')
  | x => K x
def kend (x : GX) (a : Option R) : Option R :=
  match x with
  | .ext _ => none
  | _ => a

def cL : Code → Code
  | .seq a _ => a
  | .cond _ a _ => a
  | .block _ a => a
  | .loop a => a
  | _ => .skip
def cR : Code → Code
  | .seq _ b => b
  | .cond _ _ b => b
  | _ => .skip
def cO : Code → Array Oper
  | .region _ ops _ => ops
  | _ => #[]
def bodyOf (f : Func) : Code :=
  match f.body with
  | some b => b
  | none => .skip

variable {P : Program} {C : Cfg} {N : NCall} {H : HCall} {k nt : Nat} {c a b : Code} {σ : GS} {h : Heap} {K : GX → GS → Heap → Option R}

theorem kseq_eq {B : GS → Heap → Option R} (hc : c = .seq a b) (hb : ∀ σ h, kcode P C N H k nt b σ h K = B σ h) :
    kcode P C N H k nt c σ h K = kcode P C N H k nt a σ h (fun x σ h => kx x (B σ h) (K x σ h)) := by
  subst hc
  simp only [kcode]
  congr 1
  funext x σ h
  cases x <;> simp [kx, hb]
theorem kcondP_eq {v : GV} {o : Operand} (hc : c = .cond o a b) (hv : eval σ o = some v) : kcode P C N H k nt c σ h K = kcond v (kcode P C N H k nt a σ h K) (kcode P C N H k nt b σ h K) := by
  subst hc
  simp only [kcode, hv, got]
  cases v <;> rfl
theorem kblockP_eq {id : Nat} (hc : c = .block id a) : kcode P C N H k nt c σ h K = kcode P C N H k nt a σ h (fun x σ h => kb id x fun x => K x σ h) := by
  subst hc
  exact congrArg (kcode P C N H k nt a σ h) (funext fun x => funext fun σ => funext fun h => by cases x <;> rfl)
theorem kloop_eqP {B : GS → Heap → Option R} {body : GS → Heap → (GX → GS → Heap → Option R) → Option R} {r : Nat} (hb : ∀ σ h, kloop body r σ h K = B σ h) :
    kloop body (r + 1) σ h K = body σ h (fun x σ h => kx x (B σ h) (K x σ h)) := by
  simp only [kloop]
  congr 1
  funext x σ h
  cases x <;> simp [kx, hb]

/-- One group of a region. -/
def kgroup1 (P : Program) (C : Cfg) (N : NCall) (H : HCall) (nt : Nat) (ops : Array Oper) (g : Option (Nat × Bool) × List Nat) (σ : GS) (h : Heap) (K : GS → Heap → Option R) : Option R :=
  match g with
  | (none, js) => krun P C N H nt ops js σ h K
  | (some g, js) => bif kwant ops σ (some g) then krun P C N H nt ops js σ h K else got (kskip nt ops js σ) fun σ => K σ h
theorem kgroups_cons {ops : Array Oper} {g : Option (Nat × Bool) × List Nat} {gs : List (Option (Nat × Bool) × List Nat)} {K : GS → Heap → Option R} {B : GS → Heap → Option R} (hb : ∀ σ h, kgroups P C N H nt ops gs σ h K = B σ h) :
    kgroups P C N H nt ops (g :: gs) σ h K = kgroup1 P C N H nt ops g σ h B := by
  obtain ⟨g, js⟩ := g
  have : (fun σ h => kgroups P C N H nt ops gs σ h K) = B := by funext σ h; exact hb σ h
  cases g <;> simp only [kgroups, kgroup1, this, hb]
theorem kregionP_eq {id : Nat} {ops : Array Oper} {draw : Bool} {gs : List (Option (Nat × Bool) × List Nat)} (hc : c = .region id ops draw) (hg : grp ops (List.range ops.size) = gs) (hk : (grpOk ops gs && (!draw || statOk C ops)) = true) :
    kcode P C N H k nt c σ h K = kgroups P C N H nt ops gs σ h (fun σ h => K .nrm σ h) := by
  subst hc
  simp only [kcode, kregion, hg, hk, cond_true]

/-- One group of a region whose operations are written down. -/
def kgroup1D (P : Program) (C : Cfg) (N : NCall) (H : HCall) (nt : Nat) (ops : Array Oper) (bad : List (Nat × Nat)) (g : Option (Nat × Bool) × List Nat) (rs : List Rec) (σ : GS) (h : Heap) (K : List Rec → GS → Heap → Option R) : Option R :=
  match g with
  | (none, js) => krunD P C N H nt ops bad js rs σ h K
  | (some g, js) => bif kwant ops σ (some g) then krunD P C N H nt ops bad js rs σ h K else got (kskip nt ops js σ) fun σ => K rs σ h
theorem kgroupsD_cons {ops : Array Oper} {bad : List (Nat × Nat)} {g : Option (Nat × Bool) × List Nat} {gs : List (Option (Nat × Bool) × List Nat)} {rs : List Rec} {K : List Rec → GS → Heap → Option R} {B : List Rec → GS → Heap → Option R} (hb : ∀ rs σ h, kgroupsD P C N H nt ops bad gs rs σ h K = B rs σ h) :
    kgroupsD P C N H nt ops bad (g :: gs) rs σ h K = kgroup1D P C N H nt ops bad g rs σ h B := by
  obtain ⟨g, js⟩ := g
  have : (fun rs σ h => kgroupsD P C N H nt ops bad gs rs σ h K) = B := by funext rs σ h; exact hb rs σ h
  cases g <;> simp only [kgroupsD, kgroup1D, this, hb]
theorem kregionPD_eq {id : Nat} {ops : Array Oper} {draw : Bool} {gs : List (Option (Nat × Bool) × List Nat)} {bad : List (Nat × Nat)} (hc : c = .region id ops draw) (hg : grp ops (List.range ops.size) = gs) (hs : (grpOk ops gs && (!draw || statOk C ops)) = false) (hk : (grpOk ops gs && dynOk C ops) = true) (hb : badOf C ops = bad) :
    kcode P C N H k nt c σ h K = kgroupsD P C N H nt ops bad gs [] σ h (fun rs σ h => bif chk bad rs then K .nrm σ h else none) := by
  subst hc
  subst hb
  simp only [kcode, kregion, hg, hs, hk, cond_true, cond_false]

theorem kfunP_eq {f : FuncId} {args : List GV} {fn : Func} {fin : GV → Heap → Option R} {G : GX → GS → Heap → Option R} (hf : P.funcs[f]? = some fn) (hb : fn.body = some c) (hn : max args.length fn.ntmps = nt)
    (hG : ∀ x σ h, (match x with | .ext _ => none | _ => kres P σ h fn.results.toList [] fun v => fin v h) = G x σ h) :
    kfun P C N H k f args h fin = kcode P C N H k nt c (fun t => args.getD t .un) h G := by
  unfold kfun
  simp only [hf, hb, hn]
  congr 1
  funext x σ h
  exact hG x σ h
end

end Go.Proofs.YtklhdbkaejbajaaDoor.G
