/- Proved: in parentheses a text that is read is the same expression, or too deep, and behind ! it is that of one (arith.Parse in plain Lean). No program's step. -/
import Derived.Test.YtlbgnpllbogkeaaDoorVmArBlank
set_option linter.unusedVariables false
set_option linter.unusedSimpArgs false
namespace Go.Proofs.YtlbgnpllbogkeaaDoor.Ext
open Go.RowKit Go.Proofs.YtlbgnpllbogkeaaDoorW.PrintWords
section
variable {t : ByteArray} {a : Nat} {c : UInt8} {l : List UInt8}
end
section
variable {nx nx' : Nat → Tok} {lit : ByteArray → Int} {n L : Nat}
end
def Er : Rs → Prop
  | .fault _ e => e ≠ 0
  | _ => True
section
variable {nx : Nat → Tok} {lit : ByteArray → Int}
theorem Er.bind {r : Rs} {f : E → Tok → Rs} (h : Er r) (hf : ∀ x t, Er (f x t)) : Er (r.bind f) := by
  cases r with
  | out => exact trivial
  | fault a e => exact h
  | ok x t => exact hf x t
theorem Er.took {l : List ByteArray} {t : Tok} {a : Rs} {f : ByteArray → Tok → Rs} (ha : Er a) (hf : ∀ o t1, Er (f o t1)) : Er (tookD nx l t a f) := by
  unfold tookD
  cases tookF nx l t with
  | none => exact ha
  | some p => exact hf p.1 p.2
theorem Er.want {b : ByteArray} {t : Tok} {f : Tok → Rs} (hf : ∀ t1, Er (f t1)) : Er (wantF nx b t f) := by
  unfold wantF
  cases tookF nx [b] t with
  | none => exact (by decide : (33 : Nat) ≠ 0)
  | some p => exact hf p.2
theorem Er.deeper {d : Nat} {t : Tok} {f : Nat → Rs} (hf : ∀ d, Er (f d)) : Er (deeperF d t f) := by
  unfold deeperF
  split
  · exact (by decide : (42 : Nat) ≠ 0)
  · exact hf _
theorem Er.left {l : List ByteArray} {one : Tok → Rs} (ho : ∀ t, Er (one t)) : ∀ (k : Nat) (x : E) (t : Tok), Er (leftGo nx l one k x t)
  | 0, _, _ => trivial
  | k + 1, x, t => by
    rw [leftGo]
    cases tookF nx l t with
    | none => exact trivial
    | some p => exact (ho p.2).bind (fun y t2 => Er.left ho k _ t2)
theorem parse_er : ∀ (k : Nat) (nt : NT) (d : Nat) (t : Tok), Er (parse nx lit k nt d t)
  | 0, _, _, _ => by rw [parse]; exact trivial
  | k + 1, nt, d, t => by
    have ih := parse_er k
    cases nt with
    | comma => rw [parse]; exact (ih _ _ _).bind (fun x t => Er.left (fun t => ih _ _ _) k x t)
    | assign =>
      rw [parse]
      refine (ih _ _ _).bind (fun x t => ?_)
      split
      · exact Er.took trivial (fun o t => Er.deeper (fun d => (ih _ _ _).bind (fun y t => trivial)))
      · exact trivial
    | choice =>
      rw [parse]
      exact (ih _ _ _).bind (fun x t => Er.took trivial (fun o t => Er.deeper (fun d => (ih _ _ _).bind (fun y t => Er.want (fun t => (ih _ _ _).bind (fun z t => trivial))))))
    | level n =>
      rw [parse]
      split
      · exact ih _ _ _
      · exact (ih _ _ _).bind (fun x t => Er.left (fun t => ih _ _ _) k x t)
    | power =>
      rw [parse]
      exact (ih _ _ _).bind (fun x t => Er.took trivial (fun o t => Er.deeper (fun d => (ih _ _ _).bind (fun y t => trivial))))
    | unary =>
      rw [parse]
      refine Er.deeper (fun d => Er.took (ih _ _ _) (fun o t => ?_))
      split
      · exact ih _ _ _
      · split
        · exact (ih _ _ _).bind (fun x t => trivial)
        · split
          · split
            · exact trivial
            · exact (by decide : (33 : Nat) ≠ 0)
          · exact (ih _ _ _).bind (fun x t => trivial)
    | post =>
      rw [parse]
      split
      · exact trivial
      · split
        · exact Er.took trivial (fun o t => trivial)
        · exact Er.want (fun t => (ih _ _ _).bind (fun x t => Er.want (fun t => trivial)))
end
section
variable {s : ByteArray}
end
end Go.Proofs.YtlbgnpllbogkeaaDoor.Ext
