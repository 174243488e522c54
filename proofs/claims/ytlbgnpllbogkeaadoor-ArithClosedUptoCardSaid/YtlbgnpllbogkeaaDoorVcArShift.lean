/- Proved: arith's parser in plain Lean: more rounds change nothing; tokens that stand further on change nothing but places. No program's step. -/
import Derived.Test.YtlbgnpllbogkeaaDoorVcArPure
set_option linter.unusedVariables false
set_option linter.unusedSimpArgs false
namespace Go.Proofs.YtlbgnpllbogkeaaDoor.Ext
def Le (r r' : Rs) : Prop := r = .out ∨ r' = r
theorem Le.refl (r : Rs) : Le r r := .inr rfl
theorem Le.bind {r r' : Rs} {f f' : E → Tok → Rs} (h : Le r r') (hf : ∀ x t, Le (f x t) (f' x t)) : Le (r.bind f) (r'.bind f') := by
  rcases h with rfl | rfl
  · exact .inl rfl
  · cases r' with
    | out => exact .inl rfl
    | fault a e => exact .inr rfl
    | ok x t => exact hf x t
theorem Le.took {nx : Nat → Tok} {l : List ByteArray} {t : Tok} {a a' : Rs} {f f' : ByteArray → Tok → Rs} (h : Le a a') (hf : ∀ o t, Le (f o t) (f' o t)) : Le (tookD nx l t a f) (tookD nx l t a' f') := by
  unfold tookD
  cases tookF nx l t with
  | none => exact h
  | some p => exact hf p.1 p.2
theorem Le.want {nx : Nat → Tok} {b : ByteArray} {t : Tok} {f f' : Tok → Rs} (hf : ∀ t, Le (f t) (f' t)) : Le (wantF nx b t f) (wantF nx b t f') := by
  unfold wantF
  cases tookF nx [b] t with
  | none => exact Le.refl _
  | some p => exact hf p.2
theorem Le.deeper {d : Nat} {t : Tok} {f f' : Nat → Rs} (hf : ∀ d, Le (f d) (f' d)) : Le (deeperF d t f) (deeperF d t f') := by
  unfold deeperF
  split
  · exact Le.refl _
  · exact hf _
theorem Le.left {nx : Nat → Tok} {l : List ByteArray} {one one' : Tok → Rs} (ho : ∀ t, Le (one t) (one' t)) : ∀ (k k' : Nat) (x : E) (t : Tok), k ≤ k' → Le (leftGo nx l one k x t) (leftGo nx l one' k' x t)
  | 0, _, _, _, _ => .inl rfl
  | k + 1, 0, _, _, h => absurd h (by omega)
  | k + 1, k' + 1, x, t, h => by
    rw [leftGo, leftGo]
    cases tookF nx l t with
    | none => exact Le.refl _
    | some p => exact (ho p.2).bind (fun y t2 => Le.left ho k k' _ t2 (by omega))
theorem parse_le {nx : Nat → Tok} {lit : ByteArray → Int} : ∀ (k k' : Nat) (nt : NT) (d : Nat) (t : Tok), k ≤ k' → Le (parse nx lit k nt d t) (parse nx lit k' nt d t)
  | 0, _, _, _, _, _ => .inl (by rw [parse])
  | k + 1, 0, _, _, _, h => absurd h (by omega)
  | k + 1, k' + 1, nt, d, t, h => by
    have ih := fun nt d t => parse_le (nx := nx) (lit := lit) k k' nt d t (by omega)
    cases nt with
    | comma => rw [parse, parse]; exact (ih _ _ _).bind (fun x t => Le.left (fun t => ih _ _ _) k k' x t (by omega))
    | assign =>
      rw [parse, parse]
      refine (ih _ _ _).bind (fun x t => ?_)
      split
      · exact Le.took (Le.refl _) (fun o t => Le.deeper (fun d => (ih _ _ _).bind (fun y t => Le.refl _)))
      · exact Le.refl _
    | choice =>
      rw [parse, parse]
      exact (ih _ _ _).bind (fun x t => Le.took (Le.refl _) (fun o t => Le.deeper (fun d => (ih _ _ _).bind (fun y t => Le.want (fun t => (ih _ _ _).bind (fun z t => Le.refl _))))))
    | level n =>
      rw [parse, parse]
      split
      · exact ih _ _ _
      · exact (ih _ _ _).bind (fun x t => Le.left (fun t => ih _ _ _) k k' x t (by omega))
    | power =>
      rw [parse, parse]
      exact (ih _ _ _).bind (fun x t => Le.took (Le.refl _) (fun o t => Le.deeper (fun d => (ih _ _ _).bind (fun y t => Le.refl _))))
    | unary =>
      rw [parse, parse]
      refine Le.deeper (fun d => Le.took (ih _ _ _) (fun o t => ?_))
      split
      · exact ih _ _ _
      · split
        · exact (ih _ _ _).bind (fun x t => Le.refl _)
        · split
          · exact Le.refl _
          · exact (ih _ _ _).bind (fun x t => Le.refl _)
    | post =>
      rw [parse, parse]
      split
      · exact Le.refl _
      · split
        · exact Le.refl _
        · exact Le.want (fun t => (ih _ _ _).bind (fun x t => Le.refl _))
/-- More rounds tell the same. -/
theorem parse_more {nx : Nat → Tok} {lit : ByteArray → Int} {k k' : Nat} {nt : NT} {d : Nat} {t : Tok} (h : k ≤ k') (ho : parse nx lit k nt d t ≠ .out) : parse nx lit k' nt d t = parse nx lit k nt d t := by
  rcases parse_le (nx := nx) (lit := lit) k k' nt d t h with e | e
  · exact absurd e ho
  · exact e
def shT (n : Nat) (t : Tok) : Tok := ⟨t.kind, t.text, t.pos + n, t.to_ + n⟩
section
variable {nx nx' : Nat → Tok} {n L : Nat}
theorem took_le (hx : Nx nx L) {l : List ByteArray} {t t1 : Tok} {o : ByteArray} (ht : t.to_ ≤ L) (h : tookF nx l t = some (o, t1)) : t1.to_ ≤ L := (of_took hx ht h).1
theorem parse_to {lit : ByteArray → Int} (hx : Nx nx L) {k : Nat} {nt : NT} {d : Nat} {t t1 : Tok} {x : E} (ht : t.to_ ≤ L) (h : parse nx lit k nt d t = .ok x t1) : t1.to_ ≤ L := by
  have h1 := weak_parse (lit := lit) hx k nt d t ht
  rw [h] at h1
  exact h1.1
end
end Go.Proofs.YtlbgnpllbogkeaaDoor.Ext
