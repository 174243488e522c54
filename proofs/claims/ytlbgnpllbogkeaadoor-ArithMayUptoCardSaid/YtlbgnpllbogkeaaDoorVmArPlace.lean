/- Proved: a fault's place, and each token's, is within the text (arith's parser, in plain Lean). No program's step. -/
import Derived.Test.YtlbgnpllbogkeaaDoorVmArBlank
set_option linter.unusedVariables false
set_option linter.unusedSimpArgs false
namespace Go.Proofs.YtlbgnpllbogkeaaDoor.Ext
open Go.RowKit Go.Proofs.YtlbgnpllbogkeaaDoorW.PrintWords
def Tl (L : Nat) (t : Tok) : Prop := t.pos ≤ L ∧ t.to_ ≤ L
def Pl (L : Nat) : Rs → Prop
  | .out => True
  | .fault a _ => a ≤ L
  | .ok _ t => Tl L t
section
variable {nx : Nat → Tok} {L : Nat}
theorem Pl.bind {r : Rs} {f : E → Tok → Rs} (h : Pl L r) (hf : ∀ x t, Tl L t → Pl L (f x t)) : Pl L (r.bind f) := by
  cases r with
  | out => exact trivial
  | fault a e => exact h
  | ok x t => exact hf x t h
theorem took_tl (hn : ∀ i, i ≤ L → Tl L (nx i)) {l : List ByteArray} {t t1 : Tok} {o : ByteArray} (ht : Tl L t) (h : tookF nx l t = some (o, t1)) : Tl L t1 := by
  unfold tookF at h
  split at h
  · injection h with h
    injection h with _ h
    rw [← h]
    exact hn _ ht.2
  · cases h
theorem Pl.took (hn : ∀ i, i ≤ L → Tl L (nx i)) {l : List ByteArray} {t : Tok} {a : Rs} {f : ByteArray → Tok → Rs} (ht : Tl L t) (ha : Pl L a) (hf : ∀ o t1, Tl L t1 → Pl L (f o t1)) : Pl L (tookD nx l t a f) := by
  unfold tookD
  cases h : tookF nx l t with
  | none => exact ha
  | some p => exact hf p.1 p.2 (took_tl hn ht h)
theorem Pl.want (hn : ∀ i, i ≤ L → Tl L (nx i)) {b : ByteArray} {t : Tok} {f : Tok → Rs} (ht : Tl L t) (hf : ∀ t1, Tl L t1 → Pl L (f t1)) : Pl L (wantF nx b t f) := by
  unfold wantF
  cases h : tookF nx [b] t with
  | none => exact ht.1
  | some p => exact hf p.2 (took_tl hn ht h)
theorem Pl.deeper {d : Nat} {t : Tok} {f : Nat → Rs} (ht : Tl L t) (hf : ∀ d, Pl L (f d)) : Pl L (deeperF d t f) := by
  unfold deeperF
  split
  · exact ht.1
  · exact hf _
theorem Pl.left (hn : ∀ i, i ≤ L → Tl L (nx i)) (l : List ByteArray) (one : Tok → Rs) (ho : ∀ t, Tl L t → Pl L (one t)) : ∀ (k : Nat) (x : E) (t : Tok), Tl L t → Pl L (leftGo nx l one k x t)
  | 0, _, _, _ => trivial
  | k + 1, x, t, ht => by
    rw [leftGo]
    cases h : tookF nx l t with
    | none => exact ht
    | some p => exact (ho p.2 (took_tl hn ht h)).bind (fun y t2 h2 => Pl.left hn l one ho k _ t2 h2)
theorem place_parse {lit : ByteArray → Int} (hn : ∀ i, i ≤ L → Tl L (nx i)) : ∀ (k : Nat) (nt : NT) (d : Nat) (t : Tok), Tl L t → Pl L (parse nx lit k nt d t)
  | 0, _, _, _, _ => by rw [parse]; exact trivial
  | k + 1, nt, d, t, ht => by
    have ih := place_parse (lit := lit) hn k
    cases nt with
    | comma => rw [parse]; exact (ih _ _ _ ht).bind (fun x t h => Pl.left hn _ _ (fun t h => ih _ _ _ h) k x t h)
    | assign =>
      rw [parse]
      refine (ih _ _ _ ht).bind (fun x t h => ?_)
      split
      · exact Pl.took hn h h (fun o t1 h1 => Pl.deeper h1 (fun d => (ih _ _ _ h1).bind (fun y t2 h2 => h2)))
      · exact h
    | choice =>
      rw [parse]
      exact (ih _ _ _ ht).bind (fun x t h => Pl.took hn h h (fun o t1 h1 => Pl.deeper h1 (fun d => (ih _ _ _ h1).bind (fun y t2 h2 => Pl.want hn h2 (fun t3 h3 => (ih _ _ _ h3).bind (fun z t4 h4 => h4))))))
    | level n =>
      rw [parse]
      split
      · exact ih _ _ _ ht
      · exact (ih _ _ _ ht).bind (fun x t h => Pl.left hn _ _ (fun t h => ih _ _ _ h) k x t h)
    | power =>
      rw [parse]
      exact (ih _ _ _ ht).bind (fun x t h => Pl.took hn h h (fun o t1 h1 => Pl.deeper h1 (fun d => (ih _ _ _ h1).bind (fun y t2 h2 => h2))))
    | unary =>
      rw [parse]
      refine Pl.deeper ht (fun d => Pl.took hn ht (ih _ _ _ ht) (fun o t1 h1 => ?_))
      split
      · exact ih _ _ _ h1
      · split
        · exact (ih _ _ _ h1).bind (fun y t2 h2 => h2)
        · split
          · split
            · exact hn _ h1.2
            · exact h1.1
          · exact (ih _ _ _ h1).bind (fun y t2 h2 => h2)
    | post =>
      rw [parse]
      split
      · exact hn _ ht.2
      · split
        · exact Pl.took hn (hn _ ht.2) (hn _ ht.2) (fun o t1 h1 => h1)
        · exact Pl.want hn ht (fun t1 h1 => (ih _ _ _ h1).bind (fun x t2 h2 => Pl.want hn h2 (fun t3 h3 => h3)))
end
theorem sign_pos (s : ByteArray) (bash : Bool) (a : Nat) : ∀ l, (signGo s bash a l).pos = a
  | [] => rfl
  | g :: l => by
    rw [signGo]
    split
    · rfl
    · exact sign_pos s bash a l
theorem next_pos (s : ByteArray) (bash : Bool) (i : Nat) : (nextF s bash i).pos = skipF s i := by
  rw [nextF_at]
  unfold nextAt
  split
  · rfl
  · split
    · rfl
    · split
      · rfl
      · split
        · rfl
        · exact sign_pos _ _ _ _
theorem next_tl (s : ByteArray) (bash : Bool) (hs : s.size ≤ 16384) : ∀ i, i ≤ s.size → Tl s.size (nextF s bash i) := by
  intro i hi
  refine ⟨?_, (next_nx s bash hs).le hi⟩
  rw [next_pos]
  exact (skip_le s i hi).2
/-- The place that is told is within the text; where it is read, at its end. -/
theorem parse_place (s : ByteArray) (bash : Bool) : (parseS s bash).2.1 ≤ s.size := by
  unfold parseS
  split
  · exact Nat.zero_le _
  · rename_i h
    have hn := next_tl s bash (by omega)
    have hp := place_parse (lit := litV) hn (20 * s.size + 100) .comma 0 (nextF s bash 0) (hn 0 (Nat.zero_le _))
    unfold parseTop
    split
    · exact Nat.le_refl _
    · cases hq : parse (nextF s bash) litV (20 * s.size + 100) .comma 0 (nextF s bash 0) with
      | out => exact Nat.zero_le _
      | fault a e => rw [hq] at hp; exact hp
      | ok x t =>
        rw [hq] at hp
        dsimp only
        split
        · exact hp.1
        · split <;> exact Nat.le_refl _
end Go.Proofs.YtlbgnpllbogkeaaDoor.Ext
