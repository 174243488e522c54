/- Proved: arith's parser in plain Lean: more rounds change nothing; tokens that stand further on change nothing but places. No program's step. -/
import Derived.Test.YtlbgnpllbogkeaaDoorVbArPure
set_option linter.unusedVariables false
set_option linter.unusedSimpArgs false
namespace Go.Proofs.YtlbgnpllbogkeaaDoor.Ext
def Le (r r' : Rs) : Prop := r = .out ∨ r' = r
theorem Le.refl (r : Rs) : Le r r := .inr rfl
theorem Le.bind {r r' : Rs} {f f' : E → Tok → Rs} (h : Le r r') (hf : ∀ x t, Le (f x t) (f' x t)) : Le (r.bind f) (r'.bind f') := by
  rcases h with rfl | rfl
  · exact .inl rfl
  · cases r' with
    | out => exact .inl rfl
    | fault a e => exact .inr rfl
    | ok x t => exact hf x t
theorem Le.took {nx : Nat → Tok} {l : List ByteArray} {t : Tok} {a a' : Rs} {f f' : ByteArray → Tok → Rs} (h : Le a a') (hf : ∀ o t, Le (f o t) (f' o t)) : Le (tookD nx l t a f) (tookD nx l t a' f') := by
  unfold tookD
  cases tookF nx l t with
  | none => exact h
  | some p => exact hf p.1 p.2
theorem Le.want {nx : Nat → Tok} {b : ByteArray} {t : Tok} {f f' : Tok → Rs} (hf : ∀ t, Le (f t) (f' t)) : Le (wantF nx b t f) (wantF nx b t f') := by
  unfold wantF
  cases tookF nx [b] t with
  | none => exact Le.refl _
  | some p => exact hf p.2
theorem Le.deeper {d : Nat} {t : Tok} {f f' : Nat → Rs} (hf : ∀ d, Le (f d) (f' d)) : Le (deeperF d t f) (deeperF d t f') := by
  unfold deeperF
  split
  · exact Le.refl _
  · exact hf _
theorem Le.left {nx : Nat → Tok} {l : List ByteArray} {one one' : Tok → Rs} (ho : ∀ t, Le (one t) (one' t)) : ∀ (k k' : Nat) (x : E) (t : Tok), k ≤ k' → Le (leftGo nx l one k x t) (leftGo nx l one' k' x t)
  | 0, _, _, _, _ => .inl rfl
  | k + 1, 0, _, _, h => absurd h (by omega)
  | k + 1, k' + 1, x, t, h => by
    rw [leftGo, leftGo]
    cases tookF nx l t with
    | none => exact Le.refl _
    | some p => exact (ho p.2).bind (fun y t2 => Le.left ho k k' _ t2 (by omega))
theorem parse_le {nx : Nat → Tok} {lit : ByteArray → Int} : ∀ (k k' : Nat) (nt : NT) (d : Nat) (t : Tok), k ≤ k' → Le (parse nx lit k nt d t) (parse nx lit k' nt d t)
  | 0, _, _, _, _, _ => .inl (by rw [parse])
  | k + 1, 0, _, _, _, h => absurd h (by omega)
  | k + 1, k' + 1, nt, d, t, h => by
    have ih := fun nt d t => parse_le (nx := nx) (lit := lit) k k' nt d t (by omega)
    cases nt with
    | comma => rw [parse, parse]; exact (ih _ _ _).bind (fun x t => Le.left (fun t => ih _ _ _) k k' x t (by omega))
    | assign =>
      rw [parse, parse]
      refine (ih _ _ _).bind (fun x t => ?_)
      split
      · exact Le.took (Le.refl _) (fun o t => Le.deeper (fun d => (ih _ _ _).bind (fun y t => Le.refl _)))
      · exact Le.refl _
    | choice =>
      rw [parse, parse]
      exact (ih _ _ _).bind (fun x t => Le.took (Le.refl _) (fun o t => Le.deeper (fun d => (ih _ _ _).bind (fun y t => Le.want (fun t => (ih _ _ _).bind (fun z t => Le.refl _))))))
    | level n =>
      rw [parse, parse]
      split
      · exact ih _ _ _
      · exact (ih _ _ _).bind (fun x t => Le.left (fun t => ih _ _ _) k k' x t (by omega))
    | power =>
      rw [parse, parse]
      exact (ih _ _ _).bind (fun x t => Le.took (Le.refl _) (fun o t => Le.deeper (fun d => (ih _ _ _).bind (fun y t => Le.refl _))))
    | unary =>
      rw [parse, parse]
      refine Le.deeper (fun d => Le.took (ih _ _ _) (fun o t => ?_))
      split
      · exact ih _ _ _
      · split
        · exact (ih _ _ _).bind (fun x t => Le.refl _)
        · split
          · exact Le.refl _
          · exact (ih _ _ _).bind (fun x t => Le.refl _)
    | post =>
      rw [parse, parse]
      split
      · exact Le.refl _
      · split
        · exact Le.refl _
        · exact Le.want (fun t => (ih _ _ _).bind (fun x t => Le.refl _))
/-- More rounds tell the same. -/
theorem parse_more {nx : Nat → Tok} {lit : ByteArray → Int} {k k' : Nat} {nt : NT} {d : Nat} {t : Tok} (h : k ≤ k') (ho : parse nx lit k nt d t ≠ .out) : parse nx lit k' nt d t = parse nx lit k nt d t := by
  rcases parse_le (nx := nx) (lit := lit) k k' nt d t h with e | e
  · exact absurd e ho
  · exact e
def shT (n : Nat) (t : Tok) : Tok := ⟨t.kind, t.text, t.pos + n, t.to_ + n⟩
def shR (n : Nat) : Rs → Rs
  | .out => .out
  | .fault a e => .fault (a + n) e
  | .ok x t => .ok x (shT n t)
section
variable {nx nx' : Nat → Tok} {n L : Nat}
def Sh (nx nx' : Nat → Tok) (n L : Nat) : Prop := ∀ i, i ≤ L → nx' (i + n) = shT n (nx i)
theorem took_sh (hs : Sh nx nx' n L) {l : List ByteArray} {t : Tok} (ht : t.to_ ≤ L) : tookF nx' l (shT n t) = (tookF nx l t).map fun p => (p.1, shT n p.2) := by
  unfold tookF shT
  dsimp only
  split
  · rw [hs _ ht]; rfl
  · rfl
theorem bind_sh {r : Rs} {f f' : E → Tok → Rs} (hf : ∀ x t, r = .ok x t → f' x (shT n t) = shR n (f x t)) : (shR n r).bind f' = shR n (r.bind f) := by
  cases r with
  | out => rfl
  | fault a e => rfl
  | ok x t => exact hf x t rfl
theorem tookD_sh (hs : Sh nx nx' n L) {l : List ByteArray} {t : Tok} {a a' : Rs} {f f' : ByteArray → Tok → Rs} (ht : t.to_ ≤ L) (ha : a' = shR n a) (hf : ∀ o t1, tookF nx l t = some (o, t1) → f' o (shT n t1) = shR n (f o t1)) : tookD nx' l (shT n t) a' f' = shR n (tookD nx l t a f) := by
  unfold tookD
  rw [took_sh hs ht]
  cases h : tookF nx l t with
  | none => exact ha
  | some p => exact hf p.1 p.2 h
theorem want_sh (hs : Sh nx nx' n L) {b : ByteArray} {t : Tok} {f f' : Tok → Rs} (ht : t.to_ ≤ L) (hf : ∀ o t1, tookF nx [b] t = some (o, t1) → f' (shT n t1) = shR n (f t1)) : wantF nx' b (shT n t) f' = shR n (wantF nx b t f) := by
  unfold wantF
  rw [took_sh hs ht]
  cases h : tookF nx [b] t with
  | none => rfl
  | some p => exact hf p.1 p.2 h
theorem deeper_sh {d : Nat} {t : Tok} {f f' : Nat → Rs} (hf : ∀ d, f' d = shR n (f d)) : deeperF d (shT n t) f' = shR n (deeperF d t f) := by
  unfold deeperF
  split
  · rfl
  · exact hf _
theorem took_le (hx : Nx nx L) {l : List ByteArray} {t t1 : Tok} {o : ByteArray} (ht : t.to_ ≤ L) (h : tookF nx l t = some (o, t1)) : t1.to_ ≤ L := (of_took hx ht h).1
theorem left_sh (hx : Nx nx L) (hs : Sh nx nx' n L) (l : List ByteArray) (one one' : Tok → Rs) (ho : ∀ t, t.to_ ≤ L → one' (shT n t) = shR n (one t)) (hw : ∀ t x t1, t.to_ ≤ L → one t = .ok x t1 → t1.to_ ≤ L) : ∀ (k : Nat) (x : E) (t : Tok), t.to_ ≤ L → leftGo nx' l one' k x (shT n t) = shR n (leftGo nx l one k x t)
  | 0, _, _, _ => rfl
  | k + 1, x, t, ht => by
    rw [leftGo, leftGo, took_sh hs ht]
    cases h : tookF nx l t with
    | none => rfl
    | some p =>
      have h1 := took_le hx ht (show tookF nx l t = some (p.1, p.2) from h)
      show (one' (shT n p.2)).bind _ = shR n ((one p.2).bind _)
      rw [ho p.2 h1]
      exact bind_sh (fun y t2 hy => left_sh hx hs l one one' ho hw k _ t2 (hw _ _ _ h1 hy))
theorem parse_to {lit : ByteArray → Int} (hx : Nx nx L) {k : Nat} {nt : NT} {d : Nat} {t t1 : Tok} {x : E} (ht : t.to_ ≤ L) (h : parse nx lit k nt d t = .ok x t1) : t1.to_ ≤ L := by
  have h1 := weak_parse (lit := lit) hx k nt d t ht
  rw [h] at h1
  exact h1.1
theorem parse_sh {lit : ByteArray → Int} (hx : Nx nx L) (hs : Sh nx nx' n L) : ∀ (k : Nat) (nt : NT) (d : Nat) (t : Tok), t.to_ ≤ L → parse nx' lit k nt d (shT n t) = shR n (parse nx lit k nt d t)
  | 0, _, _, _, _ => by rw [parse, parse]; rfl
  | k + 1, nt, d, t, ht => by
    have ih := parse_sh (lit := lit) hx hs k
    have hto := fun (nt : NT) (d : Nat) (t : Tok) (x : E) (t1 : Tok) (ht : t.to_ ≤ L) (h : parse nx lit k nt d t = .ok x t1) => parse_to (lit := lit) hx ht h
    cases nt with
    | comma =>
      rw [parse, parse, ih _ _ _ ht]
      exact bind_sh (fun x t1 h1 => left_sh hx hs _ _ _ (fun t ht => ih _ _ _ ht) (fun t x t1 a b => hto _ _ _ _ _ a b) k x t1 (hto _ _ _ _ _ ht h1))
    | assign =>
      rw [parse, parse, ih _ _ _ ht]
      refine bind_sh (fun x t1 h1 => ?_)
      have ht1 := hto _ _ _ _ _ ht h1
      split
      · refine tookD_sh hs ht1 rfl (fun o t2 h2 => deeper_sh (fun d => ?_))
        rw [ih _ _ _ (took_le hx ht1 h2)]
        exact bind_sh (fun y t3 h3 => rfl)
      · rfl
    | choice =>
      rw [parse, parse, ih _ _ _ ht]
      refine bind_sh (fun x t1 h1 => ?_)
      have ht1 := hto _ _ _ _ _ ht h1
      refine tookD_sh hs ht1 rfl (fun o t2 h2 => deeper_sh (fun d => ?_))
      have ht2 := took_le hx ht1 h2
      rw [ih _ _ _ ht2]
      refine bind_sh (fun y t3 h3 => ?_)
      have ht3 := hto _ _ _ _ _ ht2 h3
      refine want_sh hs ht3 (fun o t4 h4 => ?_)
      rw [ih _ _ _ (took_le hx ht3 h4)]
      exact bind_sh (fun z t5 h5 => rfl)
    | level m =>
      rw [parse, parse]
      split
      · exact ih _ _ _ ht
      · rw [ih _ _ _ ht]
        exact bind_sh (fun x t1 h1 => left_sh hx hs _ _ _ (fun t ht => ih _ _ _ ht) (fun t x t1 a b => hto _ _ _ _ _ a b) k x t1 (hto _ _ _ _ _ ht h1))
    | power =>
      rw [parse, parse, ih _ _ _ ht]
      refine bind_sh (fun x t1 h1 => ?_)
      have ht1 := hto _ _ _ _ _ ht h1
      refine tookD_sh hs ht1 rfl (fun o t2 h2 => deeper_sh (fun d => ?_))
      rw [ih _ _ _ (took_le hx ht1 h2)]
      exact bind_sh (fun y t3 h3 => rfl)
    | unary =>
      rw [parse, parse]
      refine deeper_sh (fun d => tookD_sh hs ht (ih _ _ _ ht) (fun o t2 h2 => ?_))
      have ht2 := took_le hx ht h2
      split
      · exact ih _ _ _ ht2
      · split
        · rw [ih _ _ _ ht2]
          exact bind_sh (fun y t3 h3 => rfl)
        · split
          · show (if t2.kind = 2 then Rs.ok (un (sPre ++ o) (varE t2.text)) (nx' (t2.to_ + n)) else .fault (t2.pos + n) 33) = _
            rw [hs _ ht2]
            split <;> rfl
          · rw [ih _ _ _ ht2]
            exact bind_sh (fun y t3 h3 => rfl)
    | post =>
      rw [parse, parse]
      show (if t.kind = 1 then Rs.ok (litE (lit t.text)) (nx' (t.to_ + n)) else if t.kind = 2 then tookD nx' stepL (nx' (t.to_ + n)) (.ok (varE t.text) (nx' (t.to_ + n))) (fun op t1 => .ok (un (sPost ++ op) (varE t.text)) t1) else wantF nx' sL (shT n t) fun t => (parse nx' lit k .comma d t).bind fun x t => wantF nx' sR t fun t => .ok x t) = _
      rw [hs _ ht]
      split
      · rfl
      · split
        · exact tookD_sh hs (hx.le ht) rfl (fun o t2 h2 => rfl)
        · refine want_sh hs ht (fun o t1 h1 => ?_)
          have ht1 := took_le hx ht h1
          rw [ih _ _ _ ht1]
          refine bind_sh (fun x t2 h2 => ?_)
          exact want_sh hs (hto _ _ _ _ _ ht1 h2) (fun o t3 h3 => rfl)
end
end Go.Proofs.YtlbgnpllbogkeaaDoor.Ext
