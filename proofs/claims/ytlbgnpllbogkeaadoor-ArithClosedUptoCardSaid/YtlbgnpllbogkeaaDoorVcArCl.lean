/- Proved: arith's parser in plain Lean: at tokens with a parenthesis in the end's place it reads what it reads without, or it is too deep. No program's step. -/
import Derived.Test.YtlbgnpllbogkeaaDoorVcArClosed
set_option linter.unusedVariables false
set_option linter.unusedSimpArgs false
namespace Go.Proofs.YtlbgnpllbogkeaaDoor.Ext
/-- What is read is read again, or it is too deep. -/
def Cl (n L : Nat) (r r' : Rs) : Prop := ∀ x t, r = .ok x t → r' = .ok x (clT n L t) ∨ ∃ a, r' = .fault a 42
section
variable {nx nx' : Nat → Tok} {n L : Nat}
theorem Cl.none {r' : Rs} {a e : Nat} : Cl n L (.fault a e) r' := fun x t h => by cases h
theorem Cl.out {r' : Rs} : Cl n L .out r' := fun x t h => by cases h
theorem Cl.same {x : E} {t : Tok} : Cl n L (.ok x t) (.ok x (clT n L t)) := fun y t1 h => by cases h; exact .inl rfl
theorem Cl.bind {r r' : Rs} {f f' : E → Tok → Rs} (h : Cl n L r r') (hf : ∀ x t, r = .ok x t → Cl n L (f x t) (f' x (clT n L t))) : Cl n L (r.bind f) (r'.bind f') := by
  intro y t1 e
  cases r with
  | out => cases e
  | fault a b => cases e
  | ok x t =>
    rcases h x t rfl with e1 | ⟨a, e1⟩
    · rw [e1]; exact hf x t rfl y t1 e
    · rw [e1]; exact .inr ⟨a, rfl⟩
def ClN (nx nx' : Nat → Tok) (n L : Nat) : Prop := ∀ i, i ≤ L → nx' (i + n) = clT n L (nx i)
theorem cl_kind {t : Tok} {k : Nat} (hk : k ≠ 0) (h : t.kind = k) : clT n L t = shT n t := by
  unfold clT
  rw [if_neg (by rw [h]; exact hk)]
theorem took_cl_some (hs : ClN nx nx' n L) {l : List ByteArray} {t t1 : Tok} {o : ByteArray} (ht : t.to_ ≤ L) (h : tookF nx l t = some (o, t1)) : tookF nx' l (clT n L t) = some (o, clT n L t1) := by
  unfold tookF at h
  split at h
  · rename_i hc
    cases h
    rw [cl_kind (by decide) hc.1]
    unfold tookF shT
    dsimp only
    rw [if_pos hc, hs _ ht]
  · cases h
theorem took_cl_none {l : List ByteArray} {t : Tok} (hl : inL l sR = false) (h : tookF nx l t = none) : tookF nx' l (clT n L t) = none := by
  unfold tookF at h
  split at h
  · cases h
  · rename_i hc
    unfold clT tookF
    split
    · rw [if_neg (by dsimp only; rw [hl]; exact fun e => by cases e.2)]
    · exact if_neg hc
theorem Cl.took (hs : ClN nx nx' n L) {l : List ByteArray} {t : Tok} {a a' : Rs} {f f' : ByteArray → Tok → Rs} (hl : inL l sR = false) (ht : t.to_ ≤ L) (ha : tookF nx l t = .none → Cl n L a a') (hf : ∀ o t1, tookF nx l t = some (o, t1) → Cl n L (f o t1) (f' o (clT n L t1))) : Cl n L (tookD nx l t a f) (tookD nx' l (clT n L t) a' f') := by
  cases h : tookF nx l t with
  | none => rw [tookD_no h, tookD_no (took_cl_none hl h)]; exact ha h
  | some p =>
    rw [tookD_yes (show tookF nx l t = some (p.1, p.2) from h), tookD_yes (took_cl_some hs ht (show tookF nx l t = some (p.1, p.2) from h))]
    exact hf p.1 p.2 h
theorem Cl.want (hs : ClN nx nx' n L) {b : ByteArray} {t : Tok} {f f' : Tok → Rs} (ht : t.to_ ≤ L) (hf : ∀ o t1, tookF nx [b] t = some (o, t1) → Cl n L (f t1) (f' (clT n L t1))) : Cl n L (wantF nx b t f) (wantF nx' b (clT n L t) f') := by
  unfold wantF
  cases h : tookF nx [b] t with
  | none => exact Cl.none
  | some p => rw [took_cl_some hs ht (show tookF nx [b] t = some (p.1, p.2) from h)]; exact hf p.1 p.2 h
theorem Cl.deeper {d d' : Nat} {t t' : Tok} {f f' : Nat → Rs} (hf : ∀ d d', Cl n L (f d) (f' d')) : Cl n L (deeperF d t f) (deeperF d' t' f') := by
  unfold deeperF
  split
  · exact Cl.none
  · split
    · exact fun x t h => .inr ⟨_, rfl⟩
    · exact hf _ _
theorem left_cl (hx : Nx nx L) (hs : ClN nx nx' n L) (l : List ByteArray) (hl : inL l sR = false) (one one' : Tok → Rs) (ho : ∀ t, t.to_ ≤ L → Cl n L (one t) (one' (clT n L t))) (hw : ∀ t x t1, t.to_ ≤ L → one t = .ok x t1 → t1.to_ ≤ L) : ∀ (k : Nat) (x : E) (t : Tok), t.to_ ≤ L → Cl n L (leftGo nx l one k x t) (leftGo nx' l one' k x (clT n L t))
  | 0, _, _, _ => by rw [leftGo]; exact Cl.out
  | k + 1, x, t, ht => by
    rw [leftGo, leftGo]
    cases h : tookF nx l t with
    | none => rw [took_cl_none hl h]; exact Cl.same
    | some p =>
      rw [took_cl_some hs ht (show tookF nx l t = some (p.1, p.2) from h)]
      have h1 := took_le hx ht (show tookF nx l t = some (p.1, p.2) from h)
      exact (ho p.2 h1).bind (fun y t2 hy => left_cl hx hs l hl one one' ho hw k _ t2 (hw _ _ _ h1 hy))
theorem levels_paren : ∀ m, inL (levelsL m) sR = false := by
  intro m
  unfold levelsL
  split <;> decide
theorem parse_cl {lit : ByteArray → Int} (hx : Nx nx L) (hs : ClN nx nx' n L) : ∀ (k : Nat) (nt : NT) (d d' : Nat) (t : Tok), t.to_ ≤ L → Cl n L (parse nx lit k nt d t) (parse nx' lit k nt d' (clT n L t))
  | 0, _, _, _, _, _ => by rw [parse]; exact Cl.out
  | k + 1, nt, d, d', t, ht => by
    have ih := parse_cl (lit := lit) hx hs k
    have hto := fun (nt : NT) (d : Nat) (t : Tok) (x : E) (t1 : Tok) (ht : t.to_ ≤ L) (h : parse nx lit k nt d t = .ok x t1) => parse_to (lit := lit) hx ht h
    cases nt with
    | comma =>
      rw [parse, parse]
      exact (ih _ _ _ _ ht).bind (fun x t1 h1 => left_cl hx hs _ (by decide) _ _ (fun t ht => ih _ _ _ _ ht) (fun t x t1 a b => hto _ _ _ _ _ a b) k x t1 (hto _ _ _ _ _ ht h1))
    | assign =>
      rw [parse, parse]
      refine (ih _ _ _ _ ht).bind (fun x t1 h1 => ?_)
      have ht1 := hto _ _ _ _ _ ht h1
      split
      · refine Cl.took hs (by decide) ht1 (fun _ => Cl.same) (fun o t2 h2 => Cl.deeper (fun d d' => ?_))
        exact (ih _ _ _ _ (took_le hx ht1 h2)).bind (fun y t3 h3 => Cl.same)
      · exact Cl.same
    | choice =>
      rw [parse, parse]
      refine (ih _ _ _ _ ht).bind (fun x t1 h1 => ?_)
      have ht1 := hto _ _ _ _ _ ht h1
      refine Cl.took hs (by decide) ht1 (fun _ => Cl.same) (fun o t2 h2 => Cl.deeper (fun d d' => ?_))
      have ht2 := took_le hx ht1 h2
      refine (ih _ _ _ _ ht2).bind (fun y t3 h3 => ?_)
      have ht3 := hto _ _ _ _ _ ht2 h3
      refine Cl.want hs ht3 (fun o t4 h4 => ?_)
      exact (ih _ _ _ _ (took_le hx ht3 h4)).bind (fun z t5 h5 => Cl.same)
    | level m =>
      rw [parse, parse]
      split
      · exact ih _ _ _ _ ht
      · exact (ih _ _ _ _ ht).bind (fun x t1 h1 => left_cl hx hs _ (levels_paren m) _ _ (fun t ht => ih _ _ _ _ ht) (fun t x t1 a b => hto _ _ _ _ _ a b) k x t1 (hto _ _ _ _ _ ht h1))
    | power =>
      rw [parse, parse]
      refine (ih _ _ _ _ ht).bind (fun x t1 h1 => ?_)
      have ht1 := hto _ _ _ _ _ ht h1
      refine Cl.took hs (by decide) ht1 (fun _ => Cl.same) (fun o t2 h2 => Cl.deeper (fun d d' => ?_))
      exact (ih _ _ _ _ (took_le hx ht1 h2)).bind (fun y t3 h3 => Cl.same)
    | unary =>
      rw [parse, parse]
      refine Cl.deeper (fun d d' => Cl.took hs (by decide) ht (fun _ => ih _ _ _ _ ht) (fun o t2 h2 => ?_))
      have ht2 := took_le hx ht h2
      split
      · exact ih _ _ _ _ ht2
      · split
        · exact (ih _ _ _ _ ht2).bind (fun y t3 h3 => Cl.same)
        · split
          · by_cases hk : t2.kind = 2
            · rw [if_pos hk, cl_kind (by decide) hk]
              show Cl n L _ (if t2.kind = 2 then Rs.ok (un (sPre ++ o) (varE t2.text)) (nx' (t2.to_ + n)) else .fault (t2.pos + n) 33)
              rw [if_pos hk, hs _ ht2]
              exact Cl.same
            · rw [if_neg hk]
              exact Cl.none
          · exact (ih _ _ _ _ ht2).bind (fun y t3 h3 => Cl.same)
    | post =>
      rw [parse, parse]
      by_cases hk : t.kind = 1
      · rw [if_pos hk, cl_kind (by decide) hk]
        show Cl n L _ (if t.kind = 1 then Rs.ok (litE (lit t.text)) (nx' (t.to_ + n)) else _)
        rw [if_pos hk, hs _ ht]
        exact Cl.same
      · rw [if_neg hk]
        by_cases hk2 : t.kind = 2
        · rw [if_pos hk2, cl_kind (by decide) hk2]
          show Cl n L _ (if t.kind = 1 then _ else if t.kind = 2 then tookD nx' stepL (nx' (t.to_ + n)) (.ok (varE t.text) (nx' (t.to_ + n))) (fun op t1 => .ok (un (sPost ++ op) (varE t.text)) t1) else _)
          rw [if_neg hk, if_pos hk2, hs _ ht]
          exact Cl.took hs (by decide) (hx.le ht) (fun _ => Cl.same) (fun o t1 h1 => Cl.same)
        · rw [if_neg hk2]
          by_cases hk3 : t.kind = 3
          · have e1 : (clT n L t).kind = 3 := by rw [cl_kind (by decide) hk3]; exact hk3
            rw [if_neg (by rw [e1]; decide), if_neg (by rw [e1]; decide)]
            refine Cl.want hs ht (fun o t1 h1 => ?_)
            have ht1 := took_le hx ht h1
            refine (ih _ _ _ _ ht1).bind (fun x t2 h2 => ?_)
            exact Cl.want hs (hto _ _ _ _ _ ht1 h2) (fun o t3 h3 => Cl.same)
          · unfold wantF
            rw [show tookF nx [sL] t = none from by unfold tookF; rw [if_neg (fun h => hk3 h.1)]]
            exact Cl.none
end
/-- Read to the end, or not read. -/
def Up (r : Rs) : Prop := (∃ x t, r = .ok x t ∧ t.kind = 0) ∨ ∃ a e, r = .fault a e
section
variable {nx : Nat → Tok} {lit : ByteArray → Int}
theorem took_end {l : List ByteArray} {t : Tok} (h : t.kind = 0) : tookF nx l t = none := by
  unfold tookF
  rw [if_neg (by rw [h]; exact fun e => by cases e.1)]
theorem left_end {l : List ByteArray} {one : Tok → Rs} {k : Nat} {x : E} {t : Tok} (h : t.kind = 0) (hk : 0 < k) : leftGo nx l one k x t = .ok x t := by
  obtain ⟨j, rfl⟩ := Nat.exists_eq_succ_of_ne_zero (Nat.ne_of_gt hk)
  rw [leftGo, took_end h]
theorem up_bind {r : Rs} {f : E → Tok → Rs} (h : Up r) (hf : ∀ x t, t.kind = 0 → f x t = .ok x t) : r.bind f = r := by
  rcases h with ⟨x, t, rfl, hk⟩ | ⟨a, e, rfl⟩
  · exact hf x t hk
  · rfl
theorem up_unary {k d : Nat} {t : Tok} (hd : d ≠ 60) (ht : tookF nx unaryL t = none) : parse nx lit (k + 1) .unary d t = parse nx lit k .post (d + 1) t := by
  rw [parse]
  unfold deeperF
  rw [if_neg hd]
  exact tookD_no ht
theorem up_power {k d : Nat} {t : Tok} (h : Up (parse nx lit k .unary d t)) : parse nx lit (k + 1) .power d t = parse nx lit k .unary d t := by
  rw [parse]
  exact up_bind h (fun x t hk => tookD_no (took_end hk))
theorem up_levels {k d : Nat} {t : Tok} (h : Up (parse nx lit k .unary d t)) : ∀ m, m ≤ 10 → parse nx lit (k + 2 + m) (.level (10 - m)) d t = parse nx lit k .unary d t
  | 0, _ => by
    rw [parse, if_pos rfl]
    exact up_power h
  | m + 1, hm => by
    have ih := up_levels h m (by omega)
    show parse nx lit (k + 2 + m + 1) (.level (10 - (m + 1))) d t = _
    rw [parse, if_neg (by omega), show 10 - (m + 1) + 1 = 10 - m from by omega, ih]
    exact up_bind h (fun x t hk => left_end hk (by omega))
theorem up_comma {k d : Nat} {t : Tok} (h : Up (parse nx lit k .unary d t)) : parse nx lit (k + 15) .comma d t = parse nx lit k .unary d t := by
  have h1 := up_levels h 10 (by omega)
  have h2 : parse nx lit (k + 13) .choice d t = parse nx lit k .unary d t := by
    rw [parse, h1]
    exact up_bind h (fun x t hk => tookD_no (took_end hk))
  have h3 : parse nx lit (k + 14) .assign d t = parse nx lit k .unary d t := by
    rw [parse, h2]
    refine up_bind h (fun x t hk => ?_)
    split
    · exact tookD_no (took_end hk)
    · rfl
  rw [parse, h3]
  exact up_bind h (fun x t hk => left_end hk (by omega))
end
end Go.Proofs.YtlbgnpllbogkeaaDoor.Ext
