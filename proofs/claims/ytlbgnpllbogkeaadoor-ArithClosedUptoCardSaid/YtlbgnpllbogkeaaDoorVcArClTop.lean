/- Proved: in parentheses a text that is read is the same expression, or too deep, and behind ! it is that of one (arith.Parse in plain Lean). No program's step. -/
import Derived.Test.YtlbgnpllbogkeaaDoorVcArCl
set_option linter.unusedVariables false
set_option linter.unusedSimpArgs false
namespace Go.Proofs.YtlbgnpllbogkeaaDoor.Ext
open Go.RowKit Go.Proofs.YtlbgnpllbogkeaaDoorW.PrintWords
abbrev bangP : ByteArray := ⟨#[33]⟩
section
variable {t : ByteArray} {a : Nat} {c : UInt8} {l : List UInt8}
theorem signs_at (ht : (t.extract a t.size).data.toList = c :: l) (bash : Bool) : ∀ L, signGo t bash a L = (match L.find? (fun g => g.data.toList.isPrefixOf (c :: l) && (bash || !inL bashesL g)) with
      | some g => ⟨3, g, a, a + g.size⟩
      | none => ⟨4, em, a, a + 1⟩ : Tok) := by
  intro L
  induction L with
  | nil => rfl
  | cons g L ih =>
    rw [signGo, List.find?_cons]
    unfold signOk Lib.hasPrefix
    rw [ht]
    cases g.data.toList.isPrefixOf (c :: l) && (bash || !inL bashesL g) with
    | true => rfl
    | false => exact ih
theorem next_sign (ht : (t.extract a t.size).data.toList = c :: l) (ha : a < t.size) (hb : blankB c = false) (hp : partB c = false) (hd : c ≠ 36) (bash : Bool) : nextF t bash a = signGo t bash a signsL := by
  have hsk : skipF t a = a := by
    have e := tail_eq t a
    rw [ht] at e
    unfold skipF runL
    rw [← e, List.takeWhile_cons, if_neg (by rw [hb]; decide)]
    rfl
  have hdl : dollarB t a = false := by
    unfold dollarB Lib.hasPrefix
    rw [ht, List.isPrefixOf_cons_cons, show ((36 : UInt8) == c) = false from beq_eq_false_iff_ne.2 (fun e => hd e.symm)]
    rfl
  have hr : (restF t a).data.toList = c :: l := by
    unfold dollarB at hdl
    unfold restF Lib.trimPrefix
    rw [hdl, ht]
    rfl
  have hw : wordF (restF t a) = em := by
    apply ba_eq
    unfold wordF runL
    rw [hr, List.takeWhile_cons, if_neg (by rw [hp]; decide)]
    simp only [ByteArray.data_extract, Array.toList_extract, List.extract_eq_take_drop, List.length_nil]
    rfl
  have hn : nameOf em = false := by decide
  have hl : ((litOf em).2 == 0) = false := by
    cases h : ((litOf em).2 == 0) with
    | false => rfl
    | true => exact absurd (lit_pos h) (by decide)
  unfold nextF
  rw [hsk, if_neg (by omega), hw, hn, hdl, hl, if_neg (by decide), if_neg (by decide), if_neg (by decide)]
end
theorem next_paren {t : ByteArray} {a : Nat} {l : List UInt8} (ht : (t.extract a t.size).data.toList = 40 :: l) (ha : a < t.size) (bash : Bool) : nextF t bash a = ⟨3, sL, a, a + 1⟩ := by
  rw [next_sign ht ha (by decide) (by decide) (by decide), signs_at ht]
  cases bash <;> simp [signsL, List.find?_cons, List.isPrefixOf, inL, bashesL] <;> rfl
theorem next_bang {t : ByteArray} {a : Nat} {l : List UInt8} (ht : (t.extract a t.size).data.toList = 33 :: 40 :: l) (ha : a < t.size) (bash : Bool) : nextF t bash a = ⟨3, bangP, a, a + 1⟩ := by
  rw [next_sign ht ha (by decide) (by decide) (by decide), signs_at ht]
  cases bash <;> simp [signsL, List.find?_cons, List.isPrefixOf, inL, bashesL] <;> rfl
theorem next_end (t : ByteArray) (bash : Bool) : (nextF t bash t.size).kind = 0 := by
  have h := skip_le t t.size (Nat.le_refl _)
  unfold nextF
  rw [if_pos (by omega)]
section
variable {nx nx' : Nat → Tok} {lit : ByteArray → Int} {n L : Nat}
/-- A parenthesis, then the text. -/
theorem post_paren (hx : Nx nx L) (hs : ClN nx nx' n L) {t0 : Tok} (hk : t0.kind = 3) (ht : t0.text = sL) (hto : t0.to_ = n) (he : (nx' (L + n + 1)).kind = 0) {x : E} {t : Tok} {k d : Nat} (hkk : 20 * L + 100 ≤ k) (hp : parse nx lit (20 * L + 100) .comma 0 (nx 0) = .ok x t) (hz : t.kind = 0) :
    (∃ tE, parse nx' lit (k + 1) .post d t0 = .ok x tE ∧ tE.kind = 0) ∨ ∃ a, parse nx' lit (k + 1) .post d t0 = .fault a 42 := by
  have h0 : (nx 0).to_ ≤ L := hx.le (Nat.zero_le _)
  have hp2 : parse nx lit k .comma 0 (nx 0) = .ok x t := by rw [parse_more hkk (by rw [hp]; exact fun e => by cases e), hp]
  have h1 := parse_cl (lit := lit) hx hs k .comma 0 d (nx 0) h0 x t hp2
  have e0 := hs 0 (Nat.zero_le _)
  rw [Nat.zero_add] at e0
  rw [parse, if_neg (by rw [hk]; decide), if_neg (by rw [hk]; decide)]
  have e1 : tookF nx' [sL] t0 = some (sL, clT n L (nx 0)) := by
    unfold tookF
    rw [if_pos ⟨hk, by rw [ht]; decide⟩, ht, hto, e0]
  unfold wantF
  rw [e1]
  dsimp only
  rcases h1 with h1 | ⟨a, h1⟩
  · rw [h1]
    show (∃ tE, (match tookF nx' [sR] (clT n L t) with | .none => Rs.fault (clT n L t).pos 33 | some (_, t1) => .ok x t1) = _ ∧ _) ∨ _
    have e2 : clT n L t = ⟨3, sR, L + n, L + n + 1⟩ := by unfold clT; rw [if_pos hz]
    have e3 : tookF nx' [sR] (clT n L t) = some (sR, nx' (L + n + 1)) := by
      rw [e2]
      unfold tookF
      rw [if_pos ⟨rfl, (by decide : inL [sR] sR = true)⟩]
    rw [e3]
    exact .inl ⟨_, rfl, he⟩
  · rw [h1]
    exact .inr ⟨a, rfl⟩
/-- Nothing in the parentheses. -/
theorem post_none (hs : ClN nx nx' n L) {t0 : Tok} (hk : t0.kind = 3) (ht : t0.text = sL) (hto : t0.to_ = n) (hz : (nx 0).kind = 0) {k d : Nat} (hd : d ≠ 60) : ∃ a, parse nx' lit (k + 18) .post d t0 = .fault a 33 := by
  have e0 := hs 0 (Nat.zero_le _)
  rw [Nat.zero_add] at e0
  have e2 : clT n L (nx 0) = ⟨3, sR, L + n, L + n + 1⟩ := by unfold clT; rw [if_pos hz]
  rw [e2] at e0
  have h1 : parse nx' lit (k + 1) .post (d + 1) ⟨3, sR, L + n, L + n + 1⟩ = .fault (L + n) 33 := by
    rw [parse, if_neg (show ¬ (3 : Nat) = 1 by decide), if_neg (show ¬ (3 : Nat) = 2 by decide)]
    unfold wantF
    rw [show tookF nx' [sL] ⟨3, sR, L + n, L + n + 1⟩ = none from by unfold tookF; rw [if_neg (fun h => absurd h.2 (by decide : ¬ inL [sL] sR = true))]]
  have h2 : parse nx' lit (k + 2) .unary d ⟨3, sR, L + n, L + n + 1⟩ = .fault (L + n) 33 := by
    rw [up_unary hd (by unfold tookF; rw [if_neg (fun h => absurd h.2 (by decide : ¬ inL unaryL sR = true))])]
    exact h1
  have h3 : parse nx' lit (k + 17) .comma d ⟨3, sR, L + n, L + n + 1⟩ = .fault (L + n) 33 := by
    show parse nx' lit (k + 2 + 15) .comma d _ = _
    rw [up_comma (by rw [h2]; exact .inr ⟨_, _, rfl⟩)]
    exact h2
  rw [parse, if_neg (by rw [hk]; decide), if_neg (by rw [hk]; decide)]
  have e1 : tookF nx' [sL] t0 = some (sL, ⟨3, sR, L + n, L + n + 1⟩) := by
    unfold tookF
    rw [if_pos ⟨hk, by rw [ht]; decide⟩, ht, hto, e0]
  unfold wantF
  rw [e1]
  dsimp only
  rw [h3]
  exact ⟨_, rfl⟩
end
def Er : Rs → Prop
  | .fault _ e => e ≠ 0
  | _ => True
section
variable {nx : Nat → Tok} {lit : ByteArray → Int}
theorem Er.bind {r : Rs} {f : E → Tok → Rs} (h : Er r) (hf : ∀ x t, Er (f x t)) : Er (r.bind f) := by
  cases r with
  | out => exact trivial
  | fault a e => exact h
  | ok x t => exact hf x t
theorem Er.took {l : List ByteArray} {t : Tok} {a : Rs} {f : ByteArray → Tok → Rs} (ha : Er a) (hf : ∀ o t1, Er (f o t1)) : Er (tookD nx l t a f) := by
  unfold tookD
  cases tookF nx l t with
  | none => exact ha
  | some p => exact hf p.1 p.2
theorem Er.want {b : ByteArray} {t : Tok} {f : Tok → Rs} (hf : ∀ t1, Er (f t1)) : Er (wantF nx b t f) := by
  unfold wantF
  cases tookF nx [b] t with
  | none => exact (by decide : (33 : Nat) ≠ 0)
  | some p => exact hf p.2
theorem Er.deeper {d : Nat} {t : Tok} {f : Nat → Rs} (hf : ∀ d, Er (f d)) : Er (deeperF d t f) := by
  unfold deeperF
  split
  · exact (by decide : (42 : Nat) ≠ 0)
  · exact hf _
theorem Er.left {l : List ByteArray} {one : Tok → Rs} (ho : ∀ t, Er (one t)) : ∀ (k : Nat) (x : E) (t : Tok), Er (leftGo nx l one k x t)
  | 0, _, _ => trivial
  | k + 1, x, t => by
    rw [leftGo]
    cases tookF nx l t with
    | none => exact trivial
    | some p => exact (ho p.2).bind (fun y t2 => Er.left ho k _ t2)
theorem parse_er : ∀ (k : Nat) (nt : NT) (d : Nat) (t : Tok), Er (parse nx lit k nt d t)
  | 0, _, _, _ => by rw [parse]; exact trivial
  | k + 1, nt, d, t => by
    have ih := parse_er k
    cases nt with
    | comma => rw [parse]; exact (ih _ _ _).bind (fun x t => Er.left (fun t => ih _ _ _) k x t)
    | assign =>
      rw [parse]
      refine (ih _ _ _).bind (fun x t => ?_)
      split
      · exact Er.took trivial (fun o t => Er.deeper (fun d => (ih _ _ _).bind (fun y t => trivial)))
      · exact trivial
    | choice =>
      rw [parse]
      exact (ih _ _ _).bind (fun x t => Er.took trivial (fun o t => Er.deeper (fun d => (ih _ _ _).bind (fun y t => Er.want (fun t => (ih _ _ _).bind (fun z t => trivial))))))
    | level n =>
      rw [parse]
      split
      · exact ih _ _ _
      · exact (ih _ _ _).bind (fun x t => Er.left (fun t => ih _ _ _) k x t)
    | power =>
      rw [parse]
      exact (ih _ _ _).bind (fun x t => Er.took trivial (fun o t => Er.deeper (fun d => (ih _ _ _).bind (fun y t => trivial))))
    | unary =>
      rw [parse]
      refine Er.deeper (fun d => Er.took (ih _ _ _) (fun o t => ?_))
      split
      · exact ih _ _ _
      · split
        · exact (ih _ _ _).bind (fun x t => trivial)
        · split
          · split
            · exact trivial
            · exact (by decide : (33 : Nat) ≠ 0)
          · exact (ih _ _ _).bind (fun x t => trivial)
    | post =>
      rw [parse]
      split
      · exact trivial
      · split
        · exact Er.took trivial (fun o t => trivial)
        · exact Er.want (fun t => (ih _ _ _).bind (fun x t => Er.want (fun t => trivial)))
/-- What is read is read to the end, and not deep. -/
theorem top_ok {L : Nat} (hx : Nx nx L) (hk : (nx 0).kind ≠ 0) (he : (parseTop nx lit L).2.2 = 0) : ∃ t, parse nx lit (20 * L + 100) .comma 0 (nx 0) = .ok (parseTop nx lit L).1 t ∧ t.kind = 0 ∧ ¬ 60 < deepF 1000 (parseTop nx lit L).1 := by
  have hno := parse_some (lit := lit) hx
  have her := parse_er (nx := nx) (lit := lit) (20 * L + 100) .comma 0 (nx 0)
  unfold parseTop at he ⊢
  rw [if_neg hk] at he ⊢
  cases h : parse nx lit (20 * L + 100) .comma 0 (nx 0) with
  | out => exact absurd h hno
  | fault a e =>
    rw [h] at he her
    exact absurd he her
  | ok x t =>
    rw [h] at he
    dsimp only at he ⊢
    by_cases hz : t.kind ≠ 0
    · rw [if_pos hz] at he
      cases he
    · rw [if_neg hz] at he ⊢
      by_cases hd : 60 < deepF 1000 x
      · rw [if_pos hd] at he
        cases he
      · rw [if_neg hd]
        exact ⟨t, rfl, Classical.byContradiction hz, hd⟩
/-- A whole text that is read to its end. -/
theorem top_read {L k : Nat} {x : E} {t : Tok} (hk : (nx 0).kind ≠ 0) (hkk : k = 20 * L + 100) (h : parse nx lit k .comma 0 (nx 0) = .ok x t) (hz : t.kind = 0) :
    parseTop nx lit L = if 60 < deepF 1000 x then (zeroE, L, 42) else (x, L, 0) := by
  subst hkk
  unfold parseTop
  rw [if_neg hk, h]
  dsimp only
  rw [if_neg (by rw [hz]; exact fun e => e rfl)]
theorem top_fault {L k : Nat} {a e : Nat} (hk : (nx 0).kind ≠ 0) (hkk : k = 20 * L + 100) (h : parse nx lit k .comma 0 (nx 0) = .fault a e) : (parseTop nx lit L).2.2 = e := by
  subst hkk
  unfold parseTop
  rw [if_neg hk, h]
end
section
variable {s : ByteArray}
theorem cl_n (pre : ByteArray) (bash : Bool) (hs : s.size ≤ 16384) : ClN (nextF s bash) (nextF (pre ++ (s ++ parenR)) bash) pre.size s.size := cl_tokens pre bash hs
theorem big_size (pre : ByteArray) : (pre ++ (s ++ parenR)).size = s.size + pre.size + 1 := by
  rw [app_size, app_size]
  show pre.size + (s.size + 1) = _
  omega
theorem blank_all (h : skipF s 0 = s.size) : ∀ c ∈ s.data.toList, blankB c = true := by
  unfold skipF runL at h
  rw [List.drop_zero, Nat.zero_add, Lib.size_eq] at h
  have h1 : s.data.toList.takeWhile blankB = s.data.toList := (List.takeWhile_prefix blankB).eq_of_length h
  intro c hc
  rw [← h1] at hc
  exact List.all_eq_true.1 (List.all_takeWhile) c hc
theorem end_blank (bash : Bool) (h : (nextF s bash 0).kind = 0) : ∀ c ∈ s.data.toList, blankB c = true := by
  have hsk := skip_le s 0 (Nat.zero_le _)
  refine blank_all (Classical.byContradiction fun ha => ?_)
  rw [nextF_at] at h
  unfold nextAt at h
  rw [if_neg ha] at h
  split at h
  · cases h
  · split at h
    · cases h
    · split at h
      · cases h
      · exact absurd h (sign_ok (by omega) signsL signs_fine).2.2.1
theorem ends_at (pre : ByteArray) (bash : Bool) : (nextF (pre ++ (s ++ parenR)) bash (s.size + pre.size + 1)).kind = 0 := by
  rw [← big_size]
  exact next_end _ _
theorem one_ahead {l : List UInt8} {pre : ByteArray} (h : pre.data.toList = l) : ∀ r : ByteArray, ((pre ++ r).extract 0 (pre ++ r).size).data.toList = l ++ r.data.toList := by
  intro r
  rw [tail_eq, List.drop_zero, app_list, h]
theorem parseS_le {t : ByteArray} {bash : Bool} (h : t.size ≤ 16384) : parseS t bash = parseTop (nextF t bash) litV t.size := if_neg (by omega)
/-- In parentheses. -/
theorem paren_same (bash : Bool) (he : (parseS s bash).2.2 = 0) (hs : s.size + 2 ≤ 16384) :
    ((parseS (sL ++ (s ++ parenR)) bash).2.2 = 0 → (parseS (sL ++ (s ++ parenR)) bash).1 = (parseS s bash).1) ∧ ((parseS (sL ++ (s ++ parenR)) bash).2.2 ≠ 0 → (∀ c ∈ s.data.toList, blankB c = true) ∨ (parseS (sL ++ (s ++ parenR)) bash).2.2 = 42) := by
  have hx := next_nx s bash (by omega)
  have hs1 := cl_n sL bash (show s.size ≤ 16384 by omega)
  have hend := ends_at (s := s) sL bash
  have hsz := big_size (s := s) sL
  have h0 : nextF (sL ++ (s ++ parenR)) bash 0 = ⟨3, sL, 0, 1⟩ := next_paren (one_ahead (l := [40]) rfl _) (by rw [hsz]; omega) bash
  rw [parseS_le (show s.size ≤ 16384 by omega)] at he ⊢
  rw [parseS_le (show (sL ++ (s ++ parenR)).size ≤ 16384 by rw [hsz]; show s.size + 1 + 1 ≤ 16384; omega)]
  generalize nextF (sL ++ (s ++ parenR)) bash = nx' at *
  rw [hsz]
  have hk0 : (nx' 0).kind ≠ 0 := by rw [h0]; exact (by decide : (3 : Nat) ≠ 0)
  have hun : tookF nx' unaryL ⟨3, sL, 0, 1⟩ = none := by unfold tookF; rw [if_neg (fun h => absurd h.2 (by decide : ¬ inL unaryL sL = true))]
  by_cases hz : (nextF s bash 0).kind = 0
  · obtain ⟨a, ha⟩ := post_none (lit := litV) (k := 20 * s.size + 106) (d := 1) hs1 (t0 := ⟨3, sL, 0, 1⟩) rfl rfl rfl hz (by decide)
    have h1 : parse nx' litV (20 * s.size + 125) .unary 0 ⟨3, sL, 0, 1⟩ = .fault a 33 := by rw [up_unary (by decide) hun]; exact ha
    have h2 : parse nx' litV (20 * s.size + 140) .comma 0 (nx' 0) = .fault a 33 := by
      rw [h0]
      show parse nx' litV (20 * s.size + 125 + 15) .comma 0 _ = _
      rw [up_comma (by rw [h1]; exact .inr ⟨_, _, rfl⟩)]
      exact h1
    have h3 := top_fault (L := s.size + sL.size + 1) hk0 (show 20 * s.size + 140 = 20 * (s.size + 1 + 1) + 100 by omega) h2
    rw [h3]
    exact ⟨fun h => absurd h (by decide), fun _ => .inl (end_blank bash hz)⟩
  · obtain ⟨t, ht, htz, hd⟩ := top_ok (lit := litV) hx hz he
    rcases post_paren (lit := litV) (k := 20 * s.size + 123) (d := 1) hx hs1 (t0 := ⟨3, sL, 0, 1⟩) rfl rfl rfl hend (by omega) ht htz with ⟨tE, hE, hEz⟩ | ⟨a, hE⟩
    · have h1 : parse nx' litV (20 * s.size + 125) .unary 0 ⟨3, sL, 0, 1⟩ = .ok (parseTop (nextF s bash) litV s.size).1 tE := by rw [up_unary (by decide) hun]; exact hE
      have h2 : parse nx' litV (20 * s.size + 140) .comma 0 (nx' 0) = .ok (parseTop (nextF s bash) litV s.size).1 tE := by
        rw [h0]
        show parse nx' litV (20 * s.size + 125 + 15) .comma 0 _ = _
        rw [up_comma (by rw [h1]; exact .inl ⟨_, _, rfl, hEz⟩)]
        exact h1
      have h3 := top_read (L := s.size + sL.size + 1) hk0 (show 20 * s.size + 140 = 20 * (s.size + 1 + 1) + 100 by omega) h2 hEz
      rw [h3, if_neg hd]
      exact ⟨fun _ => rfl, fun h => absurd rfl h⟩
    · have h1 : parse nx' litV (20 * s.size + 125) .unary 0 ⟨3, sL, 0, 1⟩ = .fault a 42 := by rw [up_unary (by decide) hun]; exact hE
      have h2 : parse nx' litV (20 * s.size + 140) .comma 0 (nx' 0) = .fault a 42 := by
        rw [h0]
        show parse nx' litV (20 * s.size + 125 + 15) .comma 0 _ = _
        rw [up_comma (by rw [h1]; exact .inr ⟨_, _, rfl⟩)]
        exact h1
      have h3 := top_fault (L := s.size + sL.size + 1) hk0 (show 20 * s.size + 140 = 20 * (s.size + 1 + 1) + 100 by omega) h2
      rw [h3]
      exact ⟨fun h => absurd h (by decide), fun _ => .inr rfl⟩
/-- Behind !. -/
theorem bang_same (bash : Bool) (he : (parseS s bash).2.2 = 0) (hs : s.size + 3 ≤ 16384) :
    ((parseS (⟨#[33, 40]⟩ ++ (s ++ parenR)) bash).2.2 = 0 → (parseS (⟨#[33, 40]⟩ ++ (s ++ parenR)) bash).1 = un bangP (parseS s bash).1) ∧ ((parseS (⟨#[33, 40]⟩ ++ (s ++ parenR)) bash).2.2 ≠ 0 → (∀ c ∈ s.data.toList, blankB c = true) ∨ (parseS (⟨#[33, 40]⟩ ++ (s ++ parenR)) bash).2.2 = 42) := by
  have hx := next_nx s bash (by omega)
  have hs1 := cl_n ⟨#[33, 40]⟩ bash (show s.size ≤ 16384 by omega)
  have hend := ends_at (s := s) ⟨#[33, 40]⟩ bash
  have hsz := big_size (s := s) ⟨#[33, 40]⟩
  have hh := one_ahead (l := [33, 40]) (pre := ⟨#[33, 40]⟩) rfl (s ++ parenR)
  have h0 : nextF (⟨#[33, 40]⟩ ++ (s ++ parenR)) bash 0 = ⟨3, bangP, 0, 1⟩ := next_bang hh (by rw [hsz]; omega) bash
  have h01 : nextF (⟨#[33, 40]⟩ ++ (s ++ parenR)) bash 1 = ⟨3, sL, 1, 2⟩ := next_paren (l := (s ++ parenR).data.toList) (by
    rw [tail_eq]
    rw [tail_eq, List.drop_zero] at hh
    rw [hh]
    rfl) (by rw [hsz]; show 1 < s.size + 2 + 1; omega) bash
  rw [parseS_le (show s.size ≤ 16384 by omega)] at he ⊢
  rw [parseS_le (show (⟨#[33, 40]⟩ ++ (s ++ parenR) : ByteArray).size ≤ 16384 by rw [hsz]; show s.size + 2 + 1 ≤ 16384; omega)]
  generalize nextF (⟨#[33, 40]⟩ ++ (s ++ parenR)) bash = nx' at *
  rw [hsz]
  have hk0 : (nx' 0).kind ≠ 0 := by rw [h0]; exact (by decide : (3 : Nat) ≠ 0)
  have hun : tookF nx' unaryL ⟨3, sL, 1, 2⟩ = none := by unfold tookF; rw [if_neg (fun h => absurd h.2 (by decide : ¬ inL unaryL sL = true))]
  have hbg : tookF nx' unaryL ⟨3, bangP, 0, 1⟩ = some (bangP, ⟨3, sL, 1, 2⟩) := by
    unfold tookF
    rw [if_pos ⟨rfl, (by decide : inL unaryL bangP = true)⟩]
    show some (bangP, nx' 1) = _
    rw [h01]
  have hu : ∀ k, parse nx' litV (k + 1) .unary 0 ⟨3, bangP, 0, 1⟩ = (parse nx' litV k .unary 1 ⟨3, sL, 1, 2⟩).bind fun x t => .ok (un bangP x) t := by
    intro k
    rw [parse]
    unfold deeperF
    rw [if_neg (by decide)]
    show tookD nx' unaryL _ _ _ = _
    rw [tookD_yes hbg, if_neg (by decide), if_neg (by decide), if_neg (by decide)]
  by_cases hz : (nextF s bash 0).kind = 0
  · obtain ⟨a, ha⟩ := post_none (lit := litV) (k := 20 * s.size + 125) (d := 2) hs1 (t0 := ⟨3, sL, 1, 2⟩) rfl rfl rfl hz (by decide)
    have h1 : parse nx' litV (20 * s.size + 144) .unary 1 ⟨3, sL, 1, 2⟩ = .fault a 33 := by rw [up_unary (by decide) hun]; exact ha
    have h1b : parse nx' litV (20 * s.size + 145) .unary 0 ⟨3, bangP, 0, 1⟩ = .fault a 33 := by rw [hu, h1]; rfl
    have h2 : parse nx' litV (20 * s.size + 160) .comma 0 (nx' 0) = .fault a 33 := by
      rw [h0]
      show parse nx' litV (20 * s.size + 145 + 15) .comma 0 _ = _
      rw [up_comma (by rw [h1b]; exact .inr ⟨_, _, rfl⟩)]
      exact h1b
    have h3 := top_fault (L := s.size + (⟨#[33, 40]⟩ : ByteArray).size + 1) hk0 (show 20 * s.size + 160 = 20 * (s.size + 2 + 1) + 100 by omega) h2
    rw [h3]
    exact ⟨fun h => absurd h (by decide), fun _ => .inl (end_blank bash hz)⟩
  · obtain ⟨t, ht, htz, hd⟩ := top_ok (lit := litV) hx hz he
    rcases post_paren (lit := litV) (k := 20 * s.size + 142) (d := 2) hx hs1 (t0 := ⟨3, sL, 1, 2⟩) rfl rfl rfl hend (by omega) ht htz with ⟨tE, hE, hEz⟩ | ⟨a, hE⟩
    · have h1 : parse nx' litV (20 * s.size + 144) .unary 1 ⟨3, sL, 1, 2⟩ = .ok (parseTop (nextF s bash) litV s.size).1 tE := by rw [up_unary (by decide) hun]; exact hE
      have h1b : parse nx' litV (20 * s.size + 145) .unary 0 ⟨3, bangP, 0, 1⟩ = .ok (un bangP (parseTop (nextF s bash) litV s.size).1) tE := by rw [hu, h1]; rfl
      have h2 : parse nx' litV (20 * s.size + 160) .comma 0 (nx' 0) = .ok (un bangP (parseTop (nextF s bash) litV s.size).1) tE := by
        rw [h0]
        show parse nx' litV (20 * s.size + 145 + 15) .comma 0 _ = _
        rw [up_comma (by rw [h1b]; exact .inl ⟨_, _, rfl, hEz⟩)]
        exact h1b
      have h3 := top_read (L := s.size + (⟨#[33, 40]⟩ : ByteArray).size + 1) hk0 (show 20 * s.size + 160 = 20 * (s.size + 2 + 1) + 100 by omega) h2 hEz
      rw [h3]
      by_cases hdd : 60 < deepF 1000 (un bangP (parseTop (nextF s bash) litV s.size).1)
      · rw [if_pos hdd]
        exact ⟨fun h => absurd (show (42 : Nat) = 0 from h) (by decide), fun _ => .inr rfl⟩
      · rw [if_neg hdd]
        exact ⟨fun _ => rfl, fun h => absurd rfl h⟩
    · have h1 : parse nx' litV (20 * s.size + 144) .unary 1 ⟨3, sL, 1, 2⟩ = .fault a 42 := by rw [up_unary (by decide) hun]; exact hE
      have h1b : parse nx' litV (20 * s.size + 145) .unary 0 ⟨3, bangP, 0, 1⟩ = .fault a 42 := by rw [hu, h1]; rfl
      have h2 : parse nx' litV (20 * s.size + 160) .comma 0 (nx' 0) = .fault a 42 := by
        rw [h0]
        show parse nx' litV (20 * s.size + 145 + 15) .comma 0 _ = _
        rw [up_comma (by rw [h1b]; exact .inr ⟨_, _, rfl⟩)]
        exact h1b
      have h3 := top_fault (L := s.size + (⟨#[33, 40]⟩ : ByteArray).size + 1) hk0 (show 20 * s.size + 160 = 20 * (s.size + 2 + 1) + 100 by omega) h2
      rw [h3]
      exact ⟨fun h => absurd h (by decide), fun _ => .inr rfl⟩
end
end Go.Proofs.YtlbgnpllbogkeaaDoor.Ext
