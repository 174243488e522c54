/- Proved: what vars.Text and the page's Text of any name tell, in one word. Plain Lean: no program's step. Conditions: a store that may be; names of at most 2 to the 20 octets. -/
import Derived.Test.YteoimkgjngdkdaaDoorVcVarsPage
set_option linter.unusedVariables false
set_option linter.unusedSimpArgs false
namespace Go.Proofs.YteoimkgjngdkdaaDoor.PureB
open Go.RowKit Go.Proofs.YteoimkgjngdkdaaDoor.P Go.Proofs.YteoimkgjngdkdaaDoor.Ext Go.Proofs.YteoimkgjngdkdaaDoorW.PrintWords Go.Proofs.YteoimkgjngdkdaaDoor.PureL
def isD (c : UInt8) : Prop := 48 ≤ c.toNat ∧ c.toNat ≤ 57
theorem digitB_all : ∀ c : Fin 256, digitB c = true → 48 ≤ (c : Nat) ∧ (c : Nat) ≤ 57 := by decide +kernel
theorem digitB_isD (c : UInt8) (h : digitB c.toNat = true) : isD c := digitB_all ⟨c.toNat, c.toNat_lt⟩ h
def valD : List UInt8 → Nat → Nat
  | [], n => n
  | c :: l, n => valD l (n * 10 + (c.toNat - 48))
theorem valD_le : ∀ (l : List UInt8) (n : Nat), n ≤ valD l n
  | [], n => Nat.le_refl _
  | c :: l, n => Nat.le_trans (by omega) (valD_le l _)
theorem digits_val : ∀ (l : List UInt8) (n a : Nat), (∀ c ∈ l, isD c) → n < 10 ^ a → a + l.length ≤ 18 → digitsGo 10 l (n : Int) = some ((valD l n : Nat) : Int) ∧ valD l n < 10 ^ (a + l.length)
  | [], n, a, _, hn, _ => ⟨rfl, hn⟩
  | c :: l, n, a, hc, hn, ha => by
    have h1 := hc c List.mem_cons_self
    unfold isD at h1
    rw [List.length_cons] at ha ⊢
    have hp : n * 10 + (c.toNat - 48) < 10 ^ (a + 1) := by rw [Nat.pow_succ]; omega
    have hb : (10 : Nat) ^ (a + 1) ≤ 10 ^ 18 := Nat.pow_le_pow_right (by decide) (by omega)
    have hb2 : (10 : Nat) ^ 18 = 1000000000000000000 := by decide
    obtain ⟨h2, h3⟩ := digits_val l (n * 10 + (c.toNat - 48)) (a + 1) (fun x hx => hc x (List.mem_cons_of_mem _ hx)) hp (by omega)
    have hd := PureN.dig10_nat c.toNat c.toNat_lt
    rw [if_pos h1] at hd
    refine ⟨?_, by rw [show a + (l.length + 1) = a + 1 + l.length by omega]; exact h3⟩
    rw [digitsGo, hd, if_neg (by omega), show IntKind.u64.wrap (IntKind.u64.wrap ((n : Int) * 10) + ((c.toNat : Int) - 48)) = ((n * 10 + (c.toNat - 48) : Nat) : Int) from by rw [IntKind.wrap_u64, IntKind.wrap_u64]; omega, h2]
    rfl
theorem digits_zero : ∀ (zs l : List UInt8), (∀ c ∈ zs, c = 48) → digitsGo 10 (zs ++ l) 0 = digitsGo 10 l 0
  | [], l, _ => rfl
  | c :: zs, l, h => by
    obtain rfl := h c List.mem_cons_self
    have hd : digitOf 10 (((48 : UInt8).toNat : Nat) : Int) = 0 := by decide +kernel
    rw [List.cons_append, digitsGo, hd, if_neg (by decide), show IntKind.u64.wrap (IntKind.u64.wrap ((0 : Int) * 10) + 0) = 0 from by decide]
    exact digits_zero zs l (fun x hx => h x (List.mem_cons_of_mem _ hx))
theorem dropWhile_no (p : UInt8 → Bool) : ∀ l : List UInt8, (∀ c ∈ l, p c = false) → l.dropWhile p = l
  | [], _ => rfl
  | c :: l, h => by rw [List.dropWhile_cons, if_neg (by rw [h c List.mem_cons_self]; decide)]
theorem isD_blank (c : UInt8) (h : isD c) : ([32, 9] : List UInt8).contains c = false := by
  unfold isD at h
  cases e : ([32, 9] : List UInt8).contains c with
  | false => rfl
  | true =>
    rcases (PureN.cs_has c).1 e with rfl | rfl
    · exact absurd h.1 (by decide)
    · exact absurd h.1 (by decide)
theorem trim_digits (l : List UInt8) (h : ∀ c ∈ l, isD c) : Lib.trimS l [32, 9] = l := by
  unfold Lib.trimS Lib.trimLeftS Lib.trimRightS
  rw [dropWhile_no _ l.reverse (fun c hc => isD_blank c (h c (List.mem_reverse.1 hc))), List.reverse_reverse]
  exact dropWhile_no _ l (fun c hc => isD_blank c (h c hc))
theorem sign_digits (l : List UInt8) (h : ∀ c ∈ l, isD c) : signL l = (l, false) := by
  cases l with
  | nil => rfl
  | cons c l =>
    have := h c List.mem_cons_self
    unfold isD at this
    unfold signL
    dsimp only
    rw [if_neg (fun e => by rw [e] at this; exact absurd this.1 (by decide)), if_neg (fun e => by rw [e] at this; exact absurd this.1 (by decide))]
theorem parse_digits (l : List UInt8) (h : ∀ c ∈ l, isD c) (hne : l ≠ []) (m : Nat) (hm : m ≤ 1000000) (hd : digitsGo 10 l 0 = some (m : Int)) : parseL l = ((m : Int), 0) := by
  unfold parseL
  dsimp only
  rw [trim_digits l h, sign_digits l h]
  dsimp only
  rw [hd]
  dsimp only
  rw [if_neg hne, if_neg (by decide), show wrap64 ((m : Nat) : Int) = (m : Int) from by unfold wrap64; omega]
/-- A name's digits without the zeros ahead of them. -/
def noz (l : List UInt8) : List UInt8 := l.dropWhile (· == 48)
def argP (rs : List ByteArray) (l : List UInt8) : ByteArray × Bool :=
  if noz l = [] then (⟨#[115, 104]⟩, true) else if 5 < (noz l).length then (⟨#[]⟩, false) else if rs.length < valD (noz l) 0 then (⟨#[]⟩, false) else (rs.getD (valD (noz l) 0 - 1) ByteArray.empty, true)
theorem noz_mem {l : List UInt8} {c : UInt8} (h : c ∈ noz l) : c ∈ l := (List.dropWhile_sublist (p := (· == 48)) (l := l)).subset h
theorem noz_first (l : List UInt8) : ∀ (c : UInt8) (r : List UInt8), noz l = c :: r → c ≠ 48 := by
  induction l with
  | nil => intro c r h; simp [noz] at h
  | cons x l ih =>
    intro c r h
    unfold noz at h
    rw [List.dropWhile_cons] at h
    split at h
    · exact ih c r h
    · rename_i hx
      obtain ⟨rfl, _⟩ := List.cons.inj h
      intro e
      exact hx (by rw [e]; rfl)
theorem noz_val (l : List UInt8) (h : ∀ c ∈ l, isD c) (hne : noz l ≠ []) (h5 : (noz l).length ≤ 5) : digitsGo 10 (noz l) 0 = some ((valD (noz l) 0 : Nat) : Int) ∧ 1 ≤ valD (noz l) 0 ∧ valD (noz l) 0 < 100000 := by
  have hd := digits_val (noz l) 0 0 (fun c hc => h c (noz_mem hc)) (by decide) (by omega)
  refine ⟨hd.1, ?_, Nat.lt_of_lt_of_le hd.2 (Nat.le_trans (Nat.pow_le_pow_right (by decide) (show 0 + (noz l).length ≤ 5 by omega)) (by decide))⟩
  cases e : noz l with
  | nil => exact absurd e hne
  | cons c r =>
    have h1 := noz_first l c r e
    have h2 := h c (noz_mem (by rw [e]; exact List.mem_cons_self))
    unfold isD at h2
    have h3 : c.toNat ≠ 48 := fun e2 => h1 (UInt8.toNat_inj.1 e2)
    unfold valD
    exact Nat.le_trans (by omega) (valD_le r _)
theorem take_48 : ∀ (l : List UInt8) (c : UInt8), c ∈ l.takeWhile (· == (48 : UInt8)) → c = 48
  | [], c, h => by simp at h
  | x :: l, c, h => by
    rw [List.takeWhile_cons] at h
    split at h
    · rename_i hx
      rcases List.mem_cons.1 h with rfl | h
      · simpa using hx
      · exact take_48 l c h
    · cases h
theorem noz_last (l : List UInt8) (h5 : (noz l).length ≤ 5) : ∃ zs : List UInt8, (∀ c ∈ zs, c = 48) ∧ l.drop (l.length - 5) = zs ++ noz l := by
  have hap := List.takeWhile_append_dropWhile (p := (· == (48 : UInt8))) (l := l)
  have hz : ∀ c ∈ l.takeWhile (· == (48 : UInt8)), c = 48 := fun c hc => take_48 l c hc
  have hlen : (l.takeWhile (· == (48 : UInt8))).length + (noz l).length = l.length := by
    have := congrArg List.length hap
    rw [List.length_append] at this
    exact this
  refine ⟨(l.takeWhile (· == (48 : UInt8))).drop (l.length - 5), fun c hc => hz c (List.mem_of_mem_drop hc), ?_⟩
  conv => lhs; arg 2; rw [← hap]
  rw [List.drop_append, show l.length - 5 - (l.takeWhile (· == (48 : UInt8))).length = 0 by omega, List.drop_zero]
  rfl
theorem drop_all (l : List UInt8) : (l.dropWhile (· == (48 : UInt8)) = []) ↔ ∀ c ∈ l, c = 48 := by
  induction l with
  | nil => simp
  | cons c l ih =>
    rw [List.dropWhile_cons]
    by_cases h : c = 48
    · subst h
      rw [if_pos (by decide), ih]
      simp
    · rw [if_neg (by simpa using h)]
      simp [h]
theorem contains_48 : (fun x : UInt8 => ([48] : List UInt8).contains x) = (· == (48 : UInt8)) := by
  funext x
  rw [List.contains_cons, List.contains_nil, Bool.or_false]
theorem trim_zero_iff (l : List UInt8) : Lib.trimS l [48] = [] ↔ noz l = [] := by
  unfold Lib.trimS Lib.trimLeftS Lib.trimRightS noz
  rw [contains_48, drop_all, drop_all]
  constructor
  · intro h
    have : l.reverse.dropWhile (· == (48 : UInt8)) = [] := by
      cases e : l.reverse.dropWhile (· == (48 : UInt8)) with
      | nil => rfl
      | cons c r =>
        have h1 : noz l.reverse = c :: r := e
        have := h c (by rw [e]; simp)
        exact absurd this (noz_first _ _ _ h1)
    rw [drop_all] at this
    exact fun c hc => this c (List.mem_reverse.2 hc)
  · intro h c hc
    exact h c (List.mem_reverse.1 ((List.dropWhile_sublist (p := (· == (48 : UInt8)))).subset (List.mem_reverse.1 hc)))
theorem arg_prog (xs : List S53) (rs : List ByteArray) (st : Int) (s : ByteArray) (hr : rs.length ≤ 1024) (hs : s.size ≤ 1048576) (hd : ∀ c ∈ s.data.toList, isD c) : T.vars_Store_argument.f xs rs st s = some (argP rs s.data.toList) := by
  have hsl := ba_size s
  have hw : mx (wrap64 ((s.size : Int) - 5)) 0 = ((s.size - 5 : Nat) : Int) := by
    have : wrap64 ((s.size : Int) - 5) = (s.size : Int) - 5 := by unfold wrap64; omega
    rw [this]
    unfold mx
    split <;> omega
  unfold T.vars_Store_argument.f
  rw [hw, if_pos (by omega), if_pos (by omega), Int.toNat_natCast]
  have he : (s.extract (s.size - 5) s.size).data.toList = s.data.toList.drop (s.data.toList.length - 5) := by
    rw [← hsl]
    simp only [ByteArray.data_extract, Array.toList_extract, List.extract_eq_take_drop]
    rw [List.take_of_length_le (by rw [List.length_drop]; omega)]
  have hes : (s.extract (s.size - 5) s.size).size ≤ 9223372036854775807 := by rw [ba_size, he, List.length_drop]; omega
  rw [parse_spec _ hes, he, Option.bind_some]
  have htr : strings_Trim.f s (⟨#[48]⟩ : ByteArray) = some ⟨(Lib.trimS s.data.toList [48]).toArray⟩ := by
    unfold strings_Trim.f
    rw [if_pos ⟨by omega, by decide, by decide⟩]
  have htl : strings_TrimLeft.f s (⟨#[48]⟩ : ByteArray) = some ⟨(noz s.data.toList).toArray⟩ := by
    unfold strings_TrimLeft.f
    rw [if_pos ⟨by decide, by decide⟩]
    rfl
  rw [htr, Option.bind_some, htl, Lib.toList_data]
  unfold argP
  show (if Lib.trimS s.data.toList [48] = [] then _ else _) = _
  by_cases h0 : noz s.data.toList = []
  · rw [if_pos ((trim_zero_iff _).2 h0), if_pos h0]
  · rw [if_neg (fun e => h0 ((trim_zero_iff _).1 e)), if_neg h0, Option.bind_some]
    have hsz : (⟨(noz s.data.toList).toArray⟩ : ByteArray).size = (noz s.data.toList).length := by simp [ByteArray.size]
    rw [hsz]
    by_cases h5 : 5 < (noz s.data.toList).length
    · rw [if_pos (by omega), if_pos h5]
    · rw [if_neg (by omega), if_neg h5]
      obtain ⟨zs, hz, hl⟩ := noz_last s.data.toList (by omega)
      obtain ⟨hv, h1, h2⟩ := noz_val s.data.toList hd h0 (by omega)
      have hp : parseL (s.data.toList.drop (s.data.toList.length - 5)) = (((valD (noz s.data.toList) 0 : Nat) : Int), 0) := by
        refine parse_digits _ (fun c hc => hd c (List.mem_of_mem_drop hc)) (fun e => ?_) _ (by omega) (by rw [hl, digits_zero zs _ hz, hv])
        rw [hl] at e
        exact h0 (List.append_eq_nil_iff.1 e).2
      rw [hp]
      dsimp only
      generalize valD (noz s.data.toList) 0 = m at *
      by_cases h3 : rs.length < m
      · rw [if_pos (by omega), if_pos h3]
      · have hw2 : wrap64 ((m : Int) - 1) = ((m - 1 : Nat) : Int) := by unfold wrap64; omega
        rw [if_neg (by omega), if_neg h3, hw2, if_pos (by omega), if_pos (by omega)]
        unfold rdOf
        rw [Int.toNat_natCast]
theorem arg_j1 (xs : List S53) (rs : List ByteArray) (st : Int) (x : ByteArray) (l : List UInt8) (hr : rs.length ≤ 1024) (hx : x.size ≤ 1048576) (hxl : x.data.toList = noz l) (hd : ∀ c ∈ l, isD c) (K : Nat) (hK : 5000000 ≤ K) : T.cowrieref20_argument.j1 K x xs rs st = some (argP rs l) := by
  obtain ⟨K, rfl⟩ : ∃ k, K = k + 1 := ⟨K - 1, by omega⟩
  have hsl := ba_size x
  rw [T.cowrieref20_argument.j1, PureN.parse_ref x (by omega) K (by omega), Option.bind_some, Lib.toList_data, hsl, hxl]
  unfold argP
  by_cases h0 : noz l = []
  · rw [if_pos h0, if_pos h0]
  · rw [if_neg h0, if_neg h0]
    by_cases h5 : 5 < (noz l).length
    · rw [if_pos (by omega), if_pos h5]
    · rw [if_neg (by omega), if_neg h5]
      obtain ⟨hv, h1, h2⟩ := noz_val l hd h0 (by omega)
      have hp := parse_digits (noz l) (fun c hc => hd c (noz_mem hc)) h0 _ (by omega) hv
      rw [hp]
      dsimp only
      generalize valD (noz l) 0 = m at *
      by_cases h3 : rs.length < m
      · rw [if_pos (by omega), if_pos h3]
      · have hw2 : wrap64 ((m : Int) - 1) = ((m - 1 : Nat) : Int) := by unfold wrap64; omega
        rw [if_neg (by omega), if_neg h3, hw2, if_pos (by omega), if_pos (by omega)]
        unfold rdOf
        rw [Int.toNat_natCast]
theorem arg_l0 (xs : List S53) (rs : List ByteArray) (st : Int) (l : List UInt8) (hr : rs.length ≤ 1024) (hd : ∀ c ∈ l, isD c) : ∀ (n : Nat) (x : ByteArray) (K : Nat), x.size ≤ n → x.size ≤ 1048576 → noz x.data.toList = noz l → n + 5000001 ≤ K → T.cowrieref20_argument.l0 K x xs rs st = some (argP rs l)
  | 0, x, K, hx, hx2, hn, hK => by
    obtain ⟨K, rfl⟩ : ∃ k, K = k + 1 := ⟨K - 1, by omega⟩
    have h0 : x.data.toList = [] := List.eq_nil_of_length_eq_zero (by rw [← ba_size]; omega)
    rw [T.cowrieref20_argument.l0, if_neg (by omega)]
    exact arg_j1 xs rs st x l hr hx2 (by rw [← hn, h0]; rfl) hd K (by omega)
  | n + 1, x, K, hx, hx2, hn, hK => by
    obtain ⟨K, rfl⟩ : ∃ k, K = k + 1 := ⟨K - 1, by omega⟩
    cases e : x.data.toList with
    | nil =>
      have h0 : x.size = 0 := by rw [ba_size, e]; rfl
      rw [T.cowrieref20_argument.l0, if_neg (by omega)]
      exact arg_j1 xs rs st x l hr hx2 (by rw [← hn, e]; rfl) hd K (by omega)
    | cons c r =>
      have hxs : x.size = r.length + 1 := by rw [ba_size, e]; rfl
      have ht := PureN.tail_list x c r e
      have hts : (x.extract 1 x.size).size = r.length := by rw [ba_size, ht]
      have hb : bt x 0 = (c.toNat : Int) := by
        have hi : 0 < x.data.toList.length := by rw [e]; simp
        have := PureN.bt_list x 0 hi
        rw [show ((0 : Nat) : Int) = 0 from rfl] at this
        rw [this]
        simp [e]
      rw [T.cowrieref20_argument.l0, if_pos (by omega), if_pos (by omega), hb]
      by_cases hc : c = 48
      · subst hc
        rw [if_pos (by decide), if_pos (by omega)]
        refine arg_l0 xs rs st l hr hd n _ K (by omega) (by omega) ?_ (by omega)
        rw [ht, ← hn, e]
        unfold noz
        rw [List.dropWhile_cons, if_pos (by decide)]
      · rw [if_neg (fun e2 => hc (UInt8.toNat_inj.1 (by show c.toNat = 48; omega)))]
        refine arg_j1 xs rs st x l hr hx2 ?_ hd K (by omega)
        rw [← hn, e]
        unfold noz
        rw [List.dropWhile_cons, if_neg (by simpa using hc)]
theorem arg_page (xs : List S53) (rs : List ByteArray) (st : Int) (s : ByteArray) (hr : rs.length ≤ 1024) (hs : s.size ≤ 1048576) (hd : ∀ c ∈ s.data.toList, isD c) (K : Nat) (hK : 7000000 ≤ K) : T.cowrieref20_argument.f K xs rs st s = some (argP rs s.data.toList) :=
  arg_l0 xs rs st s.data.toList hr hd s.size s K (Nat.le_refl _) hs rfl (by omega)
def fnd (s : ByteArray) (xs : List S53) : Option S53 := xs.find? fun p => p.f0.toList == s.toList
theorem idx_fnd (s : ByteArray) : ∀ (l : List S53) (i : Nat), (idxV s l i = -1 ∧ fnd s l = none) ∨ ∃ k p, idxV s l i = ((i + k : Nat) : Int) ∧ l[k]? = some p ∧ fnd s l = some p
  | [], i => .inl ⟨rfl, rfl⟩
  | p :: l, i => by
    unfold idxV fnd
    rw [List.find?_cons]
    by_cases hp : (p.f0.toList == s.toList) = true
    · rw [if_pos hp, hp]
      exact .inr ⟨0, p, rfl, rfl, rfl⟩
    · rw [if_neg hp, Bool.eq_false_iff.2 hp]
      rcases idx_fnd s l (i + 1) with ⟨h1, h2⟩ | ⟨k, q, h1, h2, h3⟩
      · exact .inl ⟨h1, h2⟩
      · exact .inr ⟨k + 1, q, by rw [h1]; congr 1; omega, h2, h3⟩
def printB (n : Int) : ByteArray := ⟨(decsInt n).toArray⟩
def varP (p : S53) : ByteArray × Bool := if p.f2 = true then (p.f3.getD 0 ⟨#[]⟩, true) else (p.f1, true)
def spec (s : ByteArray) (rs : List ByteArray) (st : Int) (fo : Option S53) : ByteArray × Bool :=
  if s.toList = [35] then (printB rs.length, true) else if s.toList = [63] then (printB st, true) else if s.toList = [64] then (joinB rs ⟨#[32]⟩, true) else if s.toList = [42] then (joinB rs ⟨#[32]⟩, true)
  else if everyB digitB s = true then argP rs s.data.toList else match fo with | none => (⟨#[]⟩, false) | some p => if nameOk s = true then varP p else (⟨#[]⟩, false)
theorem every_isD {s : ByteArray} (h : everyB digitB s = true) : ∀ c ∈ s.data.toList, isD c := by
  unfold everyB at h
  rw [Bool.and_eq_true, List.all_eq_true] at h
  exact fun c hc => digitB_isD c (h.2 c hc)
theorem join_len (rs : List ByteArray) (hl : rs.length ≤ 1024) (hs : ∀ x ∈ rs, x.size ≤ 65536) : (Lib.join (rs.map (·.data.toList)) [32]).length ≤ 67174401 := by
  have key : ∀ r : List ByteArray, (∀ x ∈ r, x.size ≤ 65536) → (Lib.joinTail [32] (r.map (·.data.toList))).length ≤ r.length * 65537 := by
    intro r
    induction r with
    | nil => intro _; simp [Lib.joinTail]
    | cons x r ih =>
      intro h
      have h1 := ih (fun y hy => h y (List.mem_cons_of_mem _ hy))
      have h2 := h x List.mem_cons_self
      rw [ba_size] at h2
      have e : Lib.joinTail [32] ((x :: r).map (·.data.toList)) = ([32] ++ x.data.toList) ++ Lib.joinTail [32] (r.map (·.data.toList)) := by simp [Lib.joinTail]
      rw [e, List.length_append, List.length_append, List.length_cons]
      have : (r.length + 1) * 65537 = r.length * 65537 + 65537 := by omega
      simp only [List.length_cons, List.length_nil] at *
      omega
  cases rs with
  | nil => simp [Lib.join_nil]
  | cons x r =>
    have h1 := key r (fun y hy => hs y (List.mem_cons_of_mem _ hy))
    have h2 := hs x List.mem_cons_self
    rw [ba_size] at h2
    rw [List.length_cons] at hl
    rw [List.map_cons, Lib.join_cons, List.length_append]
    omega
theorem join_prog (rs : List ByteArray) (hl : rs.length ≤ 1024) (hs : ∀ x ∈ rs, x.size ≤ 65536) : strings_Join.f rs ⟨#[32]⟩ = some (joinB rs ⟨#[32]⟩) := by
  have := join_len rs hl hs
  unfold strings_Join.f joinB
  rw [if_pos ⟨by omega, by show (Lib.join _ [32]).length ≤ _; omega⟩]
theorem join_first (l : List ByteArray) (hs : ∀ x ∈ l, x.size ≤ 65536) : strings_Join.f (l.take 1) ⟨#[]⟩ = some (l.getD 0 ⟨#[]⟩) := by
  unfold strings_Join.f
  cases l with
  | nil => rfl
  | cons x r =>
    have h2 := hs x List.mem_cons_self
    rw [ba_size] at h2
    have e : Lib.join (((x :: r).take 1).map (·.data.toList)) (⟨#[]⟩ : ByteArray).data.toList = x.data.toList := by
      rw [List.take_succ_cons, List.take_zero, List.map_cons, List.map_nil, Lib.join_one]
    rw [e, if_pos ⟨by simp, by omega⟩]
    rfl
structure Good (xs : List S53) (rs : List ByteArray) (st : Int) : Prop where
  xl : xs.length ≤ 1048576
  rl : rs.length ≤ 1024
  rt : ∀ x ∈ rs, x.size ≤ 65536
  s0 : 0 ≤ st
  s1 : st ≤ 255
  vt : ∀ p ∈ xs, ∀ x ∈ p.f3, x.size ≤ 65536
theorem text_prog (xs : List S53) (rs : List ByteArray) (st : Int) (s : ByteArray) (G : Good xs rs st) (hs : s.size ≤ 1048576) (K : Nat) : T.vars_Text.f (K + 1) xs rs st s = some (spec s rs st (fnd s xs)) := by
  have hp : ∀ n : Int, -9223372036854775808 ≤ n → n ≤ 9223372036854775807 → number_Print.f n = some (printB n) := fun n h1 h2 => by
    unfold number_Print.f printB
    rw [if_pos ⟨h1, h2⟩]
  have h1 := G.rl
  have h2 := G.s0
  have h3 := G.s1
  have h4 := G.xl
  unfold T.vars_Text.f spec
  split
  · rw [hp _ (by omega) (by omega), Option.bind_some]
  · split
    · rw [hp _ (by omega) (by omega), Option.bind_some]
    · split
      · rw [join_prog rs G.rl G.rt, Option.bind_some]
      · split
        · rw [join_prog rs G.rl G.rt, Option.bind_some]
        · unfold octets_Digits.f
          rw [if_pos (by omega), Option.bind_some]
          by_cases hd : everyB digitB s = true
          · rw [if_pos hd, if_pos hd, arg_prog xs rs st s G.rl hs (every_isD hd), Option.bind_some]
          · rw [if_neg hd, if_neg hd]
            unfold vars_Store_find.f
            rw [if_pos (by omega), Option.bind_some, name_some s (by omega)]
            rcases idx_fnd s xs 0 with ⟨e1, e2⟩ | ⟨k, p, e1, e2, e3⟩
            · rw [e1, if_pos (by decide), e2, T.vars_Text.j0, if_pos rfl]
            · rw [Nat.zero_add] at e1
              rw [e1, if_neg (by omega), Option.bind_some, e3, T.vars_Text.j0]
              dsimp only
              obtain ⟨hk, e4⟩ := List.getElem?_eq_some_iff.1 e2
              cases hn : nameOk s
              · rw [if_pos (by rfl), if_neg Bool.false_ne_true]
              · rw [if_neg (by decide), if_pos (by omega), if_pos (by omega), rd_get hk, e4, if_pos rfl]
                unfold varP
                cases hb : p.f2
                · rw [if_neg Bool.false_ne_true, if_neg Bool.false_ne_true]
                · have hmn : mn ((p.f3.length : Nat) : Int) 1 = ((min p.f3.length 1 : Nat) : Int) := by
                    unfold mn
                    split <;> omega
                  have htk : p.f3.take (min p.f3.length 1) = p.f3.take 1 := by
                    rw [List.take_eq_take_iff]
                    omega
                  rw [if_pos rfl, if_pos rfl, hmn, if_pos (by omega), if_pos (by omega), Int.toNat_natCast, htk, join_first _ (G.vt p (List.mem_of_getElem? e2)), Option.bind_some]
theorem text_page (xs : List S53) (rs : List ByteArray) (st : Int) (s : ByteArray) (G : Good xs rs st) (hs : s.size ≤ 1048576) (K : Nat) (hK : 8000000 ≤ K) : T.cowrieref20_Text.f K xs rs st s = some (spec s rs st (fnd s xs)) := by
  have hp : ∀ n : Int, -9223372036854775808 ≤ n → n ≤ 9223372036854775807 → T.cowrieref04_Print.f K n = some (printB n) := fun n h1 h2 => PureN.print_ref n ⟨h1, h2⟩ K (by omega)
  have h1 := G.rl
  have h2 := G.s0
  have h3 := G.s1
  have h4 := G.xl
  have hj : ∀ b : Bool, T.cowrieref20_Text.j0 K s (idxV s xs 0) b xs rs st = some (if b = true then (joinB rs ⟨#[32]⟩, true) else if everyB digitB s = true then argP rs s.data.toList else match fnd s xs with | none => (⟨#[]⟩, false) | some p => if nameOk s = true then varP p else (⟨#[]⟩, false)) := fun b => by
    obtain ⟨K, rfl⟩ : ∃ k, K = k + 1 + 1 + 1 := ⟨K - 3, by omega⟩
    rw [T.cowrieref20_Text.j0]
    cases b
    · rw [if_neg Bool.false_ne_true, if_neg Bool.false_ne_true, digits_ref s hs _ (by omega), Option.bind_some]
      by_cases hd : everyB digitB s = true
      · rw [if_pos hd, if_pos hd, arg_page xs rs st s G.rl hs (every_isD hd) _ (by omega), Option.bind_some]
      · rw [if_neg hd, if_neg hd, name_ref s hs _ (by omega)]
        rcases idx_fnd s xs 0 with ⟨e1, e2⟩ | ⟨k, p, e1, e2, e3⟩
        · rw [e1, if_pos (by decide), e2, T.cowrieref20_Text.j1, if_pos rfl]
        · rw [Nat.zero_add] at e1
          rw [e1, if_neg (by omega), Option.bind_some, e3, T.cowrieref20_Text.j1]
          dsimp only
          obtain ⟨hk, e4⟩ := List.getElem?_eq_some_iff.1 e2
          cases hn : nameOk s
          · rw [if_pos (by rfl), if_neg Bool.false_ne_true]
          · rw [if_neg (by decide), if_pos (by omega), if_pos (by omega), rd_get hk, e4, if_pos rfl, T.cowrieref20_Text.j2, T.cowrieref20_Text.j2, rd_get hk, e4]
            unfold varP
            cases hb : p.f2
            · rw [if_neg Bool.false_ne_true, if_neg Bool.false_ne_true, if_pos (by omega), if_pos (by omega), if_neg Bool.false_ne_true, if_neg Bool.false_ne_true]
            · rw [if_pos rfl, if_pos rfl]
              cases hf : p.f3 with
              | nil => rw [if_neg (by simp), if_pos (by omega), if_pos (by omega), if_pos rfl]; rfl
              | cons x r =>
                rw [if_pos (by rw [List.length_cons]; exact decide_eq_true (by omega)), if_pos (by omega), if_pos (by omega), if_pos (by rw [List.length_cons]; omega)]
                rfl
    · rw [if_pos rfl, if_pos rfl, joined_ref rs G.rl G.rt _ (by omega), Option.bind_some]
  unfold T.cowrieref20_Text.f spec
  rw [find_ref s xs rs st G.xl K (by omega), Option.bind_some]
  split
  · rw [hp _ (by omega) (by omega), Option.bind_some]
  · split
    · rw [hp _ (by omega) (by omega), Option.bind_some]
    · split
      · rw [hj, if_pos rfl]
      · rw [hj]
        by_cases h42 : s.toList = [42]
        · rw [if_pos (by rw [h42]; rfl), if_pos h42]
        · rw [if_neg (fun e => h42 (beq_iff_eq.1 e)), if_neg h42]
end Go.Proofs.YteoimkgjngdkdaaDoor.PureB
