/- Proved: what a format does once, and how many words it takes: the document's way and the program's are one. Plain Lean: no program's step. -/
import Derived.Test.YtagdkbncfcdhdaaDoorVR2
import Derived.Test.YtagdkbncfcdhdaaDoorVR1
import Derived.Test.YtagdkbncfcdhdaaDoorVPureToldR
set_option linter.unusedVariables false
namespace Go.Proofs.YtagdkbncfcdhdaaDoor.PureT
open Go.RowKit Go.Proofs.YtagdkbncfcdhdaaDoor.Ext Go.Proofs.YtagdkbncfcdhdaaDoorW.PrintWords
def L6 : ByteArray := ⟨#[115, 98, 100, 99, 120, 111]⟩
def isL (l : Int) : Prop := l = 115 ∨ l = 98 ∨ l = 99 ∨ l = 100 ∨ l = 120 ∨ l = 111
/-- What a conversion may be. -/
def CP (y : ByteArray) (R : Int × Int × Int × Int × Bool) : Prop :=
  R = (0, 0, 0, 0, false) ∨ (R = (37, 0, 0, 1, true) ∧ 1 ≤ y.size) ∨ ∃ (l fl : Int) (wd n : Nat), R = (l, fl, (wd : Int), (n : Int), true) ∧ isL l ∧ (fl = 0 ∨ fl = 45 ∨ fl = 48) ∧ wd ≤ 999 ∧ 1 ≤ n ∧ n ≤ y.size
theorem idx_letter : ∀ c : Fin 256, strings_IndexByte.f L6 ((c : Nat) : Int) = some (if (c : Nat) = 115 then 0 else if (c : Nat) = 98 then 1 else if (c : Nat) = 100 then 2 else if (c : Nat) = 99 then 3 else if (c : Nat) = 120 then 4 else if (c : Nat) = 111 then 5 else -1) := by decide +kernel
theorem tail_prop (y : ByteArray) (n wd : Nat) (fl : Int) (hy : y.size ≤ 1000000000) (hn : n ≤ y.size) (hf : fl = 0 ∨ fl = 45 ∨ fl = 48) (hw : wd ≤ 999) : ∃ R, convTail y n fl wd = some R ∧ CP y R := by
  unfold convTail
  by_cases he : (n : Int) = (y.size : Int)
  · rw [if_pos he]
    exact ⟨_, rfl, .inl rfl⟩
  · rw [if_neg he]
    have hr := bt_range y n
    obtain ⟨c, hc⟩ := Int.eq_ofNat_of_zero_le hr.1
    have hc256 : c < 256 := by omega
    have hid := idx_letter ⟨c, hc256⟩
    rw [hc, show strings_IndexByte.f (⟨#[115, 98, 100, 99, 120, 111]⟩ : ByteArray) ((c : Nat) : Int) = _ from hid, Option.bind_some]
    clear hid
    have hl : ∀ v : Int, ((c : Nat) = 115 ∨ c = 98 ∨ c = 99 ∨ c = 100 ∨ c = 120 ∨ c = 111) → CP y (((c : Nat) : Int), fl, (wd : Int), wrap64 ((n : Int) + 1), true) := by
      intro v hv
      refine .inr (.inr ⟨((c : Nat) : Int), fl, wd, n + 1, ?_, ?_, hf, hw, by omega, by omega⟩)
      · rw [wr n (by omega)]
      · unfold isL
        omega
    show ∃ R, (if (if c = 115 then (0 : Int) else if c = 98 then 1 else if c = 100 then 2 else if c = 99 then 3 else if c = 120 then 4 else if c = 111 then 5 else -1) < 0 then _ else _) = some R ∧ _
    by_cases a1 : c = 115
    · rw [if_pos a1, if_neg (by decide)]
      exact ⟨_, rfl, hl 0 (.inl a1)⟩
    by_cases a2 : c = 98
    · rw [if_neg a1, if_pos a2, if_neg (by decide)]
      exact ⟨_, rfl, hl 0 (.inr (.inl a2))⟩
    by_cases a3 : c = 100
    · rw [if_neg a1, if_neg a2, if_pos a3, if_neg (by decide)]
      exact ⟨_, rfl, hl 0 (by omega)⟩
    by_cases a4 : c = 99
    · rw [if_neg a1, if_neg a2, if_neg a3, if_pos a4, if_neg (by decide)]
      exact ⟨_, rfl, hl 0 (by omega)⟩
    by_cases a5 : c = 120
    · rw [if_neg a1, if_neg a2, if_neg a3, if_neg a4, if_pos a5, if_neg (by decide)]
      exact ⟨_, rfl, hl 0 (by omega)⟩
    by_cases a6 : c = 111
    · rw [if_neg a1, if_neg a2, if_neg a3, if_neg a4, if_neg a5, if_pos a6, if_neg (by decide)]
      exact ⟨_, rfl, hl 0 (by omega)⟩
    rw [if_neg a1, if_neg a2, if_neg a3, if_neg a4, if_neg a5, if_neg a6, if_pos (by decide)]
    exact ⟨_, rfl, .inl rfl⟩
theorem q_exit_eq (kq : Nat) (y : ByteArray) (n k : Nat) (fl wd : Int) (hn : n ≤ y.size) (h : ¬ ((k : Int) < 3 ∧ (n : Int) < (y.size : Int) ∧ 48 ≤ bt y n ∧ bt y n ≤ 57)) : Q.printf_conversion.l0 (kq + 1) y n k 0 fl wd = convTail y n fl wd := by
  rw [Q.printf_conversion.l0]
  unfold convTail
  have h0 : (0 : Int) ≤ (n : Int) := Int.natCast_nonneg _
  by_cases h3 : (k : Int) < 3
  · rw [if_pos h3]
    by_cases hs : (n : Int) < (y.size : Int)
    · rw [if_pos hs, if_pos h0]
      by_cases h48 : bt y n ≥ 48
      · rw [if_pos h48]
        by_cases h57 : bt y n ≤ 57
        · exact absurd ⟨h3, hs, h48, h57⟩ h
        · rw [if_neg h57]
      · rw [if_neg h48]
    · rw [if_neg hs]
      have he : (n : Int) = (y.size : Int) := by omega
      rw [if_pos he, if_pos he]
  · rw [if_neg h3]
    by_cases he : (n : Int) = (y.size : Int)
    · rw [if_pos he, if_pos he]
    · rw [if_neg he, if_pos h0, if_pos (by omega), if_neg he]
theorem wd8 (wd c : Nat) (h : wd ≤ 100) (hc : c < 10) : wrap64 ((wrap64 (10 * (wd : Int))) + ((((48 + c : Nat) : Int) - 48) % 256)) = ((10 * wd + c : Nat) : Int) := by unfold wrap64; omega
theorem l0_prop (y : ByteArray) (fl : Int) (hy : y.size ≤ 1000000000) (hf : fl = 0 ∨ fl = 45 ∨ fl = 48) : ∀ (d k n wd : Nat), d + k = 3 → n ≤ y.size → wd < 10 ^ k → ∀ m, d + 1 ≤ m → ∃ R, Q.printf_conversion.l0 m y n k 0 fl wd = some R ∧ CP y R := by
  intro d
  induction d with
  | zero =>
    intro k n wd hk hn hw m hm
    obtain ⟨m, rfl⟩ : ∃ j, m = j + 1 := ⟨m - 1, by omega⟩
    obtain rfl : k = 3 := by omega
    rw [q_exit_eq m y n 3 fl wd hn (fun h => absurd h.1 (by decide))]
    have : wd < 1000 := hw
    exact tail_prop y n wd fl hy hn hf (by omega)
  | succ d ih =>
    intro k n wd hk hn hw m hm
    obtain ⟨m, rfl⟩ : ∃ j, m = j + 1 := ⟨m - 1, by omega⟩
    have hp : (10 : Nat) ^ k ≤ 10 ^ 2 := Nat.pow_le_pow_right (by decide) (by omega)
    have hw2 : wd < 100 := Nat.lt_of_lt_of_le hw hp
    by_cases hd : (k : Int) < 3 ∧ (n : Int) < (y.size : Int) ∧ 48 ≤ bt y n ∧ bt y n ≤ 57
    · obtain ⟨h1, h2, h3, h4⟩ := hd
      obtain ⟨c, hc⟩ : ∃ c : Nat, bt y n = ((48 + c : Nat) : Int) := ⟨(bt y n).toNat - 48, by omega⟩
      have hc10 : c < 10 := by omega
      have h0 : (0 : Int) ≤ (n : Int) := Int.natCast_nonneg _
      obtain ⟨R, hR, hC⟩ := ih (k + 1) (n + 1) (10 * wd + c) (by omega) (by omega) (by rw [Nat.pow_succ]; omega) m (by omega)
      refine ⟨R, ?_, hC⟩
      rw [Q.printf_conversion.l0, if_pos h1, if_pos h2, if_pos h0, if_pos h3, if_pos h4, hc, wd8 wd c (by omega) hc10, wr n (by omega), wr k (by omega)]
      exact hR
    · rw [q_exit_eq m y n k fl wd hn hd]
      exact tail_prop y n wd fl hy hn hf (by omega)
theorem conv_prop (y : ByteArray) (hy : y.size ≤ 1000000000) : ∃ R, Q.printf_conversion.f 20 y = some R ∧ CP y R := by
  unfold Q.printf_conversion.f
  have z3 : (0 : Nat) < 10 ^ 0 := by decide
  by_cases h0 : y.toList = ([] : List UInt8)
  · rw [if_pos h0, show (20 : Nat) = 19 + 1 from rfl, Q.printf_conversion.j0, if_neg (by decide), if_pos h0, show (19 : Nat) = 18 + 1 from rfl, Q.printf_conversion.j1, if_neg (by decide), show (18 : Nat) = 17 + 1 from rfl, Q.printf_conversion.j2]
    exact l0_prop y 0 hy (.inl rfl) 3 0 0 0 rfl (Nat.zero_le _) z3 17 (by decide)
  · have h1 : 1 ≤ y.size := by
      rcases Nat.eq_zero_or_pos y.size with h | h
      · exfalso
        apply h0
        rw [Lib.toList_data]
        exact List.eq_nil_of_length_eq_zero (by rw [← PurePf.ba_size]; exact h)
      · exact h
    have hp : (0 : Int) < (y.size : Int) := by omega
    rw [if_neg h0, if_pos hp, show (20 : Nat) = 19 + 1 from rfl, Q.printf_conversion.j0]
    by_cases c1 : bt y 0 = 37
    · rw [if_pos (beq_iff_eq.2 c1)]
      exact ⟨_, rfl, .inr (.inl ⟨rfl, h1⟩)⟩
    · rw [beq_eq_false_iff_ne.2 c1, if_neg (by decide), if_neg h0, if_pos hp]
      by_cases c2 : bt y 0 = 45
      · rw [if_pos c2, show (19 : Nat) = 18 + 1 from rfl, Q.printf_conversion.j1, if_pos rfl, if_pos hp, c2, show (18 : Nat) = 17 + 1 from rfl, Q.printf_conversion.j2]
        exact l0_prop y 45 hy (.inr (.inl rfl)) 3 0 1 0 rfl h1 z3 17 (by decide)
      · rw [if_neg c2]
        by_cases c3 : bt y 0 = 48
        · rw [beq_iff_eq.2 c3, show (19 : Nat) = 18 + 1 from rfl, Q.printf_conversion.j1, if_pos rfl, if_pos hp, c3, show (18 : Nat) = 17 + 1 from rfl, Q.printf_conversion.j2]
          exact l0_prop y 48 hy (.inr (.inr rfl)) 3 0 1 0 rfl h1 z3 17 (by decide)
        · rw [beq_eq_false_iff_ne.2 c3, show (19 : Nat) = 18 + 1 from rfl, Q.printf_conversion.j1, if_neg (by decide), show (18 : Nat) = 17 + 1 from rfl, Q.printf_conversion.j2]
          exact l0_prop y 0 hy (.inl rfl) 3 0 0 0 rfl (Nat.zero_le _) z3 17 (by decide)
def szs : List ByteArray → Nat
  | [] => 0
  | a :: l => a.size + szs l
def MB : Nat := 10000000
def KB : Nat := 50000000
/-- What a format does from a place on: t: its text; l': the words that are left; f: a number was none; c: how many words it took; ok: no fault. -/
def Does (x : ByteArray) (d i : Nat) (l : List ByteArray) (t : List UInt8) (l' : List ByteArray) (f : Bool) (c : Nat) (ok : Bool) : Prop :=
  t.length + szs l' ≤ d + 5000 * c + szs l ∧ c ≤ d ∧ (∀ a ∈ l', a.size ≤ MB) ∧ (l'.length + c = l.length ∨ l' = []) ∧ l'.length ≤ l.length ∧
  (∀ n, d + 1 ≤ n → ∀ (o : List UInt8) (st : Int) (tk : Nat), o.length + d + 5000 * c + szs l ≤ 900000000000 → tk + d ≤ 1000000000000000 → onceF 200 n (x.extract i x.size) ⟨o, l, st, tk⟩ = some (⟨o ++ t, l', if f = true then 1 else st, ((tk + c : Nat) : Int)⟩, ok)) ∧
  (∀ k, 2 * d + KB ≤ k → ∀ (out : ByteArray) (s : Int), (s = 0 ∨ s = 1) → out.size + d + 5000 * c + szs l ≤ 900000000000 → R.cowrieref09_once.l0 k x l out s i = some (out ++ ⟨t.toArray⟩, l', if f = true then 1 else s, !ok)) ∧
  (∀ k, 2 * d + KB ≤ k → ∀ m : Nat, m + d ≤ 1000000000000000 → R.cowrieref09_Conversions.l0 k x m i = some ((m + c : Nat) : Int))
theorem app_app (out a : ByteArray) (t : List UInt8) : (out ++ a) ++ (⟨t.toArray⟩ : ByteArray) = out ++ ⟨(a.data.toList ++ t).toArray⟩ := by
  apply ba_ext'
  simp
theorem does_end (x : ByteArray) (l : List ByteArray) (hl : ∀ a ∈ l, a.size ≤ MB) : Does x 0 x.size l [] l false 0 true := by
  refine ⟨by show 0 + szs l ≤ _; omega, Nat.le_refl _, hl, .inl rfl, Nat.le_refl _, fun n hn o st tk ho hk => ?_, fun k hk out s hs ho => ?_, fun k hk m hm => ?_⟩
  · obtain ⟨n, rfl⟩ : ∃ j, n = j + 1 := ⟨n - 1, by omega⟩
    rw [onceF, if_pos (by rw [ext_size]; omega), List.append_nil]
    rfl
  · obtain ⟨k, rfl⟩ : ∃ j, k = j + 1 := ⟨k - 1, by unfold KB at hk; omega⟩
    rw [R.cowrieref09_once.l0, if_neg (by omega), show out ++ (⟨([] : List UInt8).toArray⟩ : ByteArray) = out from by apply ba_ext'; simp]
    rfl
  · obtain ⟨k, rfl⟩ : ∃ j, k = j + 1 := ⟨k - 1, by unfold KB at hk; omega⟩
    rw [R.cowrieref09_Conversions.l0, if_neg (by omega)]
    rfl
theorem wadd (i m : Nat) (h : i + m ≤ 1000000000000) : wrap64 (((i : Nat) : Int) + ((m : Nat) : Int)) = ((i + m : Nat) : Int) := by unfold wrap64; omega
theorem lit_app (out : ByteArray) (c : UInt8) (t : List UInt8) : (out ++ (⟨#[c]⟩ : ByteArray)) ++ (⟨t.toArray⟩ : ByteArray) = out ++ ⟨(c :: t).toArray⟩ := by
  apply ba_ext'
  simp
set_option maxHeartbeats 800000 in
/-- An octet that stands for itself. -/
theorem does_lit (x : ByteArray) (hs : x.size ≤ 10000000) (d i : Nat) (hi : d + 1 + i = x.size) (l l' : List ByteArray) (t : List UInt8) (f ok : Bool) (c : Nat) (h : Does x d (i + 1) l t l' f c ok) (hil : i < x.data.toList.length) (hc : x.data.toList[i] ≠ 37)
    (t1 : ByteArray) (hq : Q.printf_escape.f 8 (x.extract i x.size) = some (t1, 0)) (h92 : x.data.toList[i] = 92 → ∀ k, 40 ≤ k → R.cowrieref09_one.f k (x.extract i x.size) = some (t1, 0)) : Does x (d + 1) i l (x.data.toList[i] :: t) l' f c ok := by
  have HC := Lib.hid hc
  have H92 := Lib.hid h92
  clear hc h92
  obtain ⟨a1, a2, a3, a4, a5, a6, a7, a8⟩ := h
  have hxl := PurePf.ba_size x
  have hcons := ext_cons x i hil
  have hes := ext_size x i
  have i0 : (0 : Int) ≤ ((i : Nat) : Int) := Int.natCast_nonneg _
  have ilt : ((i : Nat) : Int) < (x.size : Int) := by omega
  have ile : ((i : Nat) : Int) ≤ (x.size : Int) := Int.le_of_lt ilt
  have HW := Lib.hid (wr i (show i ≤ 1000000000000 by omega))
  have HBN := Lib.hid (show ¬ bt x ((i : Nat) : Int) = 37 from fun e => HC.out ((bt_is x i hil 37).1 e))
  refine ⟨by rw [List.length_cons]; omega, by omega, a3, a4, a5, fun n hn o st tk ho hk => ?_, fun k hk out s hs1 ho => ?_, fun k hk m hm => ?_⟩
  · obtain ⟨n, rfl⟩ : ∃ j, n = j + 1 := ⟨n - 1, by omega⟩
    have hd : (x.extract i x.size).data.toList.headD 0 = x.data.toList[i] := by rw [hcons, List.headD_cons]
    rw [onceF, if_neg (by rw [hes]; omega), hq, Option.bind_some]
    dsimp only
    rw [if_neg (by decide), hd, if_pos HC.out, if_pos (by show o.length + 1 ≤ _; omega), ext_ext, a6 n (by omega) (o ++ [x.data.toList[i]]) st tk (by rw [List.length_append, List.length_singleton]; omega) (by omega)]
    rw [List.append_assoc, List.singleton_append]
  · have hone : (x.extract i ((wrap64 ((i : Int) + 1)).toNat)) = ⟨#[x.data.toList[i]]⟩ := by
      rw [HW.out, Int.toNat_natCast]
      exact ext_one x i hil
    have L1 := Lib.hid (show ((i : Nat) : Int) ≤ wrap64 (((i : Nat) : Int) + 1) by rw [HW.out]; omega)
    have L2 := Lib.hid (show wrap64 (((i : Nat) : Int) + 1) ≤ (x.size : Int) by rw [HW.out]; omega)
    have hj : ∀ k, 2 * d + KB ≤ k → R.cowrieref09_once.j1 (k + 1) x l out s i = some (out ++ ⟨(x.data.toList[i] :: t).toArray⟩, l', if f = true then 1 else s, !ok) := by
      intro k hk
      have hr := a7 k hk (out ++ ⟨#[x.data.toList[i]]⟩) s hs1 (by rw [ByteArray.size_append, one_size]; omega)
      rw [lit_app] at hr
      rw [R.cowrieref09_once.j1, if_pos i0, if_pos ilt, if_neg HBN.out, if_pos L1.out, if_pos L2.out, Int.toNat_natCast, hone, if_pos (by rw [one_size]; omega), HW.out]
      exact hr
    obtain ⟨k, rfl⟩ : ∃ j, k = j + 1 + 1 := ⟨k - 2, by unfold KB at hk; omega⟩
    rw [R.cowrieref09_once.l0, if_pos ilt, if_pos i0]
    by_cases e : x.data.toList[i] = 92
    · rw [if_pos (show bt x ((i : Nat) : Int) = 92 from (bt_is x i hil 92).2 e), if_pos ile, Int.toNat_natCast, H92.out e (k + 1) (by unfold KB at hk; omega), Option.bind_some]
      dsimp only
      rw [if_neg (show ¬ ((0 : Int) > 0) by decide)]
      exact hj k (by omega)
    · have E := Lib.hid e
      clear e
      rw [if_neg (show ¬ bt x ((i : Nat) : Int) = 92 from fun h => E.out ((bt_is x i hil 92).1 h))]
      exact hj k (by omega)
  · obtain ⟨k, rfl⟩ : ∃ j, k = j + 1 := ⟨k - 1, by unfold KB at hk; omega⟩
    rw [R.cowrieref09_Conversions.l0, if_pos ilt, if_pos i0]
    by_cases e : x.data.toList[i] = 92
    · rw [if_pos (show bt x ((i : Nat) : Int) = 92 from (bt_is x i hil 92).2 e), if_pos ile, Int.toNat_natCast, H92.out e k (by unfold KB at hk; omega), Option.bind_some]
      dsimp only
      rw [show wrap64 (((i : Nat) : Int) + mx 1 0) = ((i + 1 : Nat) : Int) from by rw [show mx 1 0 = (1 : Int) from by unfold mx; decide]; exact HW.out]
      exact a8 k (by omega) m (by omega)
    · have E := Lib.hid e
      clear e
      rw [if_neg (show ¬ bt x ((i : Nat) : Int) = 92 from fun h => E.out ((bt_is x i hil 92).1 h)), if_neg HBN.out, HW.out]
      exact a8 k (by omega) m (by omega)
/-- An escape. -/
theorem does_esc (x : ByteArray) (hs : x.size ≤ 10000000) (d i m : Nat) (hm : 1 ≤ m) (hi : d + m + i = x.size) (l l' : List ByteArray) (t : List UInt8) (f ok : Bool) (c : Nat) (h : Does x d (i + m) l t l' f c ok) (hil : i < x.data.toList.length) (hc : x.data.toList[i] = 92) (t1 : ByteArray) (ht1 : t1.size ≤ 1)
    (hq : Q.printf_escape.f 8 (x.extract i x.size) = some (t1, (m : Int))) (h92 : ∀ k, 40 ≤ k → R.cowrieref09_one.f k (x.extract i x.size) = some (t1, (m : Int))) : Does x (d + m) i l (t1.data.toList ++ t) l' f c ok := by
  obtain ⟨a1, a2, a3, a4, a5, a6, a7, a8⟩ := h
  have hxl := PurePf.ba_size x
  have hes := ext_size x i
  have i0 : (0 : Int) ≤ ((i : Nat) : Int) := Int.natCast_nonneg _
  have ilt : ((i : Nat) : Int) < (x.size : Int) := by omega
  have ile : ((i : Nat) : Int) ≤ (x.size : Int) := Int.le_of_lt ilt
  have hb : bt x ((i : Nat) : Int) = 92 := (bt_is x i hil 92).2 hc
  have m0 : (0 : Int) < (m : Int) := by omega
  have hls : t1.data.toList.length = t1.size := by rw [PurePf.ba_size]
  refine ⟨by rw [List.length_append]; omega, by omega, a3, a4, a5, fun n hn o st tk ho hk => ?_, fun k hk out s hs1 ho => ?_, fun k hk mm hmm => ?_⟩
  · obtain ⟨n, rfl⟩ : ∃ j, n = j + 1 := ⟨n - 1, by omega⟩
    rw [onceF, if_neg (by rw [hes]; omega), hq, Option.bind_some]
    dsimp only
    rw [if_pos m0, if_pos ⟨by rw [hes]; omega, by omega⟩, Int.toNat_natCast, ext_ext, a6 n (by omega) (o ++ t1.data.toList) st tk (by rw [List.length_append]; omega) (by omega)]
    simp
  · obtain ⟨k, rfl⟩ : ∃ j, k = j + 1 := ⟨k - 1, by unfold KB at hk; omega⟩
    have hr := a7 k (by omega) (out ++ t1) s hs1 (by rw [ByteArray.size_append]; omega)
    rw [app_app] at hr
    rw [R.cowrieref09_once.l0, if_pos ilt, if_pos i0, if_pos hb, if_pos ile, Int.toNat_natCast, h92 k (by unfold KB at hk; omega), Option.bind_some]
    dsimp only
    rw [if_pos m0, if_pos (by omega), wadd i m (by omega)]
    exact hr
  · obtain ⟨k, rfl⟩ : ∃ j, k = j + 1 := ⟨k - 1, by unfold KB at hk; omega⟩
    rw [R.cowrieref09_Conversions.l0, if_pos ilt, if_pos i0, if_pos hb, if_pos ile, Int.toNat_natCast, h92 k (by unfold KB at hk; omega), Option.bind_some]
    dsimp only
    rw [show mx 1 ((m : Nat) : Int) = ((m : Nat) : Int) from by unfold mx; split <;> omega, wadd i m (by omega)]
    exact a8 k (by omega) mm (by omega)
theorem conv_at (x : ByteArray) (hs : x.size ≤ 10000000) (i : Nat) (h : i < x.size) (R) (hq : Q.printf_conversion.f 20 (x.extract (i + 1) x.size) = some R) : cowrieref09_conversion.f (x.extract i x.size) = some (convOf R) := by
  unfold cowrieref09_conversion.f
  have hes := ext_size x i
  rw [if_pos ⟨by omega, by omega⟩, ext_ext, hq]
  rfl
/-- A conversion that is none. -/
theorem does_fault (x : ByteArray) (hs : x.size ≤ 10000000) (d i : Nat) (hi : d + 1 + i = x.size) (l : List ByteArray) (hl : ∀ a ∈ l, a.size ≤ MB) (hil : i < x.data.toList.length) (hc : x.data.toList[i] = 37) (hq : Q.printf_conversion.f 20 (x.extract (i + 1) x.size) = some (0, 0, 0, 0, false)) : Does x (d + 1) i l [] l true 0 false := by
  have hxl := PurePf.ba_size x
  have hcons := ext_cons x i hil
  have hes := ext_size x i
  have i0 : (0 : Int) ≤ ((i : Nat) : Int) := Int.natCast_nonneg _
  have ilt : ((i : Nat) : Int) < (x.size : Int) := by omega
  have ile : ((i : Nat) : Int) ≤ (x.size : Int) := Int.le_of_lt ilt
  have hb : bt x ((i : Nat) : Int) = 37 := (bt_is x i hil 37).2 hc
  have HN92 := Lib.hid (show ¬ bt x ((i : Nat) : Int) = 92 from fun e => by rw [(bt_is x i hil 92).1 e] at hc; exact absurd hc (by decide))
  have hcv := conv_at x hs i (by omega) _ hq
  have hpl := PurePf.esc_plain _ _ _ hcons (by rw [hc]; decide)
  refine ⟨by show 0 + szs l ≤ _; omega, by omega, hl, .inl rfl, Nat.le_refl _, fun n hn o st tk ho hk => ?_, fun k hk out s hs1 ho => ?_, fun k hk m hm => ?_⟩
  · obtain ⟨n, rfl⟩ : ∃ j, n = j + 1 := ⟨n - 1, by omega⟩
    have hd : (x.extract i x.size).data.toList.headD 0 = 37 := by rw [hcons, List.headD_cons, hc]
    rw [onceF, if_neg (by rw [hes]; omega), hpl, Option.bind_some, if_neg (by decide), hd, if_neg (by decide), ext_ext, hq, Option.bind_some, if_neg (by decide), List.append_nil]
    rfl
  · obtain ⟨k, rfl⟩ : ∃ j, k = j + 1 + 1 := ⟨k - 2, by unfold KB at hk; omega⟩
    rw [R.cowrieref09_once.l0, if_pos ilt, if_pos i0, if_neg HN92.out, R.cowrieref09_once.j1, if_pos i0, if_pos ilt, if_pos hb, if_pos ile, Int.toNat_natCast, hcv, Option.bind_some, if_pos (by rfl), show out ++ (⟨([] : List UInt8).toArray⟩ : ByteArray) = out from by apply ba_ext'; simp]
    rfl
  · obtain ⟨k, rfl⟩ : ∃ j, k = j + 1 := ⟨k - 1, by unfold KB at hk; omega⟩
    rw [R.cowrieref09_Conversions.l0, if_pos ilt, if_pos i0, if_neg HN92.out, if_pos hb, if_pos ile, Int.toNat_natCast, hcv, Option.bind_some, if_pos (by rfl)]
    rfl
/-- Two percent signs. -/
theorem does_pct (x : ByteArray) (hs : x.size ≤ 10000000) (d i : Nat) (hi : d + 2 + i = x.size) (l l' : List ByteArray) (t : List UInt8) (f ok : Bool) (c : Nat) (h : Does x d (i + 2) l t l' f c ok) (hil : i < x.data.toList.length) (hc : x.data.toList[i] = 37) (hq : Q.printf_conversion.f 20 (x.extract (i + 1) x.size) = some (37, 0, 0, 1, true)) : Does x (d + 2) i l (37 :: t) l' f c ok := by
  obtain ⟨a1, a2, a3, a4, a5, a6, a7, a8⟩ := h
  have hxl := PurePf.ba_size x
  have hcons := ext_cons x i hil
  have hes := ext_size x i
  have i0 : (0 : Int) ≤ ((i : Nat) : Int) := Int.natCast_nonneg _
  have ilt : ((i : Nat) : Int) < (x.size : Int) := by omega
  have ile : ((i : Nat) : Int) ≤ (x.size : Int) := Int.le_of_lt ilt
  have hb : bt x ((i : Nat) : Int) = 37 := (bt_is x i hil 37).2 hc
  have HN92 := Lib.hid (show ¬ bt x ((i : Nat) : Int) = 92 from fun e => by rw [(bt_is x i hil 92).1 e] at hc; exact absurd hc (by decide))
  have hcv := conv_at x hs i (by omega) _ hq
  have hco : convOf (37, 0, 0, 1, true) = (37, false, false, 0, 2) := by
    unfold convOf
    rw [if_pos rfl, show wrap64 ((1 : Int) + 1) = 2 from by unfold wrap64; omega]
    rfl
  rw [hco] at hcv
  have hpl := PurePf.esc_plain _ _ _ hcons (by rw [hc]; decide)
  refine ⟨by rw [List.length_cons]; omega, by omega, a3, a4, a5, fun n hn o st tk ho hk => ?_, fun k hk out s hs1 ho => ?_, fun k hk m hm => ?_⟩
  · obtain ⟨n, rfl⟩ : ∃ j, n = j + 1 := ⟨n - 1, by omega⟩
    have hd : (x.extract i x.size).data.toList.headD 0 = 37 := by rw [hcons, List.headD_cons, hc]
    have h1 : oneF 200 37 0 0 ⟨o, l, st, tk⟩ = some ⟨o ++ [37], l, st, tk⟩ := by
      unfold oneF
      rw [if_pos rfl, if_pos (by show o.length + 1 ≤ _; omega)]
    rw [onceF, if_neg (by rw [hes]; omega), hpl, Option.bind_some, if_neg (by decide), hd, if_neg (by decide), ext_ext, hq, Option.bind_some, if_pos rfl, h1, Option.bind_some]
    dsimp only
    rw [if_pos ⟨by decide, by rw [hes]; omega⟩, show ((1 : Int) + 1).toNat = 2 from rfl, ext_ext, a6 n (by omega) (o ++ [37]) st tk (by rw [List.length_append, List.length_singleton]; omega) (by omega)]
    simp
  · obtain ⟨k, rfl⟩ : ∃ j, k = j + 1 + 1 := ⟨k - 2, by unfold KB at hk; omega⟩
    have hr := a7 k (by omega) (out ++ ⟨#[37]⟩) s hs1 (by rw [ByteArray.size_append, one_size]; omega)
    rw [app_app] at hr
    rw [R.cowrieref09_once.l0, if_pos ilt, if_pos i0, if_neg HN92.out, R.cowrieref09_once.j1, if_pos i0, if_pos ilt, if_pos hb, if_pos ile, Int.toNat_natCast, hcv, Option.bind_some]
    dsimp only
    rw [if_neg (by decide), if_pos rfl, if_pos (by omega), show wrap64 (((i : Nat) : Int) + 2) = ((i + 2 : Nat) : Int) from wadd i 2 (by omega)]
    exact hr
  · obtain ⟨k, rfl⟩ : ∃ j, k = j + 1 := ⟨k - 1, by unfold KB at hk; omega⟩
    rw [R.cowrieref09_Conversions.l0, if_pos ilt, if_pos i0, if_neg HN92.out, if_pos hb, if_pos ile, Int.toNat_natCast, hcv, Option.bind_some]
    dsimp only
    rw [if_neg (by decide), if_pos rfl, show wrap64 (((i : Nat) : Int) + 2) = ((i + 2 : Nat) : Int) from wadd i 2 (by omega)]
    exact a8 k (by omega) m (by omega)
/-- A conversion. -/
theorem does_conv (x : ByteArray) (hs : x.size ≤ 10000000) (d i nn : Nat) (lt fl : Int) (wd : Nat) (h1 : 1 ≤ nn) (hi : d + (nn + 1) + i = x.size) (l l' : List ByteArray) (hl : ∀ a ∈ l, a.size ≤ MB) (t : List UInt8) (f ok : Bool) (c : Nat) (h : Does x d (i + (nn + 1)) l.tail t l' f c ok) (hil : i < x.data.toList.length) (hc : x.data.toList[i] = 37)
    (hlt : isL lt) (hfl : fl = 0 ∨ fl = 45 ∨ fl = 48) (hwd : wd ≤ 999) (hq : Q.printf_conversion.f 20 (x.extract (i + 1) x.size) = some (lt, fl, (wd : Int), (nn : Int), true)) : ∃ t2 f2, Does x (d + (nn + 1)) i l t2 l' f2 (c + 1) ok := by
  obtain ⟨a1, a2, a3, a4, a5, a6, a7, a8⟩ := h
  have hxl := PurePf.ba_size x
  have hcons := ext_cons x i hil
  have hes := ext_size x i
  have i0 : (0 : Int) ≤ ((i : Nat) : Int) := Int.natCast_nonneg _
  have ilt : ((i : Nat) : Int) < (x.size : Int) := by omega
  have ile : ((i : Nat) : Int) ≤ (x.size : Int) := Int.le_of_lt ilt
  have hb : bt x ((i : Nat) : Int) = 37 := (bt_is x i hil 37).2 hc
  have HN92 := Lib.hid (show ¬ bt x ((i : Nat) : Int) = 92 from fun e => by rw [(bt_is x i hil 92).1 e] at hc; exact absurd hc (by decide))
  have hcv := conv_at x hs i (by omega) _ hq
  have hco : convOf (lt, fl, (wd : Int), (nn : Int), true) = (lt, fl == 45, fl == 48, (wd : Int), ((nn + 1 : Nat) : Int)) := by
    unfold convOf
    rw [if_pos rfl]
    dsimp only
    rw [wr nn (by omega)]
  rw [hco] at hcv
  have hpl := PurePf.esc_plain _ _ _ hcons (by rw [hc]; decide)
  have hlt0 : lt ≠ 0 := by unfold isL at hlt; omega
  have hlt37 : lt ≠ 37 := by unfold isL at hlt; omega
  have hA : (l.headD ⟨#[]⟩).size ≤ MB := by
    cases l with
    | nil => exact Nat.zero_le _
    | cons a l => exact hl a List.mem_cons_self
  have hsz : szs l = (l.headD ⟨#[]⟩).size + szs l.tail := by
    cases l with
    | nil => rfl
    | cons a l => rfl
  obtain ⟨r, okk, hT, hrs, hR⟩ := told_ref lt ((nn + 1 : Nat) : Int) fl hlt hfl wd (by omega) (l.headD ⟨#[]⟩) (by unfold MB at hA; exact hA)
  have hrl : r.data.toList.length = r.size := by rw [PurePf.ba_size]
  refine ⟨r.data.toList ++ t, f || !okk, by rw [List.length_append]; omega, by omega, a3, ?_, ?_, fun n hn o st tk ho hk => ?_, fun k hk out s hs1 ho => ?_, fun k hk m hm => ?_⟩
  · cases l with
    | nil =>
      right
      exact List.eq_nil_of_length_eq_zero (Nat.le_zero.1 a5)
    | cons a l =>
      rcases a4 with h | h
      · left
        rw [List.length_cons]
        rw [List.tail_cons] at h
        omega
      · exact .inr h
  · refine Nat.le_trans a5 ?_
    rw [List.length_tail]
    omega
  · obtain ⟨n, rfl⟩ : ∃ j, n = j + 1 := ⟨n - 1, by omega⟩
    have hd : (x.extract i x.size).data.toList.headD 0 = 37 := by rw [hcons, List.headD_cons, hc]
    have ho1 : oneF 200 lt fl wd ⟨o, l, st, tk⟩ = some ⟨o ++ r.data.toList, l.tail, if okk = true then st else 1, ((tk + 1 : Nat) : Int)⟩ := by
      unfold oneF
      rw [if_neg hlt37, hT, Option.bind_some]
      dsimp only
      rw [if_pos (by omega), show wrap64 (((tk : Nat) : Int) + 1) = ((tk + 1 : Nat) : Int) from by unfold wrap64; omega]
    rw [onceF, if_neg (by rw [hes]; omega), hpl, Option.bind_some, if_neg (by decide), hd, if_neg (by decide), ext_ext, hq, Option.bind_some, if_pos rfl]
    dsimp only
    rw [ho1, Option.bind_some, if_pos ⟨by omega, by rw [hes]; omega⟩, show ((1 : Int) + ((nn : Nat) : Int)).toNat = nn + 1 from by omega, ext_ext, a6 n (by omega) (o ++ r.data.toList) _ (tk + 1) (by rw [List.length_append]; omega) (by omega)]
    rw [List.append_assoc, show tk + 1 + c = tk + (c + 1) by omega]
    cases f <;> cases okk <;> rfl
  · obtain ⟨k, rfl⟩ : ∃ j, k = j + 1 + 1 := ⟨k - 2, by unfold KB at hk; omega⟩
    have hmx : mx s (if okk = true then 0 else 1) = if okk = true then s else 1 := by
      cases okk
      · rcases hs1 with rfl | rfl <;> rfl
      · rcases hs1 with rfl | rfl <;> rfl
    have hs2 : (if okk = true then s else 1) = 0 ∨ (if okk = true then s else 1) = 1 := by
      cases okk
      · exact .inr rfl
      · exact hs1
    have hr := a7 k (by omega) (out ++ r) (if okk = true then s else 1) hs2 (by rw [ByteArray.size_append]; omega)
    rw [app_app] at hr
    have hRk := hR k (by unfold MB at hA; unfold KB at hk; omega)
    rw [R.cowrieref09_once.l0, if_pos ilt, if_pos i0, if_neg HN92.out, R.cowrieref09_once.j1, if_pos i0, if_pos ilt, if_pos hb, if_pos ile, Int.toNat_natCast, hcv, Option.bind_some]
    dsimp only
    rw [if_neg hlt0, if_neg hlt37, wadd i (nn + 1) (by omega)]
    have hfin : (if f = true then (1 : Int) else (if okk = true then s else 1)) = if (f || !okk) = true then 1 else s := by cases f <;> cases okk <;> rfl
    rw [hfin] at hr
    cases l with
    | nil =>
      rw [if_neg (by decide), show ((⟨#[]⟩ : ByteArray)) = List.headD ([] : List ByteArray) ⟨#[]⟩ from rfl, hRk, Option.bind_some]
      dsimp only
      rw [if_pos (by omega), hmx]
      exact hr
    | cons a l =>
      rw [if_pos (by rw [List.length_cons]; omega), if_pos (by rw [List.length_cons]; omega), if_pos (by rw [List.length_cons]; omega), show rdOf ByteArray.empty (a :: l) 0 = List.headD (a :: l) ⟨#[]⟩ from rfl, hRk, Option.bind_some]
      dsimp only
      rw [if_pos (by omega), hmx]
      exact hr
  · obtain ⟨k, rfl⟩ : ∃ j, k = j + 1 := ⟨k - 1, by unfold KB at hk; omega⟩
    rw [R.cowrieref09_Conversions.l0, if_pos ilt, if_pos i0, if_neg HN92.out, if_pos hb, if_pos ile, Int.toNat_natCast, hcv, Option.bind_some]
    dsimp only
    rw [if_neg hlt0, if_neg hlt37, wadd i (nn + 1) (by omega), show wrap64 (((m : Nat) : Int) + 1) = ((m + 1 : Nat) : Int) from by unfold wrap64; omega, a8 k (by omega) (m + 1) (by omega)]
    rw [show m + 1 + c = m + (c + 1) by omega]
theorem does_all (x : ByteArray) (hs : x.size ≤ 10000000) : ∀ (N d i : Nat) (l : List ByteArray), d ≤ N → d + i = x.size → (∀ a ∈ l, a.size ≤ MB) → ∃ t l' f c ok, Does x d i l t l' f c ok := by
  intro N
  have hxl := PurePf.ba_size x
  induction N with
  | zero =>
    intro d i l hd hi hl
    obtain rfl : d = 0 := by omega
    obtain rfl : i = x.size := by omega
    exact ⟨_, _, _, _, _, does_end x l hl⟩
  | succ N ih =>
    intro d i l hd hi hl
    by_cases hd0 : d = 0
    · exact ih d i l (by omega) hi hl
    obtain ⟨d, rfl⟩ : ∃ e, d = e + 1 := ⟨d - 1, by omega⟩
    have hil : i < x.data.toList.length := by omega
    have hcons := ext_cons x i hil
    have hes := ext_size x i
    by_cases c37 : x.data.toList[i] = 37
    · obtain ⟨R, hR, hCP⟩ := conv_prop (x.extract (i + 1) x.size) (by rw [ext_size]; omega)
      rcases hCP with rfl | ⟨rfl, h1⟩ | ⟨lt, fl, wd, nn, rfl, b1, b2, b3, b4, b5⟩
      · exact ⟨_, _, _, _, _, does_fault x hs d i hi l hl hil c37 hR⟩
      · rw [ext_size] at h1
        obtain ⟨d, rfl⟩ : ∃ e, d = e + 1 := ⟨d - 1, by omega⟩
        obtain ⟨t, l', f, c, ok, h⟩ := ih d (i + 2) l (by omega) (by omega) hl
        exact ⟨_, _, _, _, _, does_pct x hs d i hi l l' t f ok c h hil c37 hR⟩
      · rw [ext_size] at b5
        obtain ⟨e, rfl⟩ : ∃ e, d = e + nn := ⟨d - nn, by omega⟩
        obtain ⟨t, l', f, c, ok, h⟩ := ih e (i + (nn + 1)) l.tail (by omega) (by omega) (fun a ha => hl a (List.mem_of_mem_tail ha))
        obtain ⟨t2, f2, h2⟩ := does_conv x hs e i nn lt fl wd b4 (by omega) l l' hl t f ok c h hil c37 b1 b2 b3 hR
        exact ⟨t2, l', f2, c + 1, ok, h2⟩
    · have C37 := Lib.hid c37
      clear c37
      by_cases c92 : x.data.toList[i] = 92
      · have hcons2 := hcons
        rw [c92] at hcons2
        obtain ⟨⟨t1, n1⟩, hg, hq, hr⟩ := one_escape _ _ hcons2
        obtain ⟨g0, g1, g2⟩ := hg
        dsimp only at g0 g1 g2
        rw [hes] at g1
        obtain ⟨m, rfl⟩ := Int.eq_ofNat_of_zero_le g0
        by_cases hm : m = 0
        · subst hm
          obtain ⟨t, l', f, c, ok, h⟩ := ih d (i + 1) l (by omega) (by omega) hl
          exact ⟨_, _, _, _, _, does_lit x hs d i hi l l' t f ok c h hil C37.out t1 hq (fun _ => hr)⟩
        · obtain ⟨e, he⟩ : ∃ e, d + 1 = e + m := ⟨d + 1 - m, by omega⟩
          obtain ⟨t, l', f, c, ok, h⟩ := ih e (i + m) l (by omega) (by omega) hl
          rw [he]
          exact ⟨_, _, _, _, _, does_esc x hs e i m (by omega) (by omega) l l' t f ok c h hil c92 t1 g2 hq hr⟩
      · have C92 := Lib.hid c92
        clear c92
        obtain ⟨t, l', f, c, ok, h⟩ := ih d (i + 1) l (by omega) (by omega) hl
        exact ⟨_, _, _, _, _, does_lit x hs d i hi l l' t f ok c h hil C37.out ⟨#[]⟩ (PurePf.esc_plain _ _ _ hcons C92.out) (fun e => absurd e C92.out)⟩
end Go.Proofs.YtagdkbncfcdhdaaDoor.PureT
