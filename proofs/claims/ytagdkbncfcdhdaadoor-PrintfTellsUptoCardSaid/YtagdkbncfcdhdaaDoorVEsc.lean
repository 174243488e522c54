/- Proved: printf.Escape's call answers the octets that printf.escape (as the print tells it) makes, piece by piece. Condition: the text is of at most 10 to the 9 octets. -/
import Derived.Test.YtagdkbncfcdhdaaDoorVQ1
import Derived.Test.YtagdkbncfcdhdaaDoorVBase09
import Derived.Shelf.Strings.MapGrows
set_option linter.unusedVariables false
namespace Go.Proofs.YtagdkbncfcdhdaaDoor.Ext
open Go.RowKit Go.Proofs.YtagdkbncfcdhdaaDoor.Q Go.Proofs.YtagdkbncfcdhdaaDoorW.PrintWords
/-- The octets that are told of a text. -/
def escL : Nat → ByteArray → Option (List UInt8)
  | 0, _ => none
  | k + 1, s => if s.size = 0 then some [] else
    (printf_escape.f 8 s).bind fun r => if r.2 = 0 then (escL k (s.extract 1 s.size)).map ((s.extract 0 1).data.toList ++ ·)
      else if 0 ≤ r.2 ∧ r.2 ≤ s.size ∧ r.1.size ≤ 1 then (escL k (s.extract r.2.toNat s.size)).map (r.1.data.toList ++ ·) else none
def printf_Escape.f (a0 : ByteArray) : Option ByteArray := if a0.size ≤ 1000000000 then (escL (a0.size + 1) a0).map fun l => ⟨l.toArray⟩ else none
def strLen : Value → Nat
  | .string s => s.size
  | _ => 0
theorem cells_app (l : List UInt8) (s : ByteArray) : Lib.byteCells l ++ Lib.strCells s = Lib.byteCells (l ++ s.data.toList) := by
  unfold Lib.byteCells Lib.strCells
  rw [List.map_append]
theorem size_pos {s : ByteArray} (h : ¬ s.size = 0) : s.toList.isEmpty = false := by
  rw [Lib.toList_data]
  cases e : s.data.toList with
  | nil => exact absurd (by rw [Lib.size_eq, e]; rfl) h
  | cons b l => rfl
theorem size_nil {s : ByteArray} (h : s.size = 0) : s.toList.isEmpty = true := by
  rw [Lib.toList_data, List.isEmpty_iff]
  exact List.eq_nil_of_length_eq_zero (by rw [← Lib.size_eq]; exact h)
set_option maxHeartbeats 4000000 in
theorem printf_Escape.calls (a0 : ByteArray) (r : ByteArray) (w : World) (h : printf_Escape.f a0 = some r) :
    Calls Tryd.prog 13 #[.string a0] w fun e w' => e = .returned (.string r) ∧ Below w.heap.size w w' := by
  unfold printf_Escape.f at h
  split at h
  case isFalse => cases h
  rename_i hsz
  obtain ⟨R, hR, rfl⟩ := Option.map_eq_some_iff.1 h
  clear h
  have HR := Lib.hid hR
  have HSZ := Lib.hid hsz
  have HB0 := Lib.hid (Lib.IsBuilderF.of (Lib.fresh_isBuilder 41 5 w))
  clear hR hsz
  go_enter Tryd.func13, Tryd.ntmps13
  go_wp2_with fail
  go_loopw [0] (fun i wr => ∃ (k : Nat) (x : ByteArray) (acc tl : List UInt8), i = .string x ∧ escL k x = some tl ∧ acc ++ tl = R ∧ acc.length + x.size ≤ 1000000000 ∧ Lib.IsBuilderF 41 5 w.heap.size w.heap.size (Lib.byteCells acc) wr ∧ Below w.heap.size w wr ∧ w.heap.size ≤ wr.heap.size) (fun i _ => strLen i)
  case atStart => exact ⟨_, a0, [], R, rfl, HR.out, rfl, by simpa using HSZ.out, HB0.out, (Below.refl _ _).alloc (Nat.le_refl _) _, by simp⟩
  case round =>
    obtain ⟨k, x, acc, tl, rfl, hk, hacc, hlen, hbd, hfr, hws⟩ := hrel
    cases k with
    | zero => cases hk
    | succ k =>
    rw [escL] at hk
    by_cases hx : x.size = 0
    · rw [if_pos hx] at hk
      obtain rfl := Option.some.inj hk
      rw [List.append_nil] at hacc
      obtain rfl := hacc
      have hx2 := size_nil hx
      have HBD := Lib.hid hbd
      have HFR := Lib.hid hfr
      clear hbd hfr hk hlen hx
      go_wp2_with fail
      refine (Tryd.Builder_String_any_f w.heap.size w.heap.size acc _ HBD.out hws).mono ?_
      rintro e w' ⟨rfl, _, hf4⟩
      have HF4 := Lib.hid hf4
      clear hf4
      go_wp2_with fail
      go_ret
      exact ⟨rfl, HFR.out.trans HF4.out⟩
    · rw [if_neg hx] at hk
      have hx2 := size_pos hx
      obtain ⟨⟨t, n⟩, he, hk⟩ := Option.bind_eq_some_iff.1 hk
      dsimp only at hk
      have HE := Lib.hid he
      have HBD := Lib.hid hbd
      have HFR := Lib.hid hfr
      clear hbd hfr he
      by_cases hn : n = 0
      · rw [if_pos hn] at hk
        obtain ⟨t2, hk2, rfl⟩ := Option.map_eq_some_iff.1 hk
        have hd : ((x.extract 0 1).data.toList).length = 1 := by simp; omega
        have HK := Lib.hid hk2
        have HA := Lib.hid hacc
        have HL := Lib.hid hlen
        have HD := Lib.hid hd
        have HX := Lib.hid hx
        have hx1 : (1 : Int) ≤ x.size := by omega
        clear hacc hlen hd hx
        clear hk hk2
        subst hn
        go_wp2_with fail
        refine (printf_escape.calls 8 x t 0 _ HE.out).mono ?_
        rintro e w' ⟨rfl, hb1⟩
        have HB1 := Lib.hid hb1
        clear hb1
        have HBD2 := Lib.hid (HBD.out.below HB1.out)
        have HS2 := Lib.hid (Nat.le_trans hws HB1.out.size)
        go_wp2_with fail
        refine (WriteString w.heap.size w.heap.size _ (x.extract 0 1) _ HBD2.out (by
          rw [Lib.byteCells_length]
          have := HL.out
          have h1 := HD.out
          rw [ByteArray.size_extract]
          omega) HS2.out).mono ?_
        rintro e w2 ⟨rfl, hc2, hf2, _⟩
        have HC2 := Lib.hid hc2
        have HF2 := Lib.hid hf2
        clear hc2 hf2
        go_wp2_with fail
        go_roundw
        case rel =>
          refine ⟨k, x.extract 1 x.size, acc ++ (x.extract 0 1).data.toList, t2, rfl, HK.out, by rw [List.append_assoc]; exact HA.out, ?_, by rw [← cells_app]; exact .inr HC2.out, (HFR.out.trans (HB1.out.mono hws)).trans HF2.out, Nat.le_trans HS2.out HF2.out.size⟩
          have h1 := HD.out
          have h2 := HL.out
          rw [List.length_append, h1, ByteArray.size_extract]
          omega
        case measure =>
          have h1 := HX.out
          simp only [strLen, ByteArray.size_extract]
          omega
      · rw [if_neg hn] at hk
        split at hk
        case isFalse => cases hk
        rename_i hrg
        obtain ⟨t2, hk2, rfl⟩ := Option.map_eq_some_iff.1 hk
        obtain ⟨hn0, hn1, ht1⟩ := hrg
        have HK := Lib.hid hk2
        have HA := Lib.hid hacc
        have HL := Lib.hid hlen
        have HX := Lib.hid hx
        have HT := Lib.hid ht1
        have HN := Lib.hid hn
        have hnb : (n == 0) = false := beq_eq_false_iff_ne.2 hn
        clear hacc hlen hx ht1 hn
        clear hk hk2
        go_wp2_with fail
        refine (printf_escape.calls 8 x t n _ HE.out).mono ?_
        rintro e w' ⟨rfl, hb1⟩
        have HB1 := Lib.hid hb1
        clear hb1
        have HBD2 := Lib.hid (HBD.out.below HB1.out)
        have HS2 := Lib.hid (Nat.le_trans hws HB1.out.size)
        go_wp2_with fail
        refine (WriteString w.heap.size w.heap.size _ t _ HBD2.out (by
          rw [Lib.byteCells_length]
          have := HL.out
          have h1 := HT.out
          omega) HS2.out).mono ?_
        rintro e w2 ⟨rfl, hc2, hf2, _⟩
        have HC2 := Lib.hid hc2
        have HF2 := Lib.hid hf2
        clear hc2 hf2
        go_wp2_with fail
        go_roundw
        case rel =>
          refine ⟨k, x.extract n.toNat x.size, acc ++ t.data.toList, t2, rfl, HK.out, by rw [List.append_assoc]; exact HA.out, ?_, by rw [← cells_app]; exact .inr HC2.out, (HFR.out.trans (HB1.out.mono hws)).trans HF2.out, Nat.le_trans HS2.out HF2.out.size⟩
          have h1 := HN.out
          have h2 := HL.out
          have h3 := HT.out
          have h4 : t.data.toList.length = t.size := by simp
          rw [List.length_append, h4, ByteArray.size_extract]
          omega
        case measure =>
          have h1 := HX.out
          have h2 := HN.out
          simp only [strLen, ByteArray.size_extract]
          omega
end Go.Proofs.YtagdkbncfcdhdaaDoor.Ext
