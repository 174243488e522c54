/- Proved: number.digits' call tells the number of a text of digits of a base (0 to 16), modulo 2 to the 64, or that it is none; strings.IndexByte's call by the shelf's contract. Conditions: the base is 0 to 16; the text is shorter than 2 to the 63. -/
import Derived.Test.YtlbgnpllbogkeaaDoorProg
import Derived.Test.YtlbgnpllbogkeaaDoorVkWWords
import Derived.Test.YtlbgnpllbogkeaaDoorVkShelf
import Derived.WalkKit
import Derived.WalkSpells
import Derived.WalkLawsBesides
import Derived.Outline
import Derived.LoopTactic
import Derived.Deep.LoopGhost
import Derived.Lib.ConvBytes
import Derived.Laws.IdiomStrings
import Derived.Lib.Hide
set_option maxRecDepth 100000
namespace Go.Proofs.YtlbgnpllbogkeaaDoor.Ext
open Go.RowKit Go.Proofs.YtlbgnpllbogkeaaDoorW.PrintWords
def hexes : ByteArray := ⟨#[48, 49, 50, 51, 52, 53, 54, 55, 56, 57, 97, 98, 99, 100, 101, 102]⟩
/-- One octet as a digit of a base; below 0: it is none. -/
def digitOf (base : Int) (c : Int) : Int :=
  Lib.indexByte ((hexes.extract 0 base.toNat).data.toList) ((if 65 ≤ c ∧ c ≤ 70 then Go.bits .or .u8 c 32 else c).toNat.toUInt8)
def digitsGo (base : Int) : List UInt8 → Int → Option Int
  | [], n => some n
  | c :: cs, n => if digitOf base c.toNat < 0 then none else digitsGo base cs (IntKind.u64.wrap (IntKind.u64.wrap (n * base) + digitOf base c.toNat))
def number_digits.f (a0 : ByteArray) (a1 : Int) : Option (Int × Bool) :=
  if 0 ≤ a1 ∧ a1 ≤ 16 ∧ a0.size ≤ 9223372036854775807 then
    match digitsGo a1 a0.data.toList 0 with
    | none => some (0, false)
    | some n => some (n, !a0.toList.isEmpty)
  else none
theorem cell_conv (w : World) (e : TypeId) (s : ByteArray) (cap : Nat) (fr : Nat × Nat) (j : Nat) (hj : j < s.size) :
    ((w.alloc (.cells (bytesRow s cap) e fr)).drew).cell? ⟨w.heap.size, j, none⟩ = some (.int .u8 (s.data.toList.getD j 0).toNat) := by
  have h1 : ((w.alloc (.cells (bytesRow s cap) e fr)).drew).heap[w.heap.size]? = some (.cells (bytesRow s cap) e fr) := heap_alloc_new w _
  have h2 := bytesRow_at s cap j hj
  have h3 : s.data.toList.getD j 0 = s.data[j] := by
    rw [List.getD_eq_getElem?_getD, List.getElem?_eq_getElem (by simpa using hj)]
    simp
  rw [h3]
  unfold World.cell?
  rw [h1]
  exact h2
theorem digitsGo_cons (base : Int) (l : List UInt8) (k : Nat) (hk : k < l.length) (n : Int) :
    digitsGo base (l.drop k) n = if digitOf base (l.getD k 0).toNat < 0 then none else digitsGo base (l.drop (k + 1)) (IntKind.u64.wrap (IntKind.u64.wrap (n * base) + digitOf base (l.getD k 0).toNat)) := by
  rw [List.drop_eq_getElem_cons hk, digitsGo, List.getD_eq_getElem?_getD, List.getElem?_eq_getElem hk]
  rfl
def Done (base : Int) (s : ByteArray) (r1 : Int) (r2 : Bool) (k : Nat) (n : Int) : Prop :=
  (match digitsGo base (s.data.toList.drop k) n with | none => ((0 : Int), false) | some n => (n, !s.toList.isEmpty)) = (r1, r2)
theorem digit_low (a1 c : Int) (h1 : 65 ≤ c) (h2 : c ≤ 70) : Lib.indexByte (((⟨#[48, 49, 50, 51, 52, 53, 54, 55, 56, 57, 97, 98, 99, 100, 101, 102]⟩ : ByteArray).extract 0 a1.toNat).data.toList) (Go.bits .or .u8 c 32).toNat.toUInt8 = digitOf a1 c := by
  unfold digitOf
  rw [if_pos ⟨h1, h2⟩]
  rfl
theorem digit_as (a1 c : Int) (h1 : ¬ (65 ≤ c ∧ c ≤ 70)) : Lib.indexByte (((⟨#[48, 49, 50, 51, 52, 53, 54, 55, 56, 57, 97, 98, 99, 100, 101, 102]⟩ : ByteArray).extract 0 a1.toNat).data.toList) c.toNat.toUInt8 = digitOf a1 c := by
  unfold digitOf
  rw [if_neg h1]
  rfl
theorem idx_le (l : List UInt8) (c : UInt8) : Lib.indexByte l c ≤ l.length := by
  induction l with
  | nil => simp [Lib.indexByte]
  | cons b l ih =>
    simp only [Lib.indexByte, List.length_cons]
    split
    · omega
    · split <;> omega
theorem digit_le (a1 c : Int) : digitOf a1 c ≤ 16 := by
  unfold digitOf
  refine Int.le_trans (idx_le _ _) ?_
  have h : (hexes.extract 0 a1.toNat).size ≤ 16 := by
    rw [ByteArray.size_extract]
    have : hexes.size = 16 := rfl
    omega
  simp only [Array.length_toList, ByteArray.size_data]
  omega
theorem done_neg {a1 : Int} {a0 : ByteArray} {r1 : Int} {r2 : Bool} {k : Nat} {m d x : Int} (h : Done a1 a0 r1 r2 k m)
    (e : digitsGo a1 (a0.data.toList.drop k) m = if d < 0 then none else digitsGo a1 (a0.data.toList.drop (k + 1)) x) (hd : d < 0) :
    Ending.returned (.tuple #[.int .u64 0, .bool false]) = Ending.returned (.tuple #[.int .u64 r1, .bool r2]) := by
  unfold Done at h
  rw [e, if_pos hd] at h
  cases h
  rfl
theorem done_pos {a1 : Int} {a0 : ByteArray} {r1 : Int} {r2 : Bool} {k : Nat} {m d x : Int} (h : Done a1 a0 r1 r2 k m)
    (e : digitsGo a1 (a0.data.toList.drop k) m = if d < 0 then none else digitsGo a1 (a0.data.toList.drop (k + 1)) x) (hd : 0 ≤ d) :
    Done a1 a0 r1 r2 (k + 1) x := by
  unfold Done at h ⊢
  rw [e, if_neg (by omega)] at h
  exact h
theorem done_end {a1 : Int} {a0 : ByteArray} {r1 : Int} {r2 : Bool} {m : Int} {k : Nat} (h : Done a1 a0 r1 r2 k m) (hk : a0.data.toList.length ≤ k) :
    Ending.returned (.tuple #[.int .u64 m, .bool !a0.toList.isEmpty]) = Ending.returned (.tuple #[.int .u64 r1, .bool r2]) := by
  unfold Done at h
  rw [List.drop_of_length_le hk] at h
  cases h
  rfl
theorem number_digits.calls (a0 : ByteArray) (a1 : Int) (r1 : Int) (r2 : Bool) (w : World) (h : number_digits.f a0 a1 = some (r1, r2)) :
    Calls Tryd.prog 70 #[.string a0, .int .i64 a1] w fun e w' => e = .returned (.tuple #[.int .u64 r1, .bool r2]) ∧ Below w.heap.size w w' := by
  unfold number_digits.f at h
  split at h
  case isFalse => cases h
  rename_i hb
  obtain ⟨hb0, hb1, hsz⟩ := hb
  have hd : Done a1 a0 r1 r2 0 0 := by
    unfold Done
    rw [List.drop_zero]
    split at h <;> simp_all
  clear h
  have hconv := run_bytes_of_string (P := Tryd.prog) w 9 80 5 a0 Tryd.underlying9 Tryd.underlying80 Tryd.underlying5
  generalize hcap : grownCap w a0.size 0 5 = cap at hconv
  clear hcap
  have hcell := cell_conv w 5 a0 cap ((bytesRow a0 cap).size, (bytesRow a0 cap).size + 1)
  generalize (bytesRow a0 cap) = C at hconv hcell
  have HC := Lib.hid hcell
  clear hcell
  have hln : a0.data.toList.length = a0.size := by simp
  have HL := Lib.hid hln
  clear hln
  go_enter Tryd.func70, Tryd.ntmps70
  go_wp2_with fail
  go_loop [6, 13] (fun n i => ∃ (k : Nat) (m : Int), k ≤ a0.size ∧ i = .int .i64 k ∧ n = .int .u64 m ∧ Done a1 a0 r1 r2 k m) (fun _ i => a0.size - (intOf i).toNat)
  case atStart => exact ⟨0, 0, Nat.zero_le _, rfl, rfl, hd⟩
  case round =>
    clear hd
    obtain ⟨k, m, hk, rfl, rfl, hd⟩ := hrel
    by_cases hlt : k < a0.size
    · have hc := HC.out k hlt
      have hdg := digitsGo_cons a1 a0.data.toList k (by rw [HL.out]; exact hlt) m
      generalize hcc : (a0.data.toList.getD k 0) = c at *
      have hdl := digit_le a1 c.toNat
      have H1 := Lib.hid (digit_low a1 c.toNat)
      have H2 := Lib.hid (digit_as a1 c.toNat)
      generalize hdd : digitOf a1 (c.toNat : Int) = d at *
      have HD := Lib.hid hdg
      clear hdg hcc hdd
      go_wp2_with fail
      · have h1 : 65 ≤ (c.toNat : Int) := by assumption
        have h2 : (c.toNat : Int) ≤ 70 := by assumption
        refine (Tryd.strings_IndexByte _ _ _).mono ?_
        rintro e w' ⟨rfl, rfl⟩
        rw [H1.out h1 h2]
        go_wp2_with fail
        · go_ret2
          exact ⟨done_neg hd HD.out (by assumption), ((Below.refl _ _).alloc (Nat.le_refl _) _).drew⟩
        · go_round
          case rel => exact ⟨k + 1, _, by omega, by go_num, rfl, done_pos hd HD.out (by assumption)⟩
          case measure => simp [intOf]; omega
      · have h1 : 70 < (c.toNat : Int) := by assumption
        refine (Tryd.strings_IndexByte _ _ _).mono ?_
        rintro e w' ⟨rfl, rfl⟩
        rw [H2.out (by omega)]
        go_wp2_with fail
        · go_ret2
          exact ⟨done_neg hd HD.out (by assumption), ((Below.refl _ _).alloc (Nat.le_refl _) _).drew⟩
        · go_round
          case rel => exact ⟨k + 1, _, by omega, by go_num, rfl, done_pos hd HD.out (by assumption)⟩
          case measure => simp [intOf]; omega
      · have h1 : (c.toNat : Int) < 65 := by assumption
        refine (Tryd.strings_IndexByte _ _ _).mono ?_
        rintro e w' ⟨rfl, rfl⟩
        rw [H2.out (by omega)]
        go_wp2_with fail
        · go_ret2
          exact ⟨done_neg hd HD.out (by assumption), ((Below.refl _ _).alloc (Nat.le_refl _) _).drew⟩
        · go_round
          case rel => exact ⟨k + 1, _, by omega, by go_num, rfl, done_pos hd HD.out (by assumption)⟩
          case measure => simp [intOf]; omega
    · go_wp2_with fail
      go_ret2
      exact ⟨done_end hd (by rw [HL.out]; omega), ((Below.refl _ _).alloc (Nat.le_refl _) _).drew⟩
end Go.Proofs.YtlbgnpllbogkeaaDoor.Ext
