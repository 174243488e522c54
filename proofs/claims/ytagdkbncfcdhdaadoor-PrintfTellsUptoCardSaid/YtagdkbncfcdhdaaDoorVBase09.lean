/- Proved: number.digits' call tells the number of a text of digits of a base (0 to 16), modulo 2 to the 64, or that it is none; strings.IndexByte's call by the shelf's contract. Conditions: the base is 0 to 16; the text is shorter than 2 to the 63. Proved: number.Print's call tells a number's decimal digits. Condition: the number is an int's. Proved: strings.Trim's call at a set of ASCII octets tells the text without those octets at its ends (the shelf's contract in the print's form). Condition: the text is shorter than 2 to the 63. strings.Repeat in the print's form. Condition: what comes out is of at most 10 to the 9 octets. Proved: what (*strings.Builder).copyCheck and WriteByte do at this translation (where the cut writes copyCheck's panic as a refusal, so that the shelf's body is another): the forms of the shelf's '_k', over Lib.IsBuilderF. Condition of WriteByte: fewer than 2 to the 47 octets. What (*strings.Builder).WriteString does at this translation, in the shelf's form '_k'. Condition: fewer than 2 to the 47 octets. -/
import Derived.Test.YtagdkbncfcdhdaaDoorProg
import Derived.Test.YtagdkbncfcdhdaaDoorVWWords
import Derived.Test.YtagdkbncfcdhdaaDoorVShelf
import Derived.WalkKit
import Derived.WalkSpells
import Derived.WalkLawsBesides
import Derived.Outline
import Derived.LoopTactic
import Derived.Deep.LoopGhost
import Derived.Lib.ConvBytes
import Derived.Laws.IdiomStrings
import Derived.Lib.Hide
import Derived.Laws.Rows
import Derived.Laws.CopyOwn
import Derived.Lib.LazyBuf
import Derived.Laws.BytesArg
import Derived.Shelf.Strings.SlTrimAscii
import Derived.Shelf.Strings.Builder1
import Derived.Shelf.Strings.BuilderK
section
set_option maxRecDepth 100000
namespace Go.Proofs.YtagdkbncfcdhdaaDoor.Ext
open Go.RowKit Go.Proofs.YtagdkbncfcdhdaaDoorW.PrintWords
def strings_IndexByte.f (a0 : ByteArray) (a1 : Int) : Option Int := some (Lib.indexByte a0.data.toList a1.toNat.toUInt8)
theorem strings_IndexByte.calls (a0 : ByteArray) (a1 : Int) (r : Int) (w : World) (h : strings_IndexByte.f a0 a1 = some r) :
    Calls Tryd.prog 33 #[.string a0, .int .u8 a1] w fun e w' => e = .returned (.int .i64 r) ∧ Drawn0 w w' := by
  obtain rfl := Option.some.inj h
  refine (Tryd.strings_IndexByte a0 a1 w).mono ?_
  rintro e w' ⟨he, rfl⟩
  exact ⟨he, Drawn0.refl _⟩
def hexes : ByteArray := ⟨#[48, 49, 50, 51, 52, 53, 54, 55, 56, 57, 97, 98, 99, 100, 101, 102]⟩
/-- One octet as a digit of a base; below 0: it is none. -/
def digitOf (base : Int) (c : Int) : Int :=
  Lib.indexByte ((hexes.extract 0 base.toNat).data.toList) ((if 65 ≤ c ∧ c ≤ 70 then Go.bits .or .u8 c 32 else c).toNat.toUInt8)
def digitsGo (base : Int) : List UInt8 → Int → Option Int
  | [], n => some n
  | c :: cs, n => if digitOf base c.toNat < 0 then none else digitsGo base cs (IntKind.u64.wrap (IntKind.u64.wrap (n * base) + digitOf base c.toNat))
def number_digits.f (a0 : ByteArray) (a1 : Int) : Option (Int × Bool) :=
  if 0 ≤ a1 ∧ a1 ≤ 16 ∧ a0.size ≤ 9223372036854775807 then
    match digitsGo a1 a0.data.toList 0 with
    | none => some (0, false)
    | some n => some (n, !a0.toList.isEmpty)
  else none
theorem cell_conv (w : World) (e : TypeId) (s : ByteArray) (cap : Nat) (fr : Nat × Nat) (j : Nat) (hj : j < s.size) :
    ((w.alloc (.cells (bytesRow s cap) e fr)).drew).cell? ⟨w.heap.size, j, none⟩ = some (.int .u8 (s.data.toList.getD j 0).toNat) := by
  have h1 : ((w.alloc (.cells (bytesRow s cap) e fr)).drew).heap[w.heap.size]? = some (.cells (bytesRow s cap) e fr) := heap_alloc_new w _
  have h2 := bytesRow_at s cap j hj
  have h3 : s.data.toList.getD j 0 = s.data[j] := by
    rw [List.getD_eq_getElem?_getD, List.getElem?_eq_getElem (by simpa using hj)]
    simp
  rw [h3]
  unfold World.cell?
  rw [h1]
  exact h2
theorem digitsGo_cons (base : Int) (l : List UInt8) (k : Nat) (hk : k < l.length) (n : Int) :
    digitsGo base (l.drop k) n = if digitOf base (l.getD k 0).toNat < 0 then none else digitsGo base (l.drop (k + 1)) (IntKind.u64.wrap (IntKind.u64.wrap (n * base) + digitOf base (l.getD k 0).toNat)) := by
  rw [List.drop_eq_getElem_cons hk, digitsGo, List.getD_eq_getElem?_getD, List.getElem?_eq_getElem hk]
  rfl
def Done (base : Int) (s : ByteArray) (r1 : Int) (r2 : Bool) (k : Nat) (n : Int) : Prop :=
  (match digitsGo base (s.data.toList.drop k) n with | none => ((0 : Int), false) | some n => (n, !s.toList.isEmpty)) = (r1, r2)
theorem digit_low (a1 c : Int) (h1 : 65 ≤ c) (h2 : c ≤ 70) : Lib.indexByte (((⟨#[48, 49, 50, 51, 52, 53, 54, 55, 56, 57, 97, 98, 99, 100, 101, 102]⟩ : ByteArray).extract 0 a1.toNat).data.toList) (Go.bits .or .u8 c 32).toNat.toUInt8 = digitOf a1 c := by
  unfold digitOf
  rw [if_pos ⟨h1, h2⟩]
  rfl
theorem digit_as (a1 c : Int) (h1 : ¬ (65 ≤ c ∧ c ≤ 70)) : Lib.indexByte (((⟨#[48, 49, 50, 51, 52, 53, 54, 55, 56, 57, 97, 98, 99, 100, 101, 102]⟩ : ByteArray).extract 0 a1.toNat).data.toList) c.toNat.toUInt8 = digitOf a1 c := by
  unfold digitOf
  rw [if_neg h1]
  rfl
theorem idx_le (l : List UInt8) (c : UInt8) : Lib.indexByte l c ≤ l.length := by
  induction l with
  | nil => simp [Lib.indexByte]
  | cons b l ih =>
    simp only [Lib.indexByte, List.length_cons]
    split
    · omega
    · split <;> omega
theorem digit_le (a1 c : Int) : digitOf a1 c ≤ 16 := by
  unfold digitOf
  refine Int.le_trans (idx_le _ _) ?_
  have h : (hexes.extract 0 a1.toNat).size ≤ 16 := by
    rw [ByteArray.size_extract]
    have : hexes.size = 16 := rfl
    omega
  simp only [Array.length_toList, ByteArray.size_data]
  omega
theorem done_neg {a1 : Int} {a0 : ByteArray} {r1 : Int} {r2 : Bool} {k : Nat} {m d x : Int} (h : Done a1 a0 r1 r2 k m)
    (e : digitsGo a1 (a0.data.toList.drop k) m = if d < 0 then none else digitsGo a1 (a0.data.toList.drop (k + 1)) x) (hd : d < 0) :
    Ending.returned (.tuple #[.int .u64 0, .bool false]) = Ending.returned (.tuple #[.int .u64 r1, .bool r2]) := by
  unfold Done at h
  rw [e, if_pos hd] at h
  cases h
  rfl
theorem done_pos {a1 : Int} {a0 : ByteArray} {r1 : Int} {r2 : Bool} {k : Nat} {m d x : Int} (h : Done a1 a0 r1 r2 k m)
    (e : digitsGo a1 (a0.data.toList.drop k) m = if d < 0 then none else digitsGo a1 (a0.data.toList.drop (k + 1)) x) (hd : 0 ≤ d) :
    Done a1 a0 r1 r2 (k + 1) x := by
  unfold Done at h ⊢
  rw [e, if_neg (by omega)] at h
  exact h
theorem done_end {a1 : Int} {a0 : ByteArray} {r1 : Int} {r2 : Bool} {m : Int} {k : Nat} (h : Done a1 a0 r1 r2 k m) (hk : a0.data.toList.length ≤ k) :
    Ending.returned (.tuple #[.int .u64 m, .bool !a0.toList.isEmpty]) = Ending.returned (.tuple #[.int .u64 r1, .bool r2]) := by
  unfold Done at h
  rw [List.drop_of_length_le hk] at h
  cases h
  rfl
theorem number_digits.calls (a0 : ByteArray) (a1 : Int) (r1 : Int) (r2 : Bool) (w : World) (h : number_digits.f a0 a1 = some (r1, r2)) :
    Calls Tryd.prog 61 #[.string a0, .int .i64 a1] w fun e w' => e = .returned (.tuple #[.int .u64 r1, .bool r2]) ∧ Below w.heap.size w w' := by
  unfold number_digits.f at h
  split at h
  case isFalse => cases h
  rename_i hb
  obtain ⟨hb0, hb1, hsz⟩ := hb
  have hd : Done a1 a0 r1 r2 0 0 := by
    unfold Done
    rw [List.drop_zero]
    split at h <;> simp_all
  clear h
  have hconv := run_bytes_of_string (P := Tryd.prog) w 9 27 5 a0 Tryd.underlying9 Tryd.underlying27 Tryd.underlying5
  generalize hcap : grownCap w a0.size 0 5 = cap at hconv
  clear hcap
  have hcell := cell_conv w 5 a0 cap ((bytesRow a0 cap).size, (bytesRow a0 cap).size + 1)
  generalize (bytesRow a0 cap) = C at hconv hcell
  have HC := Lib.hid hcell
  clear hcell
  have hln : a0.data.toList.length = a0.size := by simp
  have HL := Lib.hid hln
  clear hln
  go_enter Tryd.func61, Tryd.ntmps61
  go_wp2_with fail
  go_loop [6, 13] (fun n i => ∃ (k : Nat) (m : Int), k ≤ a0.size ∧ i = .int .i64 k ∧ n = .int .u64 m ∧ Done a1 a0 r1 r2 k m) (fun _ i => a0.size - (intOf i).toNat)
  case atStart => exact ⟨0, 0, Nat.zero_le _, rfl, rfl, hd⟩
  case round =>
    clear hd
    obtain ⟨k, m, hk, rfl, rfl, hd⟩ := hrel
    by_cases hlt : k < a0.size
    · have hc := HC.out k hlt
      have hdg := digitsGo_cons a1 a0.data.toList k (by rw [HL.out]; exact hlt) m
      generalize hcc : (a0.data.toList.getD k 0) = c at *
      have hdl := digit_le a1 c.toNat
      have H1 := Lib.hid (digit_low a1 c.toNat)
      have H2 := Lib.hid (digit_as a1 c.toNat)
      generalize hdd : digitOf a1 (c.toNat : Int) = d at *
      have HD := Lib.hid hdg
      clear hdg hcc hdd
      go_wp2_with fail
      · have h1 : 65 ≤ (c.toNat : Int) := by assumption
        have h2 : (c.toNat : Int) ≤ 70 := by assumption
        refine (Tryd.strings_IndexByte _ _ _).mono ?_
        rintro e w' ⟨rfl, rfl⟩
        rw [H1.out h1 h2]
        go_wp2_with fail
        · go_ret2
          exact ⟨done_neg hd HD.out (by assumption), ((Below.refl _ _).alloc (Nat.le_refl _) _).drew⟩
        · go_round
          case rel => exact ⟨k + 1, _, by omega, by go_num, rfl, done_pos hd HD.out (by assumption)⟩
          case measure => simp [intOf]; omega
      · have h1 : 70 < (c.toNat : Int) := by assumption
        refine (Tryd.strings_IndexByte _ _ _).mono ?_
        rintro e w' ⟨rfl, rfl⟩
        rw [H2.out (by omega)]
        go_wp2_with fail
        · go_ret2
          exact ⟨done_neg hd HD.out (by assumption), ((Below.refl _ _).alloc (Nat.le_refl _) _).drew⟩
        · go_round
          case rel => exact ⟨k + 1, _, by omega, by go_num, rfl, done_pos hd HD.out (by assumption)⟩
          case measure => simp [intOf]; omega
      · have h1 : (c.toNat : Int) < 65 := by assumption
        refine (Tryd.strings_IndexByte _ _ _).mono ?_
        rintro e w' ⟨rfl, rfl⟩
        rw [H2.out (by omega)]
        go_wp2_with fail
        · go_ret2
          exact ⟨done_neg hd HD.out (by assumption), ((Below.refl _ _).alloc (Nat.le_refl _) _).drew⟩
        · go_round
          case rel => exact ⟨k + 1, _, by omega, by go_num, rfl, done_pos hd HD.out (by assumption)⟩
          case measure => simp [intOf]; omega
    · go_wp2_with fail
      go_ret2
      exact ⟨done_end hd (by rw [HL.out]; omega), ((Below.refl _ _).alloc (Nat.le_refl _) _).drew⟩
end Go.Proofs.YtagdkbncfcdhdaaDoor.Ext
end
section
set_option maxRecDepth 100000
namespace Go.Proofs.YtagdkbncfcdhdaaDoor.Ext
open Go.RowKit Go.Proofs.YtagdkbncfcdhdaaDoorW.PrintWords
/-- The decimal digits of a number. -/
def decs (n : Nat) : List UInt8 := if n < 10 then [(48 + n).toUInt8] else decs (n / 10) ++ [(48 + n % 10).toUInt8]
termination_by n
decreasing_by omega
def decsInt (n : Int) : List UInt8 := if n < 0 then 45 :: decs n.natAbs else decs n.natAbs
def number_Print.f (a0 : Int) : Option ByteArray := if -9223372036854775808 ≤ a0 ∧ a0 ≤ 9223372036854775807 then some ⟨(decsInt a0).toArray⟩ else none
/-- What the buffer holds ahead of a round: q + 1 places are free; m is what is left of M; s places are kept. -/
def PrInv (s : Nat) (w : World) (M : Nat) (wr : World) (q m : Nat) : Prop :=
  q ≤ 19 ∧ s ≤ q ∧ m < 10 ^ (q + 1 - s) ∧ Below w.heap.size w wr ∧ w.heap.size < wr.heap.size ∧ ∃ (cs : Array Value) (suf : List UInt8),
    cs.size = 20 ∧ wr.heap[w.heap.size]? = some (.cells cs 90 (0, 0)) ∧ suf.length = 19 - q ∧
    (∀ j, j < suf.length → cs[q + 1 + j]? = some (.int .u8 (suf.getD j 0).toNat)) ∧ decs M = decs m ++ suf
/-- What it holds in the end: the text's octets from q on. -/
def PrEnd (s : Nat) (w : World) (l : List UInt8) (wr : World) (q : Nat) : Prop :=
  q ≤ 19 ∧ s ≤ q ∧ Below w.heap.size w wr ∧ w.heap.size < wr.heap.size ∧ l.length = 20 - q ∧ ∃ (cs : Array Value),
    cs.size = 20 ∧ wr.heap[w.heap.size]? = some (.cells cs 90 (0, 0)) ∧ (∀ j, j < l.length → cs[q + j]? = some (.int .u8 (l.getD j 0).toNat))
theorem cell_blk {wr : World} {B j : Nat} {cs : Array Value} {T : TypeId} (hh : wr.heap[B]? = some (.cells cs T (0, 0))) (hj : j < cs.size) :
    (∃ x, wr.cell? ⟨B, j, none⟩ = some x) ∧ wr.frozen? ⟨B, j, none⟩ = false := by
  constructor
  · unfold World.cell?
    rw [hh]
    exact ⟨cs[j], Array.getElem?_eq_getElem (by exact hj)⟩
  · unfold World.frozen?
    rw [hh]
    simp
theorem PrInv.cell {s : Nat} {w : World} {M : Nat} {wr : World} {q m : Nat} (h : PrInv s w M wr q m) : (∃ x, wr.cell? ⟨w.heap.size, q, none⟩ = some x) ∧ wr.frozen? ⟨w.heap.size, q, none⟩ = false := by
  obtain ⟨hq, _, _, _, _, cs, suf, hs, hh, _⟩ := h
  exact cell_blk hh (by omega)
theorem PrEnd.cell {s : Nat} {w : World} {l : List UInt8} {wr : World} {q : Nat} (h : PrEnd s w l wr q) (j : Nat) (hj : j ≤ 19) : (∃ x, wr.cell? ⟨w.heap.size, j, none⟩ = some x) ∧ wr.frozen? ⟨w.heap.size, j, none⟩ = false := by
  obtain ⟨hq, _, _, _, _, cs, hs, hh, _⟩ := h
  exact cell_blk hh (by omega)
theorem setAt (cs : Array Value) (q j : Nat) (v : Value) (h : q ≠ j) : (cs.setIfInBounds q v)[j]? = cs[j]? := by
  rw [Array.getElem?_setIfInBounds_ne h]
theorem PrEnd.put {s : Nat} {w : World} {l : List UInt8} {wr : World} {q : Nat} (cs : Array Value) (hq : q ≤ 19) (hsq : s ≤ q) (hb : Below w.heap.size w wr) (hz : w.heap.size < wr.heap.size)
    (hs : cs.size = 20) (hh : wr.heap[w.heap.size]? = some (.cells cs 90 (0, 0))) (hl : l.length = 19 - q) (hc : ∀ j, j < l.length → cs[q + 1 + j]? = some (.int .u8 (l.getD j 0).toNat)) (d : UInt8) :
    PrEnd s w (d :: l) (wr.setCell ⟨w.heap.size, q, none⟩ (.int .u8 d.toNat)) q := by
  refine ⟨hq, hsq, hb.setCell (Nat.le_refl _) _, by simpa [World.setCell] using hz, by simp only [List.length_cons]; omega, cs.setIfInBounds q (.int .u8 d.toNat), by simpa using hs, heap_setCell_same _ _ _ _ _ _ hh, fun j hj => ?_⟩
  match j with
  | 0 => simp [hs, show q < 20 by omega]
  | j + 1 =>
    rw [setAt _ _ _ _ (by omega), show q + (j + 1) = q + 1 + j by omega, hc j (by simpa using hj)]
    simp
theorem digit_byte (m : Nat) : ((48 + m % 10).toUInt8).toNat = 48 + m % 10 := by
  rw [UInt8.toNat_ofNat']
  omega
theorem PrInv.fin {s : Nat} {w : World} {M : Nat} {wr : World} {q m : Nat} (h : PrInv s w M wr q m) (h0 : (m : Int) / 10 = 0) :
    PrEnd s w (decs M) (wr.setCell ⟨w.heap.size, q, none⟩ (.int .u8 (48 + (m : Int) % 10))) q := by
  obtain ⟨hq, hsq, hm, hb, hz, cs, suf, hs, hh, hl, hc, hd⟩ := h
  have hm10 : m < 10 := by omega
  rw [hd, decs, if_pos hm10]
  have h2 := PrEnd.put (s := s) cs hq hsq hb hz hs hh hl hc (48 + m % 10).toUInt8
  rw [digit_byte, Nat.mod_eq_of_lt hm10] at h2
  rw [show (48 + (m : Int) % 10) = ((48 + m : Nat) : Int) by omega]
  exact h2
theorem PrInv.next {s : Nat} {w : World} {M : Nat} {wr : World} {q m : Nat} (h : PrInv s w M wr q m) (h0 : ¬ (m : Int) / 10 = 0) :
    ∃ q', q = q' + 1 ∧ PrInv s w M (wr.setCell ⟨w.heap.size, q, none⟩ (.int .u8 (48 + (m : Int) % 10))) q' (m / 10) := by
  obtain ⟨hq, hsq, hm, hb, hz, cs, suf, hs, hh, hl, hc, hd⟩ := h
  have hm10 : ¬ m < 10 := by omega
  have hlt : s < q := by
    rcases Nat.lt_or_ge s q with h | h
    · exact h
    · have : q + 1 - s = 1 := by omega
      rw [this] at hm
      omega
  obtain ⟨q, rfl⟩ : ∃ k, q = k + 1 := ⟨q - 1, by omega⟩
  refine ⟨q, rfl, ?_⟩
  obtain ⟨_, _, e3, e4, e5, cs', e6, e7, e8⟩ := PrEnd.put (s := s) cs hq hsq hb hz hs hh hl hc (48 + m % 10).toUInt8
  rw [digit_byte, show ((48 + m % 10 : Nat) : Int) = 48 + (m : Int) % 10 by omega] at e3 e4 e7
  refine ⟨by omega, by omega, ?_, e3, e4, cs', (48 + m % 10).toUInt8 :: suf, e6, e7, by rw [e5]; omega, e8, ?_⟩
  · rw [show q + 1 + 1 - s = (q + 1 - s) + 1 by omega, Nat.pow_succ] at hm
    omega
  · rw [hd, decs, if_neg hm10]
    simp
theorem cut20 (B q : Nat) (hq : q ≤ 19) (W : World) :
    (Instr.sliceAt 90 (.pointer (some ⟨B, 0, none⟩)) (some (.int .i64 (q : Int))) none none).run Tryd.prog W = .ok (.slice (some ⟨B, q, none⟩) (20 - q) (20 - q)) W := by
  have h1 : Tryd.prog.arrayLen 90 = 20 := by kernel_rfl
  have h2 : Tryd.prog.elem 90 = 5 := by kernel_rfl
  have h3 : ∀ W, (sizeOf 5).run Tryd.prog W = .ok 1 W := fun W => by kernel_rfl
  rw [run_sliceAt_array_l W 90 _ (by rw [h1, h2]; exact Tryd.underlying90) .i64 q (by omega) (by rw [h1]; omega), h1, h2, h3]
  simp only [Result.andThen_ok, slicedAt, Int.toNat_natCast]
  rw [if_neg (by omega)]
  simp [Addr.add]
  omega
theorem strOf_map (l : List UInt8) : strOfNums (l.map fun x => (x.toNat : Int)) = ⟨l.toArray⟩ := by
  simp [strOfNums, List.map_map, Function.comp_def]
/-- The octets as a text. -/
theorem PrEnd.text {s : Nat} {w : World} {l : List UInt8} {wr : World} {q : Nat} (h : PrEnd s w l wr q) :
    (convert 27 9 (.slice (some ⟨w.heap.size, q, none⟩) (20 - q) (20 - q))).run Tryd.prog wr = .ok (.string ⟨l.toArray⟩) wr := by
  obtain ⟨hq, _, _, _, hl, cs, hs, hh, hc⟩ := h
  have := run_convert_bytes_arg (P := Tryd.prog) wr 27 5 Tryd.underlying27 Tryd.underlying5 w.heap.size q (20 - q) (20 - q) (l.map fun x => (x.toNat : Int)) (by simpa using hl) (fun i hi => by
    unfold World.cell?
    rw [hh]
    show cs[q + i]? = _
    rw [hc i (by omega)]
    simp [List.getD_eq_getElem?_getD, List.getElem?_eq_getElem (show i < l.length by omega)]) 9 Tryd.underlying9
  rw [this, strOf_map]
theorem PrInv.start (s : Nat) (w : World) (M : Nat) (hs : s ≤ 19) (hM : M < 10 ^ (20 - s)) (cs : Array Value) (hcs : cs.size = 20) :
    PrInv s w M (w.alloc (.cells cs 90)) 19 M :=
  ⟨Nat.le_refl _, hs, hM, (Below.refl _ _).alloc (Nat.le_refl _) _, by simp, cs, [], hcs, heap_alloc_new _ _, rfl, fun j hj => absurd hj (by simp), by simp⟩
theorem copy_minus (B q : Nat) (hq : q ≤ 19) (W : World) (hc : ∃ x, W.cell? ⟨B, q, none⟩ = some x) (hf : W.frozen? ⟨B, q, none⟩ = false) :
    (Builtin.copy_ #[27, 9] 3 #[.slice (some ⟨B, q, none⟩) (20 - q) (20 - q), .string ⟨#[45]⟩]).run Tryd.prog W = .ok (goInt 1) (W.setCell ⟨B, q, none⟩ (.int .u8 45)) := by
  obtain ⟨x, hx⟩ := hc
  have h3 : ∀ W, (sizeOf 5).run Tryd.prog W = .ok 1 W := fun W => by kernel_rfl
  exact run_copy_string (P := Tryd.prog) W 27 9 3 5 B q (20 - q) (20 - q) ⟨#[45]⟩ Tryd.underlying27 h3 (by show 1 ≤ _; omega)
    (fun j hj => by obtain rfl : j = 0 := by (have : j < 1 := hj); omega
                    rw [Nat.add_zero, hx]; rfl)
    (fun j hj => by obtain rfl : j = 0 := by (have : j < 1 := hj); omega
                    exact hf)
theorem PrEnd.minus {w : World} {l : List UInt8} {wr : World} {q : Nat} (h : PrEnd 1 w l wr (q + 1)) :
    PrEnd 0 w (45 :: l) (wr.setCell ⟨w.heap.size, q, none⟩ (.int .u8 45)) q := by
  obtain ⟨hq, _, hb, hz, hl, cs, hs, hh, hc⟩ := h
  exact PrEnd.put (s := 0) cs (by omega) (Nat.zero_le _) hb hz hs hh (by omega) hc 45
theorem ret_str {a b : ByteArray} (h : a = b) : Ending.returned (.string a) = Ending.returned (.string b) := by rw [h]
theorem number_Print.calls (a0 : Int) (r : ByteArray) (w : World) (h : number_Print.f a0 = some r) :
    Calls Tryd.prog 54 #[.int .i64 a0] w fun e w' => e = .returned (.string r) ∧ Below w.heap.size w w' := by
  unfold number_Print.f at h
  split at h
  case isFalse => cases h
  rename_i hb
  obtain ⟨hb0, hb1⟩ := hb
  by_cases hn : a0 < 0
  · obtain ⟨M, hM⟩ : ∃ M, a0.natAbs = M := ⟨_, rfl⟩
    have hr : (⟨(45 :: decs M).toArray⟩ : ByteArray) = r := by
      unfold decsInt at h
      rw [if_pos hn, hM] at h
      simpa using h
    clear h
    have HR := Lib.hid hr
    clear hr
    have hwr : IntKind.u64.wrap (-IntKind.u64.wrap a0) = (M : Int) := by
      rw [IntKind.wrap_u64, IntKind.wrap_u64]
      omega
    have hml : M ≤ 9223372036854775808 := by omega
    clear hM
    go_enter Tryd.func54, Tryd.ntmps54
    go_wp2_with fail
    go_loopw [3, 5] (fun s a wr => ∃ (m q : Nat), s = .int .u64 m ∧ a = .int .i64 ((q : Int) + 1) ∧ m ≤ 9223372036854775808 ∧ PrInv 1 w M wr q m) (fun s _ _ => (intOf s).toNat)
    case atStart => exact ⟨M, 19, rfl, rfl, hml, PrInv.start 1 w M (by omega) (by omega) _ rfl⟩
    case round =>
      obtain ⟨m, q, rfl, rfl, hm, hi⟩ := hrel
      obtain ⟨⟨x, hc⟩, hf⟩ := hi.cell
      have hq : q ≤ 19 := hi.1
      by_cases h0 : (m : Int) / 10 = 0
      · have he := hi.fin h0
        obtain ⟨q, rfl⟩ : ∃ k, q = k + 1 := ⟨q - 1, by have := hi.2.1; omega⟩
        have hsl := cut20 w.heap.size q (by omega)
        have hcp := copy_minus w.heap.size q (by omega) _ (he.cell q (by omega)).1 (he.cell q (by omega)).2
        have he2 := he.minus
        have ht := he2.text
        have HE := Lib.hid he2
        have HT := Lib.hid ht
        have h0b : (((m : Int) / 10) == 0) = true := by simpa using h0
        have HCP := Lib.hid hcp
        clear he hi ht h0 hcp he2
        go_wp2_with fail
        rw [HCP.out]
        go_wp2_with fail
        rw [HT.out]
        go_wp2_with fail
        go_ret
        exact ⟨ret_str HR.out, HE.out.2.2.1⟩
      · obtain ⟨q', e, hi'⟩ := hi.next h0
        have h0b : (((m : Int) / 10) == 0) = false := by simpa using h0
        have HE := Lib.hid e
        clear e hi h0
        have HI := Lib.hid hi'
        clear hi'
        go_wp2_with fail
        go_roundw
        case rel => exact ⟨m / 10, q', by go_num, by rw [HE.out]; go_num, by omega, HI.out⟩
        case measure => simp [intOf] at h0b ⊢; omega
  · obtain ⟨M, rfl⟩ := Int.eq_ofNat_of_zero_le (show 0 ≤ a0 by omega)
    have hr : (⟨(decs M).toArray⟩ : ByteArray) = r := by
      unfold decsInt at h
      rw [if_neg hn] at h
      simpa using h
    clear h
    have HR := Lib.hid hr
    clear hr
    go_enter Tryd.func54, Tryd.ntmps54
    go_wp2_with fail
    go_loopw [3, 5] (fun s a wr => ∃ (m q : Nat), s = .int .u64 m ∧ a = .int .i64 ((q : Int) + 1) ∧ m ≤ 9223372036854775807 ∧ PrInv 0 w M wr q m) (fun s _ _ => (intOf s).toNat)
    case atStart => exact ⟨M, 19, rfl, rfl, by omega, PrInv.start 0 w M (by omega) (by omega) _ rfl⟩
    case round =>
      obtain ⟨m, q, rfl, rfl, hm, hi⟩ := hrel
      obtain ⟨⟨x, hc⟩, hf⟩ := hi.cell
      have hq : q ≤ 19 := hi.1
      have hsl := cut20 w.heap.size q hq
      by_cases h0 : (m : Int) / 10 = 0
      · have he := hi.fin h0
        have ht := he.text
        have HE := Lib.hid he
        have HT := Lib.hid ht
        have h0b : (((m : Int) / 10) == 0) = true := by simpa using h0
        clear he hi ht h0
        go_wp2_with fail
        rw [HT.out]
        go_wp2_with fail
        go_ret
        exact ⟨ret_str HR.out, HE.out.2.2.1⟩
      · obtain ⟨q', e, hi'⟩ := hi.next h0
        have h0b : (((m : Int) / 10) == 0) = false := by simpa using h0
        have HE := Lib.hid e
        clear e hi h0
        have HI := Lib.hid hi'
        clear hi'
        go_wp2_with fail
        go_roundw
        case rel => exact ⟨m / 10, q', by go_num, by rw [HE.out]; go_num, by omega, HI.out⟩
        case measure => simp [intOf] at h0b ⊢; omega
end Go.Proofs.YtagdkbncfcdhdaaDoor.Ext
end
section
namespace Go.Proofs.YtagdkbncfcdhdaaDoor.Ext
open Go.RowKit Go.Proofs.YtagdkbncfcdhdaaDoorW.PrintWords
def strings_Trim.f (a0 a1 : ByteArray) : Option ByteArray :=
  if a0.size ≤ 9223372036854775807 ∧ a1.size < 4294967281 ∧ a1.data.toList.all (fun b => b.toNat < 128) = true then some ⟨(Lib.trimS a0.data.toList a1.data.toList).toArray⟩ else none
theorem strings_Trim.calls (a0 a1 : ByteArray) (r : ByteArray) (w : World) (h : strings_Trim.f a0 a1 = some r) :
    Calls Tryd.prog 60 #[.string a0, .string a1] w fun e w' => e = .returned (.string r) ∧ Below w.heap.size w w' := by
  unfold strings_Trim.f at h
  split at h
  case isFalse => cases h
  rename_i hc
  obtain rfl := Option.some.inj h
  refine (Any.strings_Trim_laid Tryd.lays160 (by kernel_rfl) a0 a1 w hc.1 hc.2.1 (fun j b hj => ?_)).mono ?_
  · have := List.all_eq_true.1 hc.2.2 b (List.mem_of_getElem? hj)
    simpa using this
  · rintro e w' ⟨he, hb⟩
    exact ⟨he, hb⟩
end Go.Proofs.YtagdkbncfcdhdaaDoor.Ext
end
section
namespace Go.Proofs.YtagdkbncfcdhdaaDoor.Ext
open Go.RowKit Go.Proofs.YtagdkbncfcdhdaaDoorW.PrintWords
theorem wrap_mod256 (x : Int) : wrap64 (x % 256) = x % 256 := by unfold wrap64; omega
def strings_Repeat.f (a0 : ByteArray) (a1 : Int) : Option ByteArray :=
  if 0 ≤ a1 ∧ a1 ≤ 1000000000 ∧ a0.size * a1.toNat ≤ 1000000000 then some ⟨(Lib.repeatL a0.data.toList a1.toNat).toArray⟩ else none
theorem strings_Repeat.calls (a0 : ByteArray) (a1 : Int) (r : ByteArray) (w : World) (h : strings_Repeat.f a0 a1 = some r) :
    Calls Tryd.prog 47 #[.string a0, .int .i64 a1] w fun e w' => e = .returned (.string r) ∧ Below w.heap.size w w' := by
  unfold strings_Repeat.f at h
  split at h
  case isFalse => cases h
  next hc =>
  obtain ⟨h0, h1, h2⟩ := hc
  injection h with h
  subst h
  obtain ⟨n, rfl⟩ := Int.eq_ofNat_of_zero_le h0
  exact Tryd.strings_Repeat a0 n w (by omega) (by rw [Int.toNat_natCast] at h2; omega)
end Go.Proofs.YtagdkbncfcdhdaaDoor.Ext
end
section
namespace Go.Proofs.YtagdkbncfcdhdaaDoor.Ext
open Go.RowKit Go.Proofs.YtagdkbncfcdhdaaDoorW.PrintWords
set_option maxHeartbeats 2000000 in
set_option maxRecDepth 100000 in
theorem copyCheck_used (b : Nat) (w : World) (h0 : w.cell? ⟨b, 0, none⟩ = some (.pointer (some ⟨b, 0, none⟩))) :
    Calls Tryd.prog 34 #[.pointer (some ⟨b, 0, none⟩)] w fun e w' => e = .returned (.tuple #[]) ∧ w' = w := by
  obtain ⟨j, hj, _⟩ := Option.map_eq_some_iff.1 (show (Tryd.prog.info? 41).map (·.size) = some 2 by kernel_rfl)
  go_enter Tryd.func34, Tryd.ntmps34
  go_wp2
  rw [Lib.run_neq_ptr_same w _ Tryd.underlying39 hj]
  go_wp2
  go_end0
  exact ⟨rfl, rfl⟩
set_option maxHeartbeats 2000000 in
set_option maxRecDepth 100000 in
theorem copyCheck_fresh (b : Nat) (w : World) (h0 : w.cell? ⟨b, 0, none⟩ = some (.pointer none)) (hsh : w.shape? b = some (41, 2)) (hfz : w.frozen? ⟨b, 0, none⟩ = false) :
    Calls Tryd.prog 34 #[.pointer (some ⟨b, 0, none⟩)] w fun e w' => e = .returned (.tuple #[]) ∧ w' = w.setCell ⟨b, 0, none⟩ (.pointer (some ⟨b, 0, none⟩)) := by
  obtain ⟨j, hj, hjs⟩ := Option.map_eq_some_iff.1 (show (Tryd.prog.info? 41).map (·.size) = some 2 by kernel_rfl)
  have hlies : liesAt Tryd.prog Tryd.prog.depth 41 (2 / Tryd.prog.cellsOf 41) 0 41 1 = true := by kernel_rfl
  go_enter Tryd.func34, Tryd.ntmps34
  go_wp2
  rw [Lib.run_to_unsafe w ⟨b, 0, none⟩ Tryd.underlying39 Tryd.underlying71 hj (by rw [hjs]; decide) hsh (Nat.zero_lt_succ 1)]
  simp only [Result.andThen]
  rw [Oper.upon_value]
  go_wp2
  rw [run_callFunc_extern Tryd.func40 (by kernel_rfl) (by kernel_rfl) (by kernel_rfl) (e := Extern.AbiNoEscape.same) (by kernel_rfl)]
  rw [Lib.run_noEscape]
  simp only [Result.andThen]
  rw [Oper.upon_value]
  go_wp2
  rw [Lib.run_from_unsafe w ⟨b, 0, none⟩ Tryd.underlying71 Tryd.underlying39 hj hsh hlies]
  simp only [Result.andThen]
  rw [Oper.upon_value]
  go_wp2
  go_end0
  exact ⟨rfl, rfl⟩
theorem copyCheck (B b : Nat) (bs : List Value) (w : World) (h : Lib.IsBuilderF 41 5 B b bs w) :
    Calls Tryd.prog 34 #[.pointer (some ⟨b, 0, none⟩)] w fun e w' => e = .returned (.tuple #[]) ∧ (Lib.BuilderAtF 41 5 B b (.pointer (some ⟨b, 0, none⟩)) bs w' ∧ Below B w w' ∧ Lib.OthersKept 5 (some b) w w') := by
  rcases h with h | h
  · refine (copyCheck_fresh b w h.cell0 h.shape h.frozen0).mono ?_
    rintro e w' ⟨rfl, rfl⟩
    exact ⟨rfl, h.used _, (Below.refl B w).setCell (p := ⟨b, 0, none⟩) h.1 _, (Lib.OthersKept.refl _ _ w).setCell ⟨b, 0, none⟩ rfl _⟩
  · refine (copyCheck_used b w h.cell0).mono ?_
    rintro e w' ⟨rfl, rfl⟩
    exact ⟨rfl, h, Below.refl B _, Lib.OthersKept.refl _ _ _⟩
end Go.Proofs.YtagdkbncfcdhdaaDoor.Ext
end
section
namespace Go.Proofs.YtagdkbncfcdhdaaDoor.Ext
open Go.RowKit Go.Proofs.YtagdkbncfcdhdaaDoorW.PrintWords
set_option maxHeartbeats 4000000 in
set_option maxRecDepth 100000 in
theorem WriteString (B b : Nat) (bs : List Value) (s : ByteArray) (w : World) (h : Lib.IsBuilderF 41 5 B b bs w) (hlen : bs.length + s.size ≤ 140737488355328) (hBw : B ≤ w.heap.size) :
    Calls Tryd.prog 24 #[.pointer (some ⟨b, 0, none⟩), .string s] w fun e w' => e = .returned (.tuple #[.int .i64 s.size, .nilIface]) ∧ (Lib.BuilderAtF 41 5 B b (.pointer (some ⟨b, 0, none⟩)) (bs ++ Lib.strCells s) w' ∧ Below B w w' ∧ Lib.OthersKept 5 (some b) w w') := by
  obtain ⟨i0, hi, hz0, hz1, hz2⟩ := info_parts (show (Tryd.prog.info? 5).map (fun i => (i.zero, i.size, i.bytes)) = some (some (.int .u8 0), 1, 1) by kernel_rfl)
  go_enter Tryd.func24, Tryd.ntmps24
  go_wp2_with fail
  refine (copyCheck B b bs _ h).mono ?_
  rintro e w1 ⟨rfl, h1, hb1, hk1⟩
  obtain ⟨hB, v, hbk, hown, hne⟩ := h1
  have c0 : w1.cell? ⟨b, 0, none⟩ = some (.pointer (some ⟨b, 0, none⟩)) := by rw [Lib.cell_of_heap hbk]; rfl
  have c1 : w1.cell? ⟨b, 1, none⟩ = some v := by rw [Lib.cell_of_heap hbk]; rfl
  go_wp2_with (at_builtin; refine Lib.wpList_append_own_stringF _ rfl _ _ 27 9 rfl B 5 i0 Tryd.underlying27 Tryd.underlying9 hi hz0 hz1 hz2 _ _ _ rfl hown s rfl ?c3 ?c4 ?c5 ?_)
  case c3 => unfold maxLen; omega
  case c4 => omega
  case c5 => have := hb1.size; omega
  intro v' w2 hown' hgrow _
  have hlt : b < w1.heap.size := by
    rcases Nat.lt_or_ge b w1.heap.size with h' | h'
    · exact h'
    · simp [Array.getElem?_eq_none h'] at hbk
  have hb2 : w2.heap[b]? = some (.cells #[.pointer (some ⟨b, 0, none⟩), v] 41 (0, 0)) := by
    rw [hgrow.block b hlt (fun e => hne e.symm)]
    exact hbk
  have d0 : w2.cell? ⟨b, 0, none⟩ = some (.pointer (some ⟨b, 0, none⟩)) := by rw [Lib.cell_of_heap hb2]; rfl
  have d1 : w2.cell? ⟨b, 1, none⟩ = some v := by rw [Lib.cell_of_heap hb2]; rfl
  have f1 : w2.frozen? ⟨b, 1, none⟩ = false := Lib.frozen_of_heap hb2 1
  obtain ⟨ao, n', cap, rfl⟩ : ∃ ao n' cap, v' = .slice ao n' cap := by
    rcases hown'.2 with ⟨hv, _⟩ | ⟨g, cap, cur, fz, hv, _⟩
    · exact ⟨_, _, _, hv⟩
    · exact ⟨_, _, _, hv⟩
  go_wp2
  go_ret2
  refine ⟨rfl, ?_, ?_, (hk1.grown hgrow (Lib.ownsRowF_kind hown)).setCell ⟨b, 1, none⟩ rfl _⟩
  · exact Lib.BuilderAtF.put (T := 41) (e := 5) hB hb2 (bs' := bs ++ Lib.strCells s) (by simpa [Lib.strCells_length] using hown') (by decide)
  · exact (hb1.grown hgrow (by have := hb1.size; omega) (fun k hk => (hown.lt k hk).1)).setCell (p := ⟨b, 1, none⟩) hB _
end Go.Proofs.YtagdkbncfcdhdaaDoor.Ext
end
