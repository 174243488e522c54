/- Proved: number.Print's call tells a number's decimal digits. Condition: the number is an int's. -/
import Derived.Test.YtlbgnpllbogkeaaDoorVkNum
import Derived.Laws.Rows
import Derived.Laws.CopyOwn
import Derived.Lib.LazyBuf
import Derived.Laws.BytesArg
set_option maxRecDepth 100000
namespace Go.Proofs.YtlbgnpllbogkeaaDoor.Ext
open Go.RowKit Go.Proofs.YtlbgnpllbogkeaaDoorW.PrintWords
/-- The decimal digits of a number. -/
def decs (n : Nat) : List UInt8 := if n < 10 then [(48 + n).toUInt8] else decs (n / 10) ++ [(48 + n % 10).toUInt8]
termination_by n
decreasing_by omega
def decsInt (n : Int) : List UInt8 := if n < 0 then 45 :: decs n.natAbs else decs n.natAbs
def number_Print.f (a0 : Int) : Option ByteArray := if -9223372036854775808 ≤ a0 ∧ a0 ≤ 9223372036854775807 then some ⟨(decsInt a0).toArray⟩ else none
/-- What the buffer holds ahead of a round: q + 1 places are free; m is what is left of M; s places are kept. -/
def PrInv (s : Nat) (w : World) (M : Nat) (wr : World) (q m : Nat) : Prop :=
  q ≤ 19 ∧ s ≤ q ∧ m < 10 ^ (q + 1 - s) ∧ Below w.heap.size w wr ∧ w.heap.size < wr.heap.size ∧ ∃ (cs : Array Value) (suf : List UInt8),
    cs.size = 20 ∧ wr.heap[w.heap.size]? = some (.cells cs 79 (0, 0)) ∧ suf.length = 19 - q ∧
    (∀ j, j < suf.length → cs[q + 1 + j]? = some (.int .u8 (suf.getD j 0).toNat)) ∧ decs M = decs m ++ suf
/-- What it holds in the end: the text's octets from q on. -/
def PrEnd (s : Nat) (w : World) (l : List UInt8) (wr : World) (q : Nat) : Prop :=
  q ≤ 19 ∧ s ≤ q ∧ Below w.heap.size w wr ∧ w.heap.size < wr.heap.size ∧ l.length = 20 - q ∧ ∃ (cs : Array Value),
    cs.size = 20 ∧ wr.heap[w.heap.size]? = some (.cells cs 79 (0, 0)) ∧ (∀ j, j < l.length → cs[q + j]? = some (.int .u8 (l.getD j 0).toNat))
theorem cell_blk {wr : World} {B j : Nat} {cs : Array Value} {T : TypeId} (hh : wr.heap[B]? = some (.cells cs T (0, 0))) (hj : j < cs.size) :
    (∃ x, wr.cell? ⟨B, j, none⟩ = some x) ∧ wr.frozen? ⟨B, j, none⟩ = false := by
  constructor
  · unfold World.cell?
    rw [hh]
    exact ⟨cs[j], Array.getElem?_eq_getElem (by exact hj)⟩
  · unfold World.frozen?
    rw [hh]
    simp
theorem PrInv.cell {s : Nat} {w : World} {M : Nat} {wr : World} {q m : Nat} (h : PrInv s w M wr q m) : (∃ x, wr.cell? ⟨w.heap.size, q, none⟩ = some x) ∧ wr.frozen? ⟨w.heap.size, q, none⟩ = false := by
  obtain ⟨hq, _, _, _, _, cs, suf, hs, hh, _⟩ := h
  exact cell_blk hh (by omega)
theorem PrEnd.cell {s : Nat} {w : World} {l : List UInt8} {wr : World} {q : Nat} (h : PrEnd s w l wr q) (j : Nat) (hj : j ≤ 19) : (∃ x, wr.cell? ⟨w.heap.size, j, none⟩ = some x) ∧ wr.frozen? ⟨w.heap.size, j, none⟩ = false := by
  obtain ⟨hq, _, _, _, _, cs, hs, hh, _⟩ := h
  exact cell_blk hh (by omega)
theorem setAt (cs : Array Value) (q j : Nat) (v : Value) (h : q ≠ j) : (cs.setIfInBounds q v)[j]? = cs[j]? := by
  rw [Array.getElem?_setIfInBounds_ne h]
theorem PrEnd.put {s : Nat} {w : World} {l : List UInt8} {wr : World} {q : Nat} (cs : Array Value) (hq : q ≤ 19) (hsq : s ≤ q) (hb : Below w.heap.size w wr) (hz : w.heap.size < wr.heap.size)
    (hs : cs.size = 20) (hh : wr.heap[w.heap.size]? = some (.cells cs 79 (0, 0))) (hl : l.length = 19 - q) (hc : ∀ j, j < l.length → cs[q + 1 + j]? = some (.int .u8 (l.getD j 0).toNat)) (d : UInt8) :
    PrEnd s w (d :: l) (wr.setCell ⟨w.heap.size, q, none⟩ (.int .u8 d.toNat)) q := by
  refine ⟨hq, hsq, hb.setCell (Nat.le_refl _) _, by simpa [World.setCell] using hz, by simp only [List.length_cons]; omega, cs.setIfInBounds q (.int .u8 d.toNat), by simpa using hs, heap_setCell_same _ _ _ _ _ _ hh, fun j hj => ?_⟩
  match j with
  | 0 => simp [hs, show q < 20 by omega]
  | j + 1 =>
    rw [setAt _ _ _ _ (by omega), show q + (j + 1) = q + 1 + j by omega, hc j (by simpa using hj)]
    simp
theorem digit_byte (m : Nat) : ((48 + m % 10).toUInt8).toNat = 48 + m % 10 := by
  rw [UInt8.toNat_ofNat']
  omega
theorem PrInv.fin {s : Nat} {w : World} {M : Nat} {wr : World} {q m : Nat} (h : PrInv s w M wr q m) (h0 : (m : Int) / 10 = 0) :
    PrEnd s w (decs M) (wr.setCell ⟨w.heap.size, q, none⟩ (.int .u8 (48 + (m : Int) % 10))) q := by
  obtain ⟨hq, hsq, hm, hb, hz, cs, suf, hs, hh, hl, hc, hd⟩ := h
  have hm10 : m < 10 := by omega
  rw [hd, decs, if_pos hm10]
  have h2 := PrEnd.put (s := s) cs hq hsq hb hz hs hh hl hc (48 + m % 10).toUInt8
  rw [digit_byte, Nat.mod_eq_of_lt hm10] at h2
  rw [show (48 + (m : Int) % 10) = ((48 + m : Nat) : Int) by omega]
  exact h2
theorem PrInv.next {s : Nat} {w : World} {M : Nat} {wr : World} {q m : Nat} (h : PrInv s w M wr q m) (h0 : ¬ (m : Int) / 10 = 0) :
    ∃ q', q = q' + 1 ∧ PrInv s w M (wr.setCell ⟨w.heap.size, q, none⟩ (.int .u8 (48 + (m : Int) % 10))) q' (m / 10) := by
  obtain ⟨hq, hsq, hm, hb, hz, cs, suf, hs, hh, hl, hc, hd⟩ := h
  have hm10 : ¬ m < 10 := by omega
  have hlt : s < q := by
    rcases Nat.lt_or_ge s q with h | h
    · exact h
    · have : q + 1 - s = 1 := by omega
      rw [this] at hm
      omega
  obtain ⟨q, rfl⟩ : ∃ k, q = k + 1 := ⟨q - 1, by omega⟩
  refine ⟨q, rfl, ?_⟩
  obtain ⟨_, _, e3, e4, e5, cs', e6, e7, e8⟩ := PrEnd.put (s := s) cs hq hsq hb hz hs hh hl hc (48 + m % 10).toUInt8
  rw [digit_byte, show ((48 + m % 10 : Nat) : Int) = 48 + (m : Int) % 10 by omega] at e3 e4 e7
  refine ⟨by omega, by omega, ?_, e3, e4, cs', (48 + m % 10).toUInt8 :: suf, e6, e7, by rw [e5]; omega, e8, ?_⟩
  · rw [show q + 1 + 1 - s = (q + 1 - s) + 1 by omega, Nat.pow_succ] at hm
    omega
  · rw [hd, decs, if_neg hm10]
    simp
theorem cut20 (B q : Nat) (hq : q ≤ 19) (W : World) :
    (Instr.sliceAt 79 (.pointer (some ⟨B, 0, none⟩)) (some (.int .i64 (q : Int))) none none).run Tryd.prog W = .ok (.slice (some ⟨B, q, none⟩) (20 - q) (20 - q)) W := by
  have h1 : Tryd.prog.arrayLen 79 = 20 := by kernel_rfl
  have h2 : Tryd.prog.elem 79 = 5 := by kernel_rfl
  have h3 : ∀ W, (sizeOf 5).run Tryd.prog W = .ok 1 W := fun W => by kernel_rfl
  rw [run_sliceAt_array_l W 79 _ (by rw [h1, h2]; exact Tryd.underlying79) .i64 q (by omega) (by rw [h1]; omega), h1, h2, h3]
  simp only [Result.andThen_ok, slicedAt, Int.toNat_natCast]
  rw [if_neg (by omega)]
  simp [Addr.add]
  omega
theorem strOf_map (l : List UInt8) : strOfNums (l.map fun x => (x.toNat : Int)) = ⟨l.toArray⟩ := by
  simp [strOfNums, List.map_map, Function.comp_def]
/-- The octets as a text. -/
theorem PrEnd.text {s : Nat} {w : World} {l : List UInt8} {wr : World} {q : Nat} (h : PrEnd s w l wr q) :
    (convert 80 9 (.slice (some ⟨w.heap.size, q, none⟩) (20 - q) (20 - q))).run Tryd.prog wr = .ok (.string ⟨l.toArray⟩) wr := by
  obtain ⟨hq, _, _, _, hl, cs, hs, hh, hc⟩ := h
  have := run_convert_bytes_arg (P := Tryd.prog) wr 80 5 Tryd.underlying80 Tryd.underlying5 w.heap.size q (20 - q) (20 - q) (l.map fun x => (x.toNat : Int)) (by simpa using hl) (fun i hi => by
    unfold World.cell?
    rw [hh]
    show cs[q + i]? = _
    rw [hc i (by omega)]
    simp [List.getD_eq_getElem?_getD, List.getElem?_eq_getElem (show i < l.length by omega)]) 9 Tryd.underlying9
  rw [this, strOf_map]
theorem PrInv.start (s : Nat) (w : World) (M : Nat) (hs : s ≤ 19) (hM : M < 10 ^ (20 - s)) (cs : Array Value) (hcs : cs.size = 20) :
    PrInv s w M (w.alloc (.cells cs 79)) 19 M :=
  ⟨Nat.le_refl _, hs, hM, (Below.refl _ _).alloc (Nat.le_refl _) _, by simp, cs, [], hcs, heap_alloc_new _ _, rfl, fun j hj => absurd hj (by simp), by simp⟩
theorem copy_minus (B q : Nat) (hq : q ≤ 19) (W : World) (hc : ∃ x, W.cell? ⟨B, q, none⟩ = some x) (hf : W.frozen? ⟨B, q, none⟩ = false) :
    (Builtin.copy_ #[80, 9] 3 #[.slice (some ⟨B, q, none⟩) (20 - q) (20 - q), .string ⟨#[45]⟩]).run Tryd.prog W = .ok (goInt 1) (W.setCell ⟨B, q, none⟩ (.int .u8 45)) := by
  obtain ⟨x, hx⟩ := hc
  have h3 : ∀ W, (sizeOf 5).run Tryd.prog W = .ok 1 W := fun W => by kernel_rfl
  exact run_copy_string (P := Tryd.prog) W 80 9 3 5 B q (20 - q) (20 - q) ⟨#[45]⟩ Tryd.underlying80 h3 (by show 1 ≤ _; omega)
    (fun j hj => by obtain rfl : j = 0 := by (have : j < 1 := hj); omega
                    rw [Nat.add_zero, hx]; rfl)
    (fun j hj => by obtain rfl : j = 0 := by (have : j < 1 := hj); omega
                    exact hf)
theorem PrEnd.minus {w : World} {l : List UInt8} {wr : World} {q : Nat} (h : PrEnd 1 w l wr (q + 1)) :
    PrEnd 0 w (45 :: l) (wr.setCell ⟨w.heap.size, q, none⟩ (.int .u8 45)) q := by
  obtain ⟨hq, _, hb, hz, hl, cs, hs, hh, hc⟩ := h
  exact PrEnd.put (s := 0) cs (by omega) (Nat.zero_le _) hb hz hs hh (by omega) hc 45
theorem ret_str {a b : ByteArray} (h : a = b) : Ending.returned (.string a) = Ending.returned (.string b) := by rw [h]
theorem number_Print.calls (a0 : Int) (r : ByteArray) (w : World) (h : number_Print.f a0 = some r) :
    Calls Tryd.prog 41 #[.int .i64 a0] w fun e w' => e = .returned (.string r) ∧ Below w.heap.size w w' := by
  unfold number_Print.f at h
  split at h
  case isFalse => cases h
  rename_i hb
  obtain ⟨hb0, hb1⟩ := hb
  by_cases hn : a0 < 0
  · obtain ⟨M, hM⟩ : ∃ M, a0.natAbs = M := ⟨_, rfl⟩
    have hr : (⟨(45 :: decs M).toArray⟩ : ByteArray) = r := by
      unfold decsInt at h
      rw [if_pos hn, hM] at h
      simpa using h
    clear h
    have HR := Lib.hid hr
    clear hr
    have hwr : IntKind.u64.wrap (-IntKind.u64.wrap a0) = (M : Int) := by
      rw [IntKind.wrap_u64, IntKind.wrap_u64]
      omega
    have hml : M ≤ 9223372036854775808 := by omega
    clear hM
    go_enter Tryd.func41, Tryd.ntmps41
    go_wp2_with fail
    go_loopw [3, 5] (fun s a wr => ∃ (m q : Nat), s = .int .u64 m ∧ a = .int .i64 ((q : Int) + 1) ∧ m ≤ 9223372036854775808 ∧ PrInv 1 w M wr q m) (fun s _ _ => (intOf s).toNat)
    case atStart => exact ⟨M, 19, rfl, rfl, hml, PrInv.start 1 w M (by omega) (by omega) _ rfl⟩
    case round =>
      obtain ⟨m, q, rfl, rfl, hm, hi⟩ := hrel
      obtain ⟨⟨x, hc⟩, hf⟩ := hi.cell
      have hq : q ≤ 19 := hi.1
      by_cases h0 : (m : Int) / 10 = 0
      · have he := hi.fin h0
        obtain ⟨q, rfl⟩ : ∃ k, q = k + 1 := ⟨q - 1, by have := hi.2.1; omega⟩
        have hsl := cut20 w.heap.size q (by omega)
        have hcp := copy_minus w.heap.size q (by omega) _ (he.cell q (by omega)).1 (he.cell q (by omega)).2
        have he2 := he.minus
        have ht := he2.text
        have HE := Lib.hid he2
        have HT := Lib.hid ht
        have h0b : (((m : Int) / 10) == 0) = true := by simpa using h0
        have HCP := Lib.hid hcp
        clear he hi ht h0 hcp he2
        go_wp2_with fail
        rw [HCP.out]
        go_wp2_with fail
        rw [HT.out]
        go_wp2_with fail
        go_ret
        exact ⟨ret_str HR.out, HE.out.2.2.1⟩
      · obtain ⟨q', e, hi'⟩ := hi.next h0
        have h0b : (((m : Int) / 10) == 0) = false := by simpa using h0
        have HE := Lib.hid e
        clear e hi h0
        have HI := Lib.hid hi'
        clear hi'
        go_wp2_with fail
        go_roundw
        case rel => exact ⟨m / 10, q', by go_num, by rw [HE.out]; go_num, by omega, HI.out⟩
        case measure => simp [intOf] at h0b ⊢; omega
  · obtain ⟨M, rfl⟩ := Int.eq_ofNat_of_zero_le (show 0 ≤ a0 by omega)
    have hr : (⟨(decs M).toArray⟩ : ByteArray) = r := by
      unfold decsInt at h
      rw [if_neg hn] at h
      simpa using h
    clear h
    have HR := Lib.hid hr
    clear hr
    go_enter Tryd.func41, Tryd.ntmps41
    go_wp2_with fail
    go_loopw [3, 5] (fun s a wr => ∃ (m q : Nat), s = .int .u64 m ∧ a = .int .i64 ((q : Int) + 1) ∧ m ≤ 9223372036854775807 ∧ PrInv 0 w M wr q m) (fun s _ _ => (intOf s).toNat)
    case atStart => exact ⟨M, 19, rfl, rfl, by omega, PrInv.start 0 w M (by omega) (by omega) _ rfl⟩
    case round =>
      obtain ⟨m, q, rfl, rfl, hm, hi⟩ := hrel
      obtain ⟨⟨x, hc⟩, hf⟩ := hi.cell
      have hq : q ≤ 19 := hi.1
      have hsl := cut20 w.heap.size q hq
      by_cases h0 : (m : Int) / 10 = 0
      · have he := hi.fin h0
        have ht := he.text
        have HE := Lib.hid he
        have HT := Lib.hid ht
        have h0b : (((m : Int) / 10) == 0) = true := by simpa using h0
        clear he hi ht h0
        go_wp2_with fail
        rw [HT.out]
        go_wp2_with fail
        go_ret
        exact ⟨ret_str HR.out, HE.out.2.2.1⟩
      · obtain ⟨q', e, hi'⟩ := hi.next h0
        have h0b : (((m : Int) / 10) == 0) = false := by simpa using h0
        have HE := Lib.hid e
        clear e hi h0
        have HI := Lib.hid hi'
        clear hi'
        go_wp2_with fail
        go_roundw
        case rel => exact ⟨m / 10, q', by go_num, by rw [HE.out]; go_num, by omega, HI.out⟩
        case measure => simp [intOf] at h0b ⊢; omega
end Go.Proofs.YtlbgnpllbogkeaaDoor.Ext
