/- Proved: arith's parser: all its functions' calls, whatever tokens; arith.in's. -/
import Derived.Test.YtlbgnpllbogkeaaDoorVkArW2
import Derived.Test.YtlbgnpllbogkeaaDoorVkArW4
import Derived.Test.YtlbgnpllbogkeaaDoorVkArW5
import Derived.Test.YtlbgnpllbogkeaaDoorVkArW7
import Derived.Test.YtlbgnpllbogkeaaDoorVkShelf
set_option linter.unusedVariables false
set_option linter.unusedSimpArgs false
namespace Go.Proofs.YtlbgnpllbogkeaaDoor.Ext
open Go.RowKit Go.Proofs.YtlbgnpllbogkeaaDoorW.PrintWords
theorem parse_calls {nx : Nat → Tok} {lit : ByteArray → Int} {pb : Nat} {s : ByteArray} {bash : Bool} (hx : Nx nx s.size) (hn : NextC nx pb s bash) (hi : InC) (hlc : LitC lit) (hlb : LitB lit) : ∀ (k : Nat) (nt : NT), ntOk nt → PC nx lit pb s bash k nt
  | 0, nt, _ => fun d t w h ho => absurd (by rw [parse]) ho
  | k + 1, nt, hk => by
    have ih := parse_calls hx hn hi hlc hlb k
    cases nt with
    | comma => exact comma_calls hx hn hi (ih .assign trivial)
    | assign => exact assign_calls hx hn hi (ih .choice trivial) (ih .assign trivial)
    | choice => exact choice_calls hx hn hi (ih (.level 0) (Nat.zero_le _)) (ih .assign trivial) (ih .choice trivial)
    | level n => exact level_calls hx hn hi n hk (ih .power trivial) (fun h => ih (.level (n + 1)) h)
    | power => exact power_calls hx hn hi (ih .unary trivial) (ih .power trivial)
    | unary => exact unary_calls hx hn hi (ih .post trivial) (ih .unary trivial)
    | post => exact post_calls hx hn hi hlc hlb (ih .comma trivial)
theorem contains_in (l : List ByteArray) (b : ByteArray) : Lib.containsS l b = inL l b := by
  rw [Bool.eq_iff_iff, Lib.containsS_iff, inL_iff]
set_option maxHeartbeats 2000000 in
theorem in_calls : InC := by
  intro set l b w hs hT
  obtain ⟨h1, h2, h3, h4, h5⟩ := hs
  by_cases h0 : b.size = 0
  · have e1 := emp_true h0
    have hf : inL l b = false := by
      cases hc : inL l b with
      | false => rfl
      | true => exact absurd h0 (h3 b (inL_iff.1 hc))
    rw [hf]
    clear h0 h1 h2 h3 h4 h5 hf
    go_enter Tryd.func26, Tryd.ntmps26
    go_wp2_with fail
    go_ret
    exact ⟨rfl, Below.refl _ _⟩
  · have e1 := emp_false h0
    have hF := Tryd.strings_Fields_laid set w (by omega) (fun j c hj => by simpa using List.all_eq_true.1 h4 c (List.mem_of_getElem? hj)) hT
    have hlen : (Lib.fields set.data.toList).length = l.length := by rw [← h5, List.length_map]
    have hcells : ((Lib.fields set.data.toList).map fun l => Value.string ⟨l.toArray⟩).toArray = (l.map Value.string).toArray := by
      rw [← h5, List.map_map]
      rfl
    rw [hlen, hcells] at hF
    have hC := Tryd.slices_Contains_string w.heap.size 0 l.length l.length l b (w.alloc (.cells (l.map Value.string).toArray 9)) (Nat.le_refl _) (by omega) (fun j hj => by
      rw [Nat.zero_add]
      have h9 := Bk.new w 9 (l.map Value.string).toArray
      rw [h9.c j, List.getElem?_toArray, List.getElem?_map, List.getElem?_eq_getElem hj, List.getD_eq_getElem?_getD, List.getElem?_eq_getElem hj]
      rfl)
    rw [List.take_length, contains_in] at hC
    have HF := Lib.hid hF
    have HC := Lib.hid hC
    generalize inL l b = r at *
    clear h0 h1 h2 h3 h4 h5 hF hC hlen hcells
    go_enter Tryd.func26, Tryd.ntmps26
    go_wp2_with fail
    refine HF.out.mono ?_
    rintro e w1 ⟨rfl, rfl⟩
    go_wp2_with fail
    refine HC.out.mono ?_
    rintro e w2 ⟨rfl, rfl⟩
    go_wp2_with fail
    go_ret
    exact ⟨rfl, (Below.refl _ w).alloc (Nat.le_refl _) _⟩
end Go.Proofs.YtlbgnpllbogkeaaDoor.Ext
