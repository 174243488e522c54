/- Proved: the law's alive answers true, where the table of blanks holds what its initialiser lays; and the table's fact out of the row's list. -/
import Derived.Test.YteobnfcdlcemlaaDoorPlain
import Derived.Test.YteobnfcdlcemlaaDoorCut
import Derived.Test.YteobnfcdlcemlaaDoorQuote
import Derived.Test.YteobnfcdlcemlaaDoorT30
import Derived.Test.YteobnfcdlcemlaaDoorQ18
import Derived.Lib.LaidTab
set_option linter.unusedVariables false
namespace Go.Proofs.YteobnfcdlcemlaaDoor.Ext
open Go.RowKit Go.Proofs.YteobnfcdlcemlaaDoorW.PrintWords

/-- The table of blanks holds what its initialiser lays. -/
def Tab (w : World) : Prop := Lib.TabIs Tryd.prog w "strings.asciiSpace" .u8 Lib.asciiSpaceTab
theorem laid_tail {P : Program} {W : World} {x : String × DataW Unit} {rest : List (String × DataW Unit)} (h : laidMet P (x :: rest) W) : laidMet P rest W := by
  obtain ⟨n, d⟩ := x
  obtain ⟨ps, ⟨g, t, cs, fuel, p, q, h1, h2, h3, h4, hq, rfl⟩, nd, hc⟩ := h
  exact ⟨q, hq, (List.nodup_append.1 nd).2.1, fun b off hm => hc b off (List.mem_append_right _ hm)⟩

theorem Tab.below {w w' : World} (h : Tab w) (hb : Below w.heap.size w w') : Tab w' := by
  unfold Tab Lib.TabIs World.var? at h ⊢
  obtain ⟨g, hg, h⟩ := Option.bind_eq_some_iff.1 h
  rw [hg, Option.bind_some]
  have hlt : g < w.heap.size := by
    rcases Nat.lt_or_ge g w.heap.size with hl | hl
    · exact hl
    · rw [Array.getElem?_eq_none hl] at h
      cases h
  rw [hb.block g hlt]
  exact h
def resText : ByteArray := ⟨#[105, 102, 32, 116, 104, 101, 110, 32, 101, 108, 105, 102, 32, 101, 108, 115, 101, 32, 102, 105, 32, 100, 111, 32, 100, 111, 110, 101, 32, 99, 97, 115, 101, 32, 101, 115, 97, 99, 32, 119, 104, 105, 108, 101, 32, 117, 110, 116, 105, 108, 32, 102, 111, 114, 32, 105, 110, 32, 123, 32, 125, 32, 33, 32, 102, 117, 110, 99, 116, 105, 111, 110, 32, 91, 91, 32, 93, 93, 32, 115, 101, 108, 101, 99, 116]⟩
def resWords : List ByteArray := (Lib.fields resText.data.toList).map fun l => ⟨l.toArray⟩

set_option maxHeartbeats 2000000 in
set_option maxRecDepth 100000 in
theorem reserved_calls (s : ByteArray) (b : Bool) (w : World) (hT : Tab w) (hb : Q.slices_Contains_string_string.f 60 resWords s = some b) :
    Calls Tryd.prog 20 #[.string s] w fun e w' => e = .returned (.bool b) ∧ Below w.heap.size w w' := by
  have hlen : (Lib.fields resText.data.toList).length = resWords.length := by unfold resWords; rw [List.length_map]
  have hF := Tryd.strings_Fields_laid resText w (by decide) (fun j c hj => by
    have h1 : resText.data.toList.all (fun c => decide (c.toNat < 128)) = true := by decide
    simpa using List.all_eq_true.1 h1 c (List.mem_of_getElem? hj)) hT
  rw [hlen] at hF
  have hcells : ((Lib.fields resText.data.toList).map fun l => Value.string ⟨l.toArray⟩).toArray = (resWords.map Value.string).toArray := by
    unfold resWords
    rw [List.map_map]
    rfl
  rw [hcells] at hF
  have hsz : resWords.length ≤ 100 := by decide
  have HF := Lib.hid hF
  have HB := Lib.hid hb
  have HSZ := Lib.hid hsz
  clear hF hb hsz hlen hcells
  have hrt : resText = ⟨#[105, 102, 32, 116, 104, 101, 110, 32, 101, 108, 105, 102, 32, 101, 108, 115, 101, 32, 102, 105, 32, 100, 111, 32, 100, 111, 110, 101, 32, 99, 97, 115, 101, 32, 101, 115, 97, 99, 32, 119, 104, 105, 108, 101, 32, 117, 110, 116, 105, 108, 32, 102, 111, 114, 32, 105, 110, 32, 123, 32, 125, 32, 33, 32, 102, 117, 110, 99, 116, 105, 111, 110, 32, 91, 91, 32, 93, 93, 32, 115, 101, 108, 101, 99, 116]⟩ := rfl
  rw [hrt] at HF
  have hrow : (w.alloc (.cells (resWords.map Value.string).toArray 9)).ownsRow w.heap.size 9 1 (.slice (some ⟨w.heap.size, 0, none⟩) resWords.length resWords.length) resWords.length (resWords.map Value.string) :=
    ⟨by simp, .inr ⟨w.heap.size, resWords.length, (resWords.map Value.string).toArray, rfl, Nat.le_refl _, heap_alloc_new _ _, Nat.le_refl _, Nat.le_trans HSZ.out (by decide), by simp, by rw [List.take_of_length_le (by simp)]⟩⟩
  have HC := Lib.hid (Kd.S_reads' (row_strings hrow)).2.2
  generalize resWords = L at *
  clear hrow hrt
  go_enter Tryd.func20, Tryd.ntmps20
  go_wp2_with fail
  refine HF.out.mono ?_
  rintro e w1 ⟨rfl, rfl⟩
  go_wp2_with fail
  refine (Q.slices_Contains_string_string.calls 60 _ _ L s b _ HC.out (Nat.le_refl _) HB.out).mono ?_
  rintro e w2 ⟨rfl, ⟨n2, rfl⟩⟩
  go_wp2_with fail
  go_ret
  exact ⟨rfl, pw_below_drewN ((Below.refl _ w).alloc (Nat.le_refl _) _) n2⟩

theorem res_if : Q.slices_Contains_string_string.f 60 resWords ⟨#[105, 102]⟩ = some true := by decide +kernel
theorem quote_ab : octets_Quote.f ⟨#[97, 32, 98]⟩ = some (⟨#[39, 97, 32, 98, 39]⟩, 0) := by decide +kernel
theorem name_ab : octets_Name.f ⟨#[97, 98]⟩ = some true := by decide +kernel

def cowrielaw01_alive.f : Option Bool := some true
set_option maxHeartbeats 4000000 in
set_option maxRecDepth 100000 in
theorem cowrielaw01_alive.calls (r : Bool) (w : World) (hT : Tab w) (h : cowrielaw01_alive.f = some r) :
    Calls Tryd.prog 8 #[] w fun e w' => e = .returned (.bool r) ∧ Below w.heap.size w w' := by
  obtain rfl : true = r := Option.some.inj h
  have HQ := Lib.hid (fun w => octets_Quote.calls ⟨#[97, 32, 98]⟩ ⟨#[39, 97, 32, 98, 39]⟩ 0 w quote_ab)
  have HN := Lib.hid (fun w => octets_Name.calls ⟨#[97, 98]⟩ true w name_ab)
  have HM := Lib.hid (fun w => T.cowrielaw01_num.calls 0 0 w rfl)
  have HR := Lib.hid (fun w hT => reserved_calls ⟨#[105, 102]⟩ true w hT res_if)
  have HT := Lib.hid hT
  clear h hT
  go_enter Tryd.func8, Tryd.ntmps8
  go_wp2_with fail
  refine (HQ.out _).mono ?_
  rintro e w1 ⟨rfl, hb1⟩
  have HB1 := Lib.hid hb1
  clear hb1
  go_wp2_with fail
  refine (HM.out _).mono ?_
  rintro e w2 ⟨rfl, ⟨n2, rfl⟩⟩
  go_wp2_with fail
  refine (HN.out _).mono ?_
  rintro e w3 ⟨rfl, hb3⟩
  have HB3 := Lib.hid (HB1.out.trans ((pw_below_drewN (Below.refl _ w1) n2).trans (hb3.mono (pw_below_drewN (Below.refl w1.heap.size w1) n2).size) |>.mono HB1.out.size))
  clear hb3
  go_wp2_with fail
  refine (HR.out _ (HT.out.below HB3.out)).mono ?_
  rintro e w4 ⟨rfl, hb4⟩
  have HB4 := Lib.hid (HB3.out.trans (hb4.mono HB3.out.size))
  clear hb4
  go_wp2_with fail
  go_ret
  exact ⟨rfl, HB4.out⟩

end Go.Proofs.YteobnfcdlcemlaaDoor.Ext
