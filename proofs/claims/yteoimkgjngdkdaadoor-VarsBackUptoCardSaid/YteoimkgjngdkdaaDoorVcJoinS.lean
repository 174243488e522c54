/- Proved: strings.Join's call in the print's form. Condition: at most 140737488355328 texts, and octets in all. -/
import Derived.Test.YteoimkgjngdkdaaDoorVcShelf
import Derived.Test.YteoimkgjngdkdaaDoorVcWWords
import Derived.Test.YteoimkgjngdkdaaDoorVcWApart
import Derived.Lib.Hide
namespace Go.Proofs.YteoimkgjngdkdaaDoor.Ext
open Go.RowKit Go.Proofs.YteoimkgjngdkdaaDoorW.PrintWords
theorem cells_of_strings {W : World} {A : Option Addr} {l : List ByteArray} (h : Kd.C Kd.string W A l.length l) (hp : 0 < l.length) : ∃ ad, A = some ad ∧ ∀ (j : Nat) x, l[j]? = some x → W.cell? (ad.add j) = some (.string x) := by
  obtain ⟨ad, e, hc⟩ := h.2.2 hp
  refine ⟨ad, e, fun j x hj => ?_⟩
  obtain ⟨c, _, hcc, hcell⟩ := hc j x hj
  have hce : c = [Value.string x] := hcc
  rw [hce] at hcell
  have h1 := hcell 0 (.string x) rfl
  have e1 : j * Kd.string.sz + 0 = j := Nat.mul_one j
  rwa [e1] at h1
theorem addr_add (b o j : Nat) : (⟨b, o, none⟩ : Addr).add j = ⟨b, o + j, none⟩ := by
  unfold Addr.add
  split
  · rename_i h; rw [h]; rfl
  · rfl
def strings_Join.f (a0 : List ByteArray) (a1 : ByteArray) : Option ByteArray :=
  if a0.length ≤ 140737488355328 ∧ (Lib.join (a0.map (·.data.toList)) a1.data.toList).length ≤ 140737488355328 then some ⟨(Lib.join (a0.map (·.data.toList)) a1.data.toList).toArray⟩ else none
theorem strings_Join.calls (A0 : Option Addr) (c0 : Nat) (a0 : List ByteArray) (a1 : ByteArray) (r : ByteArray) (w : World) (hr0 : Kd.C Kd.string w A0 a0.length a0) (hc0 : a0.length ≤ c0) (h : strings_Join.f a0 a1 = some r) :
    Calls Tryd.prog 30 #[.slice A0 a0.length c0, .string a1] w fun e w' => e = .returned (.string r) ∧ Below w.heap.size w w' := by
  unfold strings_Join.f at h
  split at h
  case isFalse => cases h
  rename_i hb
  obtain rfl := Option.some.inj h
  rcases Nat.eq_zero_or_pos a0.length with h0 | h0
  · obtain rfl : a0 = [] := List.eq_nil_of_length_eq_zero h0
    refine (Tryd.strings_Join_none A0 c0 a1 w).mono ?_
    rintro e w' ⟨rfl, rfl⟩
    exact ⟨rfl, Below.refl _ _⟩
  · obtain ⟨⟨bk, o, pth⟩, rfl, hc⟩ := cells_of_strings hr0 h0
    obtain ⟨x, hx⟩ : ∃ x, a0[0]? = some x := ⟨_, List.getElem?_eq_getElem h0⟩
    have hc0' := hc 0 x hx
    obtain rfl : pth = none := by
      cases pth with
      | none => rfl
      | some q =>
        unfold World.cell? at hc0'
        split at hc0' <;> simp [Addr.add] at hc0'
    refine (Tryd.strings_Join bk o c0 a0 a1 w (fun j x hj => by rw [← addr_add]; exact hc j x hj) (by simpa [Addr.add] using World.block_lt_of_cell? _ _ hc0') hb.1 hc0 hb.2).mono ?_
    rintro e w' ⟨rfl, hb⟩
    exact ⟨rfl, hb⟩
end Go.Proofs.YteoimkgjngdkdaaDoor.Ext
