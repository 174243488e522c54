/- Proved: the law NumberBack over numbers alone: a number comes back from its digits; for every int. -/
import Derived.Test.YtkbeapfcihgjfaaDoorP34
import Derived.Test.YtkbeapfcihgjfaaDoorParse
import Derived.Test.YtkbeapfcihgjfaaDoorDec
import Derived.OpenShut
namespace Go.Proofs.YtkbeapfcihgjfaaDoor.PureBack
open Go.RowKit Go.Proofs.YtkbeapfcihgjfaaDoor.Ext Go.Proofs.YtkbeapfcihgjfaaDoor.P Go.Proofs.YtkbeapfcihgjfaaDoorW.PrintWords

theorem alive_ok : cowrielaw04_alive.f = some true := by
  have h1 : number_Literal.f ⟨#[48, 120, 49, 102]⟩ = some (31, 0) := by decide +kernel
  have h2 : number_Literal.f ⟨#[48, 49, 48]⟩ = some (8, 0) := by decide +kernel
  have h3 : number_Print.f (-5) = some ⟨#[45, 53]⟩ := by
    unfold number_Print.f decsInt
    rw [decs]
    rfl
  unfold cowrielaw04_alive.f
  rw [h1, h2, h3]
  decide +kernel

theorem parse_decs (a : Int) (h : -9223372036854775808 ≤ a ∧ a ≤ 9223372036854775807) : parseL (decsInt a) = (a, 0) := by
  have hb : ∀ n, ∀ x ∈ decs n, ([32, 9] : List UInt8).contains x = false := fun n x hx => blank_digit (decs_digit n x hx)
  unfold parseL decsInt
  split
  · rename_i hn
    rw [trim_id (45 :: decs a.natAbs) [32, 9] (fun x hx => by
      rcases List.mem_cons.1 hx with rfl | hx
      · decide
      · exact hb _ x hx)]
    simp only [signL, if_true]
    rw [decs_read _ (by omega)]
    simp only [decs_ne, if_false]
    have : wrap64 (IntKind.u64.wrap (-((a.natAbs : Nat) : Int))) = a := by
      rw [IntKind.wrap_u64]
      unfold wrap64
      omega
    rw [this]
  · rename_i hn
    rw [trim_id (decs a.natAbs) [32, 9] (hb _)]
    have hs : signL (decs a.natAbs) = (decs a.natAbs, false) := by
      have hd := decs_digit a.natAbs
      cases e : decs a.natAbs with
      | nil => exact absurd e (decs_ne _)
      | cons c l =>
        have hc := hd c (by rw [e]; exact List.mem_cons_self)
        have h1 : c ≠ 45 := by rintro rfl; exact absurd hc.1 (by decide)
        have h2 : c ≠ 43 := by rintro rfl; exact absurd hc.1 (by decide)
        simp only [signL, if_neg h1, if_neg h2]
    rw [hs]
    show (match digitsGo 10 (decs a.natAbs) 0 with | none => _ | some n => _) = _
    rw [decs_read _ (by omega)]
    simp only [decs_ne, if_false]
    have : wrap64 (((a.natAbs : Nat) : Int)) = a := by
      unfold wrap64
      omega
    rw [this]
    simp

theorem decs_len (n : Nat) : ∀ k, n < 10 ^ (k + 1) → (decs n).length ≤ k + 1 := by
  induction n using Nat.strongRecOn with
  | ind n ih =>
    intro k hk
    rw [decs]
    split
    · simp
    · rename_i h
      rw [List.length_append]
      cases k with
      | zero => simp at hk; omega
      | succ k =>
        have := ih (n / 10) (by omega) k (by rw [Nat.pow_succ] at hk; omega)
        simp only [List.length_cons, List.length_nil]
        omega

theorem NumberBack : cowrielaw04_NumberBack.Pure := by
  intro a hwf
  have hb := bounds_i64 hwf
  unfold cowrielaw04_NumberBack.f
  have hp : number_Print.f a = some ⟨(decsInt a).toArray⟩ := by
    unfold number_Print.f
    rw [if_pos hb]
  have hsz : (⟨(decsInt a).toArray⟩ : ByteArray).size ≤ 9223372036854775807 := by
    have h1 := decs_len a.natAbs 19 (by omega)
    have h2 : (decsInt a).length ≤ 21 := by
      unfold decsInt
      split
      · rw [List.length_cons]; omega
      · omega
    have : (⟨(decsInt a).toArray⟩ : ByteArray).size = (decsInt a).length := by simp [ByteArray.size]
    omega
  rw [hp]
  simp only [Option.bind_some]
  rw [parse_spec _ hsz]
  show (some (parseL (decsInt a))).bind _ = _
  rw [parse_decs a hb]
  simp only [Option.bind_some, cowrielaw04_num.f]
  rw [alive_ok]
  simp

end Go.Proofs.YtkbeapfcihgjfaaDoor.PureBack
namespace Go.Proofs.YtkbeapfcihgjfaaDoor.Pure
theorem NumberBack : P.cowrielaw04_NumberBack.Pure := PureBack.NumberBack
end Go.Proofs.YtkbeapfcihgjfaaDoor.Pure
