/- Proved: octets.Quote's call tells a text as a word: it, where it is plain, else within quotes; or the error of a text that may not be. Condition: the text is of at most 10 to the 8 octets. -/
import Derived.Test.YteobnfcdlcemlaaDoorPlain
import Derived.Test.YteobnfcdlcemlaaDoorReplace
import Derived.Test.YteobnfcdlcemlaaDoorQ8
set_option linter.unusedVariables false
namespace Go.Proofs.YteobnfcdlcemlaaDoor.Ext
open Go.RowKit Go.Proofs.YteobnfcdlcemlaaDoorW.PrintWords

def quoted (s : ByteArray) : List UInt8 := 39 :: (repL 39 [39, 92, 39, 39] s.data.toList ++ [39])
def octets_Quote.f (a0 : ByteArray) : Option (ByteArray × Int) :=
  if a0.size ≤ 100000000 then (Q.octets_Check.f a0).bind fun e => if e = 0 then (if everyB plainP a0 = true then some (a0, 0) else some (⟨(quoted a0).toArray⟩, 0)) else some (⟨#[]⟩, e)
  else none

theorem quote_data (t : List UInt8) : ((⟨#[39]⟩ : ByteArray) ++ (⟨t.toArray⟩ : ByteArray)) ++ (⟨#[39]⟩ : ByteArray) = ⟨(39 :: (t ++ [39])).toArray⟩ := by
  apply ByteArray.ext
  apply Array.toList_inj.1
  rw [ByteArray.data_append, Array.toList_append, ByteArray.data_append, Array.toList_append]
  rfl

set_option maxHeartbeats 4000000 in
set_option maxRecDepth 100000 in
theorem octets_Quote.calls (a0 : ByteArray) (r1 : ByteArray) (r2 : Int) (w : World) (h : octets_Quote.f a0 = some (r1, r2)) :
    Calls Tryd.prog 9 #[.string a0] w fun e w' => e = .returned (.tuple #[.string r1, .int .i64 r2]) ∧ Below w.heap.size w w' := by
  unfold octets_Quote.f at h
  split at h
  case isFalse => cases h
  rename_i hsz
  obtain ⟨c, hc, h⟩ := Option.bind_eq_some_iff.1 h
  have HC := Lib.hid (fun w => Q.octets_Check.calls a0 c w hc)
  have HP := Lib.hid (fun w => octets_Plain.calls a0 (everyB plainP a0) w (by unfold octets_Plain.f; rw [if_pos (Nat.le_trans hsz (by decide))]))
  by_cases h0 : c = 0
  · subst h0
    rw [if_pos rfl] at h
    cases hp : everyB plainP a0
    · rw [hp, if_neg (by simp)] at h
      rw [hp] at HP
      simp only [Option.some.injEq, Prod.mk.injEq] at h
      obtain ⟨rfl, rfl⟩ := h
      have hcl : a0.data.toList.count 39 ≤ a0.data.toList.length := List.count_le_length
      have hl : a0.data.toList.length = a0.size := by simp
      have h4 : (⟨#[39, 92, 39, 39]⟩ : ByteArray).size = 4 := rfl
      have hra : strings_ReplaceAll.f a0 ⟨#[39]⟩ ⟨#[39, 92, 39, 39]⟩ = some ⟨(repL 39 [39, 92, 39, 39] a0.data.toList).toArray⟩ := by
        unfold strings_ReplaceAll.f
        show (if _ then _ else _) = _
        rw [if_pos ⟨by intro e; have := congrArg (fun b : ByteArray => b.data.toList) e; simp at this, by rw [h4]; decide, by rw [h4]; omega⟩]
      have hrs : (⟨(repL 39 [39, 92, 39, 39] a0.data.toList).toArray⟩ : ByteArray).size ≤ 1000000000 := by
        show (repL 39 [39, 92, 39, 39] a0.data.toList).toArray.size ≤ _
        rw [List.size_toArray, repL_len]
        show a0.data.toList.length - _ + _ * 4 ≤ _
        omega
      have HRA := Lib.hid (fun w => strings_ReplaceAll.calls a0 ⟨#[39]⟩ ⟨#[39, 92, 39, 39]⟩ _ w hra)
      have HQ := Lib.hid (quote_data (repL 39 [39, 92, 39, 39] a0.data.toList))
      unfold quoted
      generalize (repL 39 [39, 92, 39, 39] a0.data.toList) = t at *
      clear hra hc hp hcl hl hsz h4
      have hrs1 : (1 : Nat) + (⟨t.toArray⟩ : ByteArray).size ≤ 9223372036854775807 := by omega
      have hrs2 : ((⟨#[39]⟩ : ByteArray) ++ (⟨t.toArray⟩ : ByteArray)).size + 1 ≤ 9223372036854775807 := by
        rw [ByteArray.size_append]
        have : (⟨#[39]⟩ : ByteArray).size = 1 := rfl
        omega
      generalize (⟨t.toArray⟩ : ByteArray) = T at *
      go_enter Tryd.func9, Tryd.ntmps9
      go_wp2_with fail
      refine (HC.out _).mono ?_
      rintro e w1 ⟨rfl, ⟨n1, rfl⟩⟩
      go_wp2_with fail
      refine (HP.out _).mono ?_
      rintro e w2 ⟨rfl, hb2⟩
      have HB2 := Lib.hid hb2
      clear hb2
      go_wp2_with fail
      refine (HRA.out _).mono ?_
      rintro e w3 ⟨rfl, hb3⟩
      have HB3 := Lib.hid hb3
      clear hb3
      go_wp2_with fail
      go_ret2
      exact ⟨by rw [← HQ.out]; rfl, (pw_below_drewN (Below.refl _ w) n1).trans ((HB2.out.trans (HB3.out.mono HB2.out.size)).mono (pw_below_drewN (Below.refl w.heap.size w) n1).size)⟩
    · rw [hp, if_pos rfl] at h
      rw [hp] at HP
      simp only [Option.some.injEq, Prod.mk.injEq] at h
      obtain ⟨rfl, rfl⟩ := h
      clear hc hp
      go_enter Tryd.func9, Tryd.ntmps9
      go_wp2_with fail
      refine (HC.out _).mono ?_
      rintro e w1 ⟨rfl, ⟨n1, rfl⟩⟩
      go_wp2_with fail
      refine (HP.out _).mono ?_
      rintro e w2 ⟨rfl, hb2⟩
      have HB2 := Lib.hid hb2
      clear hb2
      go_wp2_with fail
      go_ret2
      exact ⟨rfl, (pw_below_drewN (Below.refl _ w) n1).trans (HB2.out.mono (pw_below_drewN (Below.refl w.heap.size w) n1).size)⟩
  · rw [if_neg h0] at h
    simp only [Option.some.injEq, Prod.mk.injEq] at h
    obtain ⟨rfl, rfl⟩ := h
    have hne : (c == 0) = false := beq_eq_false_iff_ne.2 h0
    clear hc HP
    go_enter Tryd.func9, Tryd.ntmps9
    go_wp2_with fail
    refine (HC.out _).mono ?_
    rintro e w1 ⟨rfl, ⟨n1, rfl⟩⟩
    go_wp2_with fail
    go_ret2
    exact ⟨rfl, pw_below_drewN (Below.refl _ w) n1⟩

end Go.Proofs.YteobnfcdlcemlaaDoor.Ext
