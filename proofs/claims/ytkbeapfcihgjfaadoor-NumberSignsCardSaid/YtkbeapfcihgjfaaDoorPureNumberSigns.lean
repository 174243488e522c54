/- Proved: the law NumberSigns over texts and numbers alone: blanks around change nothing; a minus ahead of digits is the opposite, a plus nothing; for every text and int. -/
import Derived.Test.YtkbeapfcihgjfaaDoorP35
import Derived.Test.YtkbeapfcihgjfaaDoorPureNumberBack
namespace Go.Proofs.YtkbeapfcihgjfaaDoor.PureSigns
open Go.RowKit Go.Proofs.YtkbeapfcihgjfaaDoor.Ext Go.Proofs.YtkbeapfcihgjfaaDoor.P Go.Proofs.YtkbeapfcihgjfaaDoorW.PrintWords

theorem small_n (b : Int) : ∃ n : Nat, n ≤ 8 ∧ Int.tmod (wrap64 ((Int.tmod b 9) + 9)) 9 = n := by
  have h1 := Int.tmod_lt_of_pos b (show (0 : Int) < 9 by omega)
  have h2 := Int.lt_tmod_of_pos b (show (0 : Int) < 9 by omega)
  have h3 : wrap64 ((Int.tmod b 9) + 9) = Int.tmod b 9 + 9 := by
    unfold wrap64
    omega
  rw [h3, Int.tmod_eq_emod_of_nonneg (by omega)]
  exact ⟨((Int.tmod b 9 + 9) % 9).toNat, by omega, by omega⟩

theorem blanks : ∀ n : Fin 9, ((⟨#[32, 32, 32, 32, 32, 32, 32, 32, 32]⟩ : ByteArray).extract 0 n.val).data.toList = List.replicate n.val 32 := by decide +kernel

theorem parse_blanks (l : List UInt8) (n : Nat) : parseL (List.replicate n 32 ++ l ++ List.replicate n 32) = parseL l := by
  have hb : ∀ x ∈ List.replicate n (32 : UInt8), ([32, 9] : List UInt8).contains x = true := by
    intro x hx
    rw [(List.mem_replicate.1 hx).2]
    decide
  unfold parseL
  rw [trim_around _ _ _ _ hb hb]

theorem parse_signed (l : List UInt8) (n : Int) (h : digitsGo 10 l 0 = some n) (hl : l ≠ []) :
    parseL (45 :: l) = (wrap64 (IntKind.u64.wrap (-n)), 0) ∧ parseL (43 :: l) = (wrap64 n, 0) := by
  have hd := read_digits l 0 (by rw [h]; rfl)
  have hb : ∀ x ∈ l, ([32, 9] : List UInt8).contains x = false := fun x hx => blank_digit (hd x hx)
  constructor
  · unfold parseL
    rw [trim_id (45 :: l) [32, 9] (fun x hx => by
      rcases List.mem_cons.1 hx with rfl | hx
      · decide
      · exact hb x hx)]
    show (match digitsGo 10 l 0 with | none => _ | some n => _) = _
    rw [h]
    simp only [signL, if_true]
    rw [if_neg hl]
  · unfold parseL
    rw [trim_id (43 :: l) [32, 9] (fun x hx => by
      rcases List.mem_cons.1 hx with rfl | hx
      · decide
      · exact hb x hx)]
    have e : signL (43 :: l) = (l, false) := rfl
    rw [e]
    show (match digitsGo 10 l 0 with | none => _ | some n => _) = _
    rw [h]
    show (if l = [] then _ else _) = _
    rw [if_neg hl]
    rfl

theorem opposite (m n : Int) (h : wrap64 m = n) : wrap64 (IntKind.u64.wrap (-m)) = wrap64 (-n) := by
  subst h
  rw [IntKind.wrap_u64]
  unfold wrap64
  omega

/-- A literal that does not begin with 0 is read in tens. -/
theorem lit_ten (s : ByteArray) (hs : s.size ≤ 9223372036854775807) (c : Int) (h : number_Literal.f s = some (c, 0)) (h0 : bt s 0 ≠ 48) :
    ∃ n, digitsGo 10 s.data.toList 0 = some n ∧ s.data.toList ≠ [] ∧ c = wrap64 n := by
  unfold number_Literal.f at h
  rw [if_pos hs, if_neg (fun e => h0 e.2)] at h
  unfold number_digits.f at h
  rw [if_pos ⟨by omega, by omega, hs⟩] at h
  cases e : digitsGo 10 s.data.toList 0 with
  | none => rw [e] at h; simp [litTell] at h
  | some n =>
    rw [e] at h
    simp only [litTell, Option.some.injEq] at h
    rw [Lib.toList_data] at h
    cases hl : s.data.toList with
    | nil => rw [hl] at h; simp at h
    | cons x l =>
      rw [hl] at h
      simp at h
      exact ⟨n, rfl, by simp, h.symm⟩
theorem lit_some (s : ByteArray) (hs : s.size ≤ 9223372036854775807) : ∃ c e, number_Literal.f s = some (c, e) ∧ (e = 0 → s.data.toList ≠ []) := by
  unfold number_Literal.f
  rw [if_pos hs]
  have key : ∀ (t : ByteArray) (b : Int), t.size ≤ s.size → 0 ≤ b → b ≤ 16 → ∃ c e, litTell (number_digits.f t b) = some (c, e) ∧ (e = 0 → s.data.toList ≠ []) := by
    intro t b ht h0 h1
    unfold number_digits.f
    rw [if_pos ⟨h0, h1, by omega⟩]
    cases e : digitsGo b t.data.toList 0 with
    | none => exact ⟨0, 33, rfl, by omega⟩
    | some n =>
      simp only [litTell]
      rw [Lib.toList_data]
      cases hl : t.data.toList with
      | nil => exact ⟨0, 33, rfl, by omega⟩
      | cons x l =>
        refine ⟨wrap64 n, 0, by simp, fun _ hn => ?_⟩
        have h2 := ba_size t
        have h3 := ba_size s
        rw [hl] at h2
        rw [hn] at h3
        simp only [List.length_cons, List.length_nil] at h2 h3
        omega
  split
  · split
    · exact key _ _ (by rw [ByteArray.size_extract]; omega) (by omega) (by omega)
    · exact key _ _ (by rw [ByteArray.size_extract]; omega) (by omega) (by omega)
  · exact key _ _ (Nat.le_refl _) (by omega) (by omega)

theorem NumberSigns : cowrielaw04_NumberSigns.Pure := by
  intro s b hs _
  obtain ⟨n, hn, e⟩ := small_n b
  have hsz : s.size ≤ 9223372036854775807 := by omega
  refine ⟨2, ?_⟩
  have hbl := blanks ⟨n, by omega⟩
  unfold cowrielaw04_NumberSigns.f
  rw [PureBack.alive_ok, e]
  simp only [Option.bind_some, if_true, Int.toNat_natCast]
  generalize hB : ((⟨#[32, 32, 32, 32, 32, 32, 32, 32, 32]⟩ : ByteArray).extract 0 n) = B
  have hB' : B.data.toList = List.replicate n 32 := by rw [← hB]; exact hbl
  have hBs : B.size = n := by rw [ba_size, hB', List.length_replicate]
  have e1 : (B ++ s).size = n + s.size := by rw [ByteArray.size_append, hBs]
  have e2 : (B ++ s ++ B).size = n + s.size + n := by rw [ByteArray.size_append, e1, hBs]
  rw [if_pos (by omega), if_pos (by omega), parse_spec s hsz, parse_spec (B ++ s ++ B) (by omega)]
  simp only [Option.bind_some]
  rw [if_pos (by omega), if_pos (by omega)]
  have e3 : parseL (B ++ s ++ B).data.toList = parseL s.data.toList := by
    rw [ByteArray.data_append, ByteArray.data_append, Array.toList_append, Array.toList_append, hB']
    exact parse_blanks _ n
  rw [e3]
  simp only [if_true, bne_self_eq_false]
  simp only [cowrielaw04_NumberSigns.j0]
  rw [if_neg (by simp)]
  obtain ⟨c, er, hl, hne⟩ := lit_some s hsz
  have hm : (((⟨#[45]⟩ : ByteArray) ++ s)).data.toList = 45 :: s.data.toList := by simp
  have hp : (((⟨#[43]⟩ : ByteArray) ++ s)).data.toList = 43 :: s.data.toList := by simp
  have hms : (((⟨#[45]⟩ : ByteArray) ++ s)).size = 1 + s.size := by rw [ByteArray.size_append]; rfl
  have hps : (((⟨#[43]⟩ : ByteArray) ++ s)).size = 1 + s.size := by rw [ByteArray.size_append]; rfl
  rw [hl, parse_spec _ (by omega), parse_spec _ (by omega), hm, hp]
  simp only [Option.bind_some, cowrielaw04_num.f]
  rw [if_pos (by omega)]
  by_cases h0 : er = 0
  · rw [if_pos h0]
    have hpos : 0 < s.size := by
      rw [ba_size]
      exact List.length_pos_iff.2 (hne h0)
    rw [if_pos (by omega)]
    simp only [cowrielaw04_NumberSigns.j1]
    by_cases hz : bt s 0 = 48
    · rw [if_pos (by rw [hz]; rfl)]
    · rw [if_neg (by simpa using hz)]
      subst h0
      obtain ⟨m, h1, h2, h3⟩ := lit_ten s hsz c hl hz
      obtain ⟨p1, p2⟩ := parse_signed _ m h1 h2
      rw [p1, p2]
      simp only [Option.bind_some, cowrielaw04_num.f]
      rw [if_pos (by decide +kernel), if_pos (opposite m c h3.symm), h3]
      simp
  · rw [if_neg h0]
    simp [cowrielaw04_NumberSigns.j1]

end Go.Proofs.YtkbeapfcihgjfaaDoor.PureSigns
namespace Go.Proofs.YtkbeapfcihgjfaaDoor.Pure
theorem NumberSigns : P.cowrielaw04_NumberSigns.Pure := PureSigns.NumberSigns
end Go.Proofs.YtkbeapfcihgjfaaDoor.Pure
