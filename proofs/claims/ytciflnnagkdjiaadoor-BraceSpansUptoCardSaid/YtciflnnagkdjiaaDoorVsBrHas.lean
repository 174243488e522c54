/- Proved: what a span makes is short and has nothing special; brace.Has' call. Conditions: at most 10 to the 9 items; MaxLen holds a number. -/
import Derived.Test.YtciflnnagkdjiaaDoorVsBrWord
import Derived.Test.YtciflnnagkdjiaaDoorVsBrExpand
set_option linter.unusedVariables false
set_option linter.unusedSimpArgs false
namespace Go.Proofs.YtciflnnagkdjiaaDoor.Ext
open Go.RowKit Go.Proofs.YtciflnnagkdjiaaDoorW.PrintWords
theorem decs_tame : ∀ (k n : Nat), n ≤ k → ∀ c ∈ decs n, 48 ≤ c.toNat ∧ c.toNat ≤ 57
  | k, n, hn, c, hc => by
    rw [decs] at hc
    split at hc
    · rename_i h
      rw [List.mem_singleton.1 hc]
      show 48 ≤ (UInt8.ofNat (48 + n)).toNat ∧ (UInt8.ofNat (48 + n)).toNat ≤ 57
      rw [UInt8.toNat_ofNat']
      omega
    · rename_i h
      rcases List.mem_append.1 hc with hc | hc
      · cases k with
        | zero => omega
        | succ k => exact decs_tame k (n / 10) (by omega) c hc
      · rw [List.mem_singleton.1 hc]
        show 48 ≤ (UInt8.ofNat (48 + n % 10)).toNat ∧ (UInt8.ofNat (48 + n % 10)).toNat ≤ 57
        rw [UInt8.toNat_ofNat']
        omega
theorem oct_tame {c : UInt8} (h : c ≠ 123 ∧ c ≠ 125 ∧ c ≠ 44) : tame (.oct c) :=
  ⟨beq_eq_false_iff_ne.2 h.1, beq_eq_false_iff_ne.2 h.2.1, beq_eq_false_iff_ne.2 h.2.2⟩
theorem ne_of_nat {c d : UInt8} (h : c.toNat ≠ d.toNat) : c ≠ d := fun e => h (by rw [e])
theorem dec_tame (n : Int) : ∀ c ∈ decsInt n, c ≠ 123 ∧ c ≠ 125 ∧ c ≠ 44 := by
  intro c hc
  have hd : ∀ c ∈ decs n.natAbs, c ≠ 123 ∧ c ≠ 125 ∧ c ≠ 44 := fun c hc => by
    have h := decs_tame _ _ (Nat.le_refl _) c hc
    exact ⟨ne_of_nat (by show c.toNat ≠ 123; omega), ne_of_nat (by show c.toNat ≠ 125; omega), ne_of_nat (by show c.toNat ≠ 44; omega)⟩
  unfold decsInt at hc
  split at hc
  · rcases List.mem_cons.1 hc with rfl | hc
    · decide
    · exact hd c hc
  · exact hd c hc
/-- What a span's words are. -/
theorem spanGo_mem {let_ : Bool} {b step lo hi : Int} (hs : step = 1 ∧ lo ≤ b ∧ b ≤ hi ∨ step = -1 ∧ lo ≤ b ∧ b ≤ hi) : ∀ (k : Nat) (n : Int), (step = 1 → lo ≤ n ∧ n ≤ b) → (step = -1 → b ≤ n ∧ n ≤ hi) → ∀ x ∈ spanGo let_ b step k n, ∃ m, lo ≤ m ∧ m ≤ hi ∧ x = (rowText let_ m).map ItemS.oct
  | 0, _, _, _, x, hx => by simp [spanGo] at hx
  | k + 1, n, h1, h2, x, hx => by
    rw [spanGo] at hx
    rcases List.mem_cons.1 hx with rfl | hx
    · rcases hs with ⟨hs, h3, h4⟩ | ⟨hs, h3, h4⟩
      · have := h1 hs; exact ⟨n, by omega, by omega, rfl⟩
      · have := h2 hs; exact ⟨n, by omega, by omega, rfl⟩
    · split at hx
      · simp at hx
      · rename_i hnb
        refine spanGo_mem hs k (n + step) (fun h => ?_) (fun h => ?_) x hx
        · have := h1 h; omega
        · have := h2 h; omega
theorem octs_le (l : List ItemS) : (octs l).length ≤ l.length := List.length_filterMap_le _ _
theorem span_rows {l : List ItemS} (hl : l.length ≤ 1000000000) : ∀ x ∈ spanB l, x.length ≤ 20 ∧ ∀ c ∈ x, tame c := by
  intro x hx
  unfold spanB at hx
  split at hx
  · simp at hx
  · cases he : ends4 ⟨(octs l).toArray⟩ with
    | none => rw [he] at hx; simp at hx
    | some t =>
      obtain ⟨a, b, let_⟩ := t
      rw [he] at hx
      dsimp only at hx
      have hsz : (⟨(octs l).toArray⟩ : ByteArray).size ≤ 1000000000 := by
        have := octs_le l
        show (octs l).toArray.size ≤ _
        simp
        omega
      obtain ⟨⟨r1, r2, r3, r4⟩, rl⟩ := ends_range _ hsz a b let_ he
      have hm : ∃ m, min a b ≤ m ∧ m ≤ max a b ∧ x = (rowText let_ m).map ItemS.oct := by
        split at hx
        · exact spanGo_mem (.inr ⟨rfl, by omega, by omega⟩) 257 a (fun h => by cases h) (fun _ => by omega) x hx
        · exact spanGo_mem (.inl ⟨rfl, by omega, by omega⟩) 257 a (fun _ => by omega) (fun h => by cases h) x hx
      obtain ⟨m, hm1, hm2, rfl⟩ := hm
      cases let_ with
      | false =>
        refine ⟨decsInt_len (by omega), fun c hc => ?_⟩
        obtain ⟨d, hd, rfl⟩ := List.mem_map.1 hc
        exact oct_tame (dec_tame m d hd)
      | true =>
        refine ⟨by simp [rowText], fun c hc => ?_⟩
        obtain ⟨d, hd, rfl⟩ := List.mem_map.1 hc
        have hd2 : d = m.toNat.toUInt8 := by simpa [rowText] using hd
        have hdn : d.toNat = m.toNat := by
          rw [hd2]
          show (UInt8.ofNat m.toNat).toNat = m.toNat
          rw [UInt8.toNat_ofNat']
          have := rl rfl
          omega
        have h2 := rl rfl
        exact oct_tame ⟨ne_of_nat (by show d.toNat ≠ 123; omega), ne_of_nat (by show d.toNat ≠ 125; omega), ne_of_nat (by show d.toNat ≠ 44; omega)⟩
/-- What is short, and nothing else. -/
def spanS : SpanF := fun l => if l.length ≤ 1000000000 then spanB l else []
theorem spanS_fine : SpanFine spanS := by
  intro l x hx
  unfold spanS at hx
  split at hx
  · rename_i h; exact span_rows h x hx
  · simp at hx
theorem spanS_ok : SpanOk spanS := by
  intro A c l w hmx hr hc hl
  have := span_calls A c l w hmx hr hc hl
  unfold spanS
  rw [if_pos hl]
  exact this
set_option maxHeartbeats 2000000 in
theorem has_calls (A : Option Addr) (c : Nat) (ps : List PartS) (w : World) (hmx : MX w) (hr : Kd.C kP w A ps.length ps) (hc : ps.length ≤ c) (hl : (itemsP ps).length ≤ 1000000000) :
    Calls Tryd.prog 10 #[.agg #[.slice A ps.length c]] w fun e w' => e = .returned (.bool (foundF spanS (itemsP ps)).isSome) ∧ Below w.heap.size w w' := by
  have HI := Lib.hid (fun w hr => items_calls A c ps w hr hc (by omega))
  have HF := Lib.hid (fun A c w => found_calls spanS spanS_ok A c (itemsP ps) w)
  have HR := Lib.hid hr
  have HMX := Lib.hid hmx
  have HL := Lib.hid hl
  clear hr hmx hl
  go_enter Tryd.func10, Tryd.ntmps10
  go_wp2_with fail
  have hb0 := (Below.refl _ w).alloc (Nat.le_refl _) (.cells #[.slice A ps.length c] 28)
  refine (HI.out _ (Kd.C_below HR.out hb0)).mono ?_
  rintro e w1 ⟨v, rfl, hR1, hb1⟩
  obtain ⟨A1, c1, hv, hc1, hC1⟩ := Kd.R_reads hR1
  subst hv
  have hci : CI w1 A1 (itemsP ps) := ⟨hC1, fun hp a ha => by
    subst ha
    obtain ⟨g, cap, he, _, _, cells, hc⟩ := Kd.R_form hR1 hp
    injection he with he
    injection he with he
    subst he
    exact ⟨cells, hc⟩⟩
  have HCI := Lib.hid hci
  have HB1 := Lib.hid (below_step hb0 hb1)
  clear hR1 hC1 hci hb0 hb1
  generalize hF : foundF spanS (itemsP ps) = r at *
  have hFC := HF.out A1 c1 w1 (HMX.out.below HB1.out) HCI.out hc1 HL.out
  have HFC := Lib.hid hFC
  have HFF := Lib.hid hF
  clear hFC hF
  go_wp2_with fail
  refine HFC.out.mono ?_
  rintro e w2 ⟨hs, hb2⟩
  have HB2 := Lib.hid (below_step HB1.out hb2)
  clear hb2
  cases r with
  | none =>
    obtain rfl : e = _ := hs
    go_wp2_with fail
    go_ret
    exact ⟨by rw [HFF.out]; rfl, HB2.out⟩
  | some t =>
    obtain ⟨i, q, n⟩ := t
    obtain ⟨v2, A2, c2, A3, c3, m, _, rfl, _⟩ := hs
    go_wp2_with fail
    go_ret
    exact ⟨by rw [HFF.out]; rfl, HB2.out⟩
end Go.Proofs.YtciflnnagkdjiaaDoor.Ext
