/- Proved: slices.IndexFunc's and ContainsFunc's calls at octets, and octets.every's: whatever function is handed in. Condition: the text is of at most 10 to the 9 octets. -/
import Derived.Test.YtlbgnpllbogkeaaDoorVkShelf
import Derived.Test.YtlbgnpllbogkeaaDoorVkWWords
import Derived.Lib.Hide
set_option linter.unusedVariables false
namespace Go.Proofs.YtlbgnpllbogkeaaDoor.Ext
open Go.RowKit Go.Proofs.YtlbgnpllbogkeaaDoorW.PrintWords
theorem cell_conv (w : World) (e : TypeId) (s : ByteArray) (cap : Nat) (fr : Nat × Nat) (j : Nat) (hj : j < s.size) :
    ((w.alloc (.cells (bytesRow s cap) e fr)).drew).cell? ⟨w.heap.size, j, none⟩ = some (.int .u8 (s.data.toList.getD j 0).toNat) := by
  have h1 : ((w.alloc (.cells (bytesRow s cap) e fr)).drew).heap[w.heap.size]? = some (.cells (bytesRow s cap) e fr) := heap_alloc_new w _
  have h2 := bytesRow_at s cap j hj
  have h3 : s.data.toList.getD j 0 = s.data[j] := by
    rw [List.getD_eq_getElem?_getD, List.getElem?_eq_getElem (by simpa using hj)]
    simp
  rw [h3]
  unfold World.cell?
  rw [h1]
  exact h2
/-- The first place at which p holds; below 0: there is none. -/
def firstP (p : Nat → Bool) : List UInt8 → Nat → Int
  | [], _ => -1
  | c :: l, i => if p c.toNat then (i : Int) else firstP p l (i + 1)
theorem firstP_drop (p : Nat → Bool) (l : List UInt8) (k i : Nat) (hk : k < l.length) : firstP p (l.drop k) i = if p (l.getD k 0).toNat then (i : Int) else firstP p (l.drop (k + 1)) (i + 1) := by
  rw [List.drop_eq_getElem_cons hk, firstP, List.getD_eq_getElem?_getD, List.getElem?_eq_getElem hk]
  rfl
theorem firstP_any (p : Nat → Bool) : ∀ (l : List UInt8) (i : Nat), decide (firstP p l i ≥ 0) = l.any fun c => p c.toNat
  | [], i => by simp [firstP]
  | c :: l, i => by
    rw [firstP, List.any_cons]
    cases h : p c.toNat
    · rw [if_neg (by simp), firstP_any p l (i + 1)]; rfl
    · rw [if_pos rfl, Bool.true_or]; exact decide_eq_true (by omega)
/-- What is asked of a function that is handed in: at each octet, in every later world, it tells p and turns nothing. -/
def Pred (gN : Nat) (lb : Array Value) (p : Nat → Bool) (w : World) : Prop :=
  ∀ (W : World) (c : UInt8), Below w.heap.size w W → Calls Tryd.prog gN (#[.int .u8 c.toNat] ++ lb) W fun e w' => e = .returned (.bool (p c.toNat)) ∧ Below W.heap.size W w'
set_option maxHeartbeats 4000000 in
theorem indexFunc_calls (gN : Nat) (lb : Array Value) (p : Nat → Bool) (s : ByteArray) (b cap : Nat) (w : World) (eg : ∀ args w, (callFunc gN args).run Tryd.prog w = .ok (.enter gN args) w)
    (hp : Pred gN lb p w) (hc : ∀ j, j < s.size → w.cell? ⟨b, j, none⟩ = some (.int .u8 (s.data.toList.getD j 0).toNat)) (hb : b < w.heap.size) (hsz : s.size ≤ 1000000000) :
    Calls Tryd.prog 89 #[.slice (some ⟨b, 0, none⟩) s.size cap, .func (.func gN) #[] lb] w fun e w' => e = .returned (.int .i64 (firstP p s.data.toList 0)) ∧ Below w.heap.size w w' := by
  have HP := Lib.hid hp
  have HC := Lib.hid hc
  have hln : s.data.toList.length = s.size := by simp
  have HL := Lib.hid hln
  clear hp hc hln
  go_enter Tryd.func89, Tryd.ntmps89
  go_wp2_with fail
  go_loopw [8] (fun i wr => ∃ (k : Nat), k ≤ s.size ∧ i = .int .i64 k ∧ firstP p s.data.toList 0 = firstP p (s.data.toList.drop k) k ∧ Below w.heap.size w wr) (fun i _ => s.size - (intOf i).toNat)
  case atStart => exact ⟨0, Nat.zero_le _, rfl, rfl, Below.refl _ _⟩
  case round =>
    obtain ⟨k, hk, rfl, hf, hbw⟩ := hrel
    have HBW := Lib.hid hbw
    by_cases hlt : k < s.size
    · have hst := firstP_drop p s.data.toList k k (by rw [HL.out]; exact hlt)
      have hcell : wr.cell? ⟨b, k, none⟩ = some (.int .u8 (s.data.toList.getD k 0).toNat) := by
        rw [hbw.cell (p := ⟨b, k, none⟩) hb]
        exact HC.out k hlt
      rw [← hf] at hst
      generalize (s.data.toList.getD k 0) = c at *
      have HST := Lib.hid hst
      clear hst hbw hf
      go_wp2_with fail
      refine (HP.out wr c HBW.out).mono ?_
      rintro e w2 ⟨rfl, hb2⟩
      have HB2 := Lib.hid (HBW.out.trans (hb2.mono HBW.out.size))
      clear hb2
      cases hpc : p c.toNat
      · rw [hpc, if_neg (by simp)] at HST
        clear hpc
        go_wp2_with fail
        go_roundw
        case rel => exact ⟨k + 1, by omega, by go_num, HST.out, HB2.out⟩
        case measure => simp [intOf]; omega
      · rw [hpc, if_pos rfl] at HST
        clear hpc
        go_wp2_with fail
        go_ret
        exact ⟨by rw [HST.out]; rfl, HB2.out⟩
    · obtain rfl : k = s.size := by omega
      rw [List.drop_of_length_le (by rw [HL.out]; omega)] at hf
      have HF := Lib.hid hf
      clear hf hbw
      go_wp2_with fail
      go_ret
      exact ⟨by rw [HF.out]; rfl, HBW.out⟩
set_option maxHeartbeats 1000000 in
theorem containsFunc_calls (gN : Nat) (lb : Array Value) (p : Nat → Bool) (s : ByteArray) (b cap : Nat) (w : World) (eg : ∀ args w, (callFunc gN args).run Tryd.prog w = .ok (.enter gN args) w)
    (hp : Pred gN lb p w) (hc : ∀ j, j < s.size → w.cell? ⟨b, j, none⟩ = some (.int .u8 (s.data.toList.getD j 0).toNat)) (hb : b < w.heap.size) (hsz : s.size ≤ 1000000000) :
    Calls Tryd.prog 82 #[.slice (some ⟨b, 0, none⟩) s.size cap, .func (.func gN) #[] lb] w fun e w' => e = .returned (.bool (s.data.toList.any fun c => p c.toNat)) ∧ Below w.heap.size w w' := by
  have HI := Lib.hid (indexFunc_calls gN lb p s b cap w eg hp hc hb hsz)
  have HA := Lib.hid (firstP_any p s.data.toList 0)
  generalize firstP p s.data.toList 0 = n at *
  generalize (s.data.toList.any fun c => p c.toNat) = y at *
  clear hp hc
  go_enter Tryd.func82, Tryd.ntmps82
  go_wp2_with fail
  refine HI.out.mono ?_
  rintro e w2 ⟨rfl, hb2⟩
  have HB2 := Lib.hid hb2
  clear hb2
  go_wp2_with fail
  go_ret
  exact ⟨by rw [← HA.out]; rfl, HB2.out⟩
/-- The function within every: not what is handed in. -/
theorem every_fn (gN : Nat) (lb : Array Value) (p : Nat → Bool) (B : Nat) (w : World) (eg : ∀ args w, (callFunc gN args).run Tryd.prog w = .ok (.enter gN args) w)
    (hp : Pred gN lb p w) (hB : B < w.heap.size) (hcell : w.cell? ⟨B, 0, none⟩ = some (.func (.func gN) #[] lb)) :
    Pred 83 #[.pointer (some ⟨B, 0, none⟩)] (fun c => !p c) w := by
  intro W c hb
  have hc2 : W.cell? ⟨B, 0, none⟩ = some (.func (.func gN) #[] lb) := (hb.cell (p := ⟨B, 0, none⟩) hB).trans hcell
  have HP := Lib.hid (hp W c hb)
  clear hp hb hcell
  dsimp only
  generalize p c.toNat = y at *
  go_enter Tryd.func83, Tryd.ntmps83
  go_wp2_with fail
  refine HP.out.mono ?_
  rintro e w2 ⟨rfl, hb2⟩
  have HB2 := Lib.hid hb2
  clear hb2
  go_wp2_with fail
  go_ret
  exact ⟨rfl, HB2.out⟩
def everyB (p : Nat → Bool) (s : ByteArray) : Bool := !decide (s.size = 0) && s.data.toList.all fun c => p c.toNat
theorem Pred.later {gN : Nat} {lb : Array Value} {p : Nat → Bool} {w W : World} (h : Pred gN lb p w) (hb : Below w.heap.size w W) : Pred gN lb p W :=
  fun W' c hb' => h W' c (hb.trans (hb'.mono hb.size))
theorem ne_size {s : ByteArray} (h : ¬ s.size = 0) : s.toList.isEmpty = false := by
  rw [Lib.toList_data]
  cases e : s.data.toList with
  | nil => exact absurd (by rw [Lib.size_eq, e]; rfl) h
  | cons b l => rfl
theorem eq_size {s : ByteArray} (h : s.size = 0) : s.toList.isEmpty = true := by
  rw [Lib.toList_data, List.isEmpty_iff]
  exact List.eq_nil_of_length_eq_zero (by rw [← Lib.size_eq]; exact h)
set_option maxHeartbeats 4000000 in
set_option maxRecDepth 100000 in
theorem every_calls (gN : Nat) (lb : Array Value) (p : Nat → Bool) (s : ByteArray) (w : World) (eg : ∀ args w, (callFunc gN args).run Tryd.prog w = .ok (.enter gN args) w)
    (hp : Pred gN lb p w) (hsz : s.size ≤ 1000000000) :
    Calls Tryd.prog 71 #[.string s, .func (.func gN) #[] lb] w fun e w' => e = .returned (.bool (everyB p s)) ∧ Below w.heap.size w w' := by
  unfold everyB
  by_cases h0 : s.size = 0
  · rw [decide_eq_true h0]
    have h1 := eq_size h0
    clear hp
    go_enter Tryd.func71, Tryd.ntmps71
    go_wp2_with fail
    go_ret
    exact ⟨rfl, (Below.refl _ _).alloc (Nat.le_refl _) _⟩
  · rw [decide_eq_false h0]
    have h1 := ne_size h0
    have eg2 := enters_of Tryd.func83 (by kernel_rfl) rfl
    have ec := enters_of Tryd.func82 (by kernel_rfl) rfl
    obtain ⟨W1, hW1⟩ : ∃ W1, W1 = w.alloc (.cells #[.func (.func gN) #[] lb] 81) := ⟨_, rfl⟩
    have hB1 : Below w.heap.size w W1 := by rw [hW1]; exact (Below.refl _ _).alloc (Nat.le_refl _) _
    have hbox : W1.cell? ⟨w.heap.size, 0, none⟩ = some (.func (.func gN) #[] lb) := by rw [hW1]; simp
    have hlt1 : w.heap.size < W1.heap.size := by rw [hW1]; simp
    have hconv := run_bytes_of_string (P := Tryd.prog) W1 9 80 5 s Tryd.underlying9 Tryd.underlying80 Tryd.underlying5
    generalize hcap : grownCap W1 s.size 0 5 = cap at hconv
    clear hcap
    have hcell := cell_conv W1 5 s cap ((bytesRow s cap).size, (bytesRow s cap).size + 1)
    generalize (bytesRow s cap) = C at hconv hcell
    have hB2 : Below W1.heap.size W1 ((W1.alloc (.cells C 5 (C.size, C.size + 1))).drew) := ((Below.refl _ _).alloc (Nat.le_refl _) _).drew
    have hlt2 : W1.heap.size < ((W1.alloc (.cells C 5 (C.size, C.size + 1))).drew).heap.size := by simp
    have e1 : W1.heap.size = w.heap.size + 1 := by rw [hW1]; simp
    obtain ⟨W2, hW2⟩ : ∃ W2, W2 = ((W1.alloc (.cells C 5 (C.size, C.size + 1))).drew) := ⟨_, rfl⟩
    rw [← hW2] at hcell hB2 hlt2
    have hB3 : Below w.heap.size w W2 := hB1.trans (hB2.mono (Nat.le_of_lt hlt1))
    have hbox2 : W2.cell? ⟨w.heap.size, 0, none⟩ = some (.func (.func gN) #[] lb) := (hB2.cell (p := ⟨w.heap.size, 0, none⟩) hlt1).trans hbox
    have HCF := Lib.hid (containsFunc_calls 83 #[.pointer (some ⟨w.heap.size, 0, none⟩)] (fun c => !p c) s W1.heap.size cap W2 eg2
      (every_fn gN lb p w.heap.size W2 eg (hp.later hB3) (Nat.lt_trans hlt1 hlt2) hbox2) hcell hlt2 hsz)
    have HB3 := Lib.hid hB3
    have hall : (!(s.data.toList.any fun c => !p c.toNat)) = s.data.toList.all fun c => p c.toNat := by rw [List.all_eq_not_any_not]
    have HALL := Lib.hid hall
    have HCONV := Lib.hid hconv
    clear hp hsz hB1 hbox hlt1 hcell hB2 hlt2 hB3 hbox2 hall hconv
    generalize (s.data.toList.any fun c => !p c.toNat) = y at *
    go_enter Tryd.func71, Tryd.ntmps71
    go_wp2_with fail
    rw [← hW1, HCONV.out]
    go_wp2_with fail
    rw [e1] at HCF
    have HC2 := HCF.out
    rw [hW2, hW1] at HC2
    refine HC2.mono ?_
    rintro e w3 ⟨rfl, hb3⟩
    rw [← hW1, ← hW2] at hb3
    have HB4 := Lib.hid (HB3.out.trans (hb3.mono HB3.out.size))
    clear hb3 HC2
    go_wp2_with fail
    go_ret
    exact ⟨by rw [← HALL.out]; rfl, HB4.out⟩
end Go.Proofs.YtlbgnpllbogkeaaDoor.Ext
