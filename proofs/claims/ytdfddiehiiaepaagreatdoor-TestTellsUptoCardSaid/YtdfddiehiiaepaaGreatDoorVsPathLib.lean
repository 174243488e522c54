/- Proved: plain facts on paths as lists of parts: cut at /, empty parts and . left out, .. takes one off; what is told is its own. No program, no condition. -/
import Derived.Lib.Join
set_option linter.unusedVariables false
set_option linter.unusedSimpArgs false
namespace Go.Proofs.YtdfddiehiiaepaaGreatDoor.Path
/-- A text cut at an octet. -/
def splitL (c : UInt8) : List UInt8 → List (List UInt8)
  | [] => [[]]
  | b :: l => if b = c then [] :: splitL c l else match splitL c l with | [] => [[b]] | x :: xs => (b :: x) :: xs
theorem splitL_ne (c : UInt8) : ∀ s, splitL c s ≠ []
  | [] => by simp [splitL]
  | b :: l => by
    unfold splitL
    split
    · simp
    · split <;> simp
theorem splitL_cons_ne (c b : UInt8) (l x : List UInt8) (xs : List (List UInt8)) (hb : b ≠ c) (h : splitL c l = x :: xs) : splitL c (b :: l) = (b :: x) :: xs := by
  rw [splitL, if_neg hb, h]
theorem splitL_append (c : UInt8) : ∀ a b : List UInt8, splitL c (a ++ c :: b) = splitL c a ++ splitL c b
  | [], b => by simp [splitL]
  | d :: a, b => by
    have ih := splitL_append c a b
    obtain ⟨x, xs, hx⟩ : ∃ x xs, splitL c a = x :: xs := by
      cases h : splitL c a with
      | nil => exact absurd h (splitL_ne c a)
      | cons x xs => exact ⟨x, xs, rfl⟩
    by_cases hd : d = c
    · rw [List.cons_append, splitL, if_pos hd, ih]
      conv => rhs; rw [splitL, if_pos hd]
      rfl
    · rw [hx, List.cons_append] at ih
      rw [List.cons_append, splitL_cons_ne c d _ x (xs ++ splitL c b) hd ih, splitL_cons_ne c d a x xs hd hx]
      rfl
theorem splitL_one (c : UInt8) : ∀ w : List UInt8, c ∉ w → splitL c w = [w]
  | [], _ => rfl
  | d :: w, h => by
    have hd : d ≠ c := fun e => h (by simp [e])
    exact splitL_cons_ne c d w w [] hd (splitL_one c w (fun hm => h (List.mem_cons_of_mem _ hm)))
theorem splitL_mem (c : UInt8) : ∀ s w, w ∈ splitL c s → c ∉ w ∧ ∀ b ∈ w, b ∈ s
  | [], w, h => by
    simp [splitL] at h
    subst h
    simp
  | d :: s, w, h => by
    obtain ⟨x, xs, hx⟩ : ∃ x xs, splitL c s = x :: xs := by
      cases h : splitL c s with
      | nil => exact absurd h (splitL_ne c s)
      | cons x xs => exact ⟨x, xs, rfl⟩
    have ih := splitL_mem c s
    by_cases hd : d = c
    · rw [splitL, if_pos hd] at h
      rcases List.mem_cons.1 h with rfl | h
      · simp
      · exact ⟨(ih w h).1, fun b hb => List.mem_cons_of_mem _ ((ih w h).2 b hb)⟩
    · rw [splitL_cons_ne c d s x xs hd hx] at h
      rw [hx] at ih
      rcases List.mem_cons.1 h with rfl | h
      · obtain ⟨h1, h2⟩ := ih x (by simp)
        refine ⟨fun hm => ?_, fun b hb => ?_⟩
        · rcases List.mem_cons.1 hm with e | hm
          · exact hd e.symm
          · exact h1 hm
        · rcases List.mem_cons.1 hb with rfl | hb
          · simp
          · exact List.mem_cons_of_mem _ (h2 b hb)
      · exact ⟨(ih w (List.mem_cons_of_mem _ h)).1, fun b hb => List.mem_cons_of_mem _ ((ih w (List.mem_cons_of_mem _ h)).2 b hb)⟩
/-- One part more. -/
def stepP (acc : List (List UInt8)) (w : List UInt8) : List (List UInt8) := if w = [] ∨ w = [46] then acc else if w = [46, 46] then acc.dropLast else acc ++ [w]
/-- A path's parts. -/
def partsL (s : List UInt8) : List (List UInt8) := (splitL 47 s).foldl stepP []
def Good (w : List UInt8) : Prop := w ≠ [] ∧ w ≠ [46] ∧ w ≠ [46, 46] ∧ 47 ∉ w
/-- Parts as a path. -/
def pathL (l : List (List UInt8)) : List UInt8 := 47 :: Go.Lib.join l [47]
theorem foldl_keeps (Q : List UInt8 → Prop) : ∀ (l acc : List (List UInt8)), (∀ w ∈ acc, Good w ∧ Q w) → (∀ w ∈ l, 47 ∉ w ∧ Q w) → ∀ w ∈ l.foldl stepP acc, Good w ∧ Q w
  | [], acc, h, _ => by simpa using h
  | x :: l, acc, h, hl => by
    rw [List.foldl_cons]
    refine foldl_keeps Q l _ ?_ (fun w hw => hl w (List.mem_cons_of_mem _ hw))
    intro w hw
    unfold stepP at hw
    split at hw
    · exact h w hw
    · rename_i h1
      split at hw
      · exact h w (List.dropLast_subset _ hw)
      · rename_i h2
        rcases List.mem_append.1 hw with hw | hw
        · exact h w hw
        · have : w = x := by simpa using hw
          subst this
          have h3 := hl w (by simp)
          exact ⟨⟨fun e => h1 (.inl e), fun e => h1 (.inr e), h2, h3.1⟩, h3.2⟩
theorem partsL_good (s : List UInt8) : ∀ w ∈ partsL s, Good w ∧ ∀ b ∈ w, b ∈ s :=
  foldl_keeps (fun w => ∀ b ∈ w, b ∈ s) (splitL 47 s) [] (by simp) (splitL_mem 47 s)
theorem join_len : ∀ l : List (List UInt8), (Go.Lib.join l [47]).length ≤ (l.map List.length).sum + l.length
  | [] => by simp [Go.Lib.join_nil]
  | x :: r => by
    rw [Go.Lib.join_cons, List.length_append, Go.Lib.joinTail_length]
    have e : Go.Lib.lens r = (r.map List.length).sum := rfl
    simp only [List.map_cons, List.sum_cons, List.length_cons, List.length_nil]
    omega
theorem splitL_sum (c : UInt8) : ∀ s : List UInt8, ((splitL c s).map List.length).sum + (splitL c s).length = s.length + 1
  | [] => rfl
  | b :: l => by
    have ih := splitL_sum c l
    obtain ⟨x, xs, hx⟩ : ∃ x xs, splitL c l = x :: xs := by
      cases h : splitL c l with
      | nil => exact absurd h (splitL_ne c l)
      | cons x xs => exact ⟨x, xs, rfl⟩
    by_cases hb : b = c
    · rw [splitL, if_pos hb]
      simp only [List.map_cons, List.sum_cons, List.length_cons, List.length_nil]
      omega
    · rw [splitL_cons_ne c b l x xs hb hx]
      rw [hx] at ih
      simp only [List.map_cons, List.sum_cons, List.length_cons] at ih ⊢
      omega
theorem sum_dropLast (l : List (List UInt8)) : (l.dropLast.map List.length).sum + l.dropLast.length ≤ (l.map List.length).sum + l.length := by
  rcases List.eq_nil_or_concat l with rfl | ⟨l', x, rfl⟩
  · simp
  · simp
    omega
theorem fold_sum : ∀ (l acc : List (List UInt8)), ((l.foldl stepP acc).map List.length).sum + (l.foldl stepP acc).length ≤ (acc.map List.length).sum + acc.length + ((l.map List.length).sum + l.length)
  | [], acc => by simp
  | w :: l, acc => by
    have ih := fold_sum l (stepP acc w)
    rw [List.foldl_cons]
    have hs : ((stepP acc w).map List.length).sum + (stepP acc w).length ≤ (acc.map List.length).sum + acc.length + (w.length + 1) := by
      unfold stepP
      split
      · omega
      · split
        · have := sum_dropLast acc
          omega
        · simp
          omega
    simp only [List.map_cons, List.sum_cons, List.length_cons]
    omega
theorem parts_sum (s : List UInt8) : ((partsL s).map List.length).sum + (partsL s).length ≤ s.length + 1 := by
  have h := fold_sum (splitL 47 s) []
  rw [splitL_sum] at h
  unfold partsL
  simpa using h
end Go.Proofs.YtdfddiehiiaepaaGreatDoor.Path
