/- Proved: of braces, in plain Lean: how long the words are that they make, and where braces lie. No program's step. -/
import Derived.Test.YtciflnnagkdjiaaDoorVsBrFound
set_option linter.unusedVariables false
set_option linter.unusedSimpArgs false
namespace Go.Proofs.YtciflnnagkdjiaaDoor.Ext
open Go.RowKit Go.Proofs.YtciflnnagkdjiaaDoorW.PrintWords
/-- What a span makes is short, and has nothing special. -/
def SpanFine (sp : SpanF) : Prop := ∀ l, ∀ x ∈ sp l, x.length ≤ 20 ∧ ∀ c ∈ x, tame c
theorem foundGo_bound {sp : SpanF} (hf : SpanFine sp) {l : List ItemS} : ∀ (r : List ItemS) (i0 i : Nat) (q : List (List ItemS)) (n : Nat), l.drop i0 = r → foundGo sp l r i0 = some (i, q, n) → i + n + 2 ≤ l.length ∧ ∀ x ∈ q, x.length ≤ n ∨ x.length ≤ 20 ∧ ∀ c ∈ x, tame c
  | [], _, _, _, _, _, h => by cases h
  | c :: r, i0, i, q, n, hd, h => by
    have hd1 : l.drop (i0 + 1) = r := by rw [← List.drop_drop, hd]; rfl
    have hil : i0 < l.length := by
      rcases Nat.lt_or_ge i0 l.length with h1 | h1
      · exact h1
      · rw [List.drop_of_length_le h1] at hd; cases hd
    rw [foundGo] at h
    split at h
    · cases hat : foundAt sp l i0 with
      | none => rw [hat] at h; exact foundGo_bound hf r (i0 + 1) i q n hd1 h
      | some t =>
        obtain ⟨q1, n1⟩ := t
        rw [hat] at h
        dsimp only at h
        simp only [Option.some.injEq, Prod.mk.injEq] at h
        obtain ⟨rfl, rfl, rfl⟩ := h
        unfold foundAt at hat
        cases hp : piecesP (l.drop (i0 + 1)) with
        | none => rw [hp] at hat; cases hat
        | some t =>
          obtain ⟨p, n2⟩ := t
          rw [hp] at hat
          obtain ⟨hn, hp0, hb⟩ := piecesP_bound hp
          rw [List.length_drop] at hn
          dsimp only at hat
          split at hat
          · split at hat
            · cases hat
            · simp only [Option.some.injEq, Prod.mk.injEq] at hat; obtain ⟨rfl, rfl⟩ := hat
              exact ⟨by omega, fun x hx => .inr (hf _ x hx)⟩
          · simp only [Option.some.injEq, Prod.mk.injEq] at hat; obtain ⟨rfl, rfl⟩ := hat
            refine ⟨by omega, fun x hx => .inl ?_⟩
            obtain ⟨y, hy, rfl⟩ := List.mem_map.1 hx
            have := (hb y hy).2
            unfold subL
            rw [List.length_drop, List.length_take]
            omega
    · exact foundGo_bound hf r (i0 + 1) i q n hd1 h
theorem foundF_bound {sp : SpanF} (hf : SpanFine sp) {l : List ItemS} {i n : Nat} {q : List (List ItemS)} (h : foundF sp l = some (i, q, n)) : i + n + 2 ≤ l.length ∧ ∀ x ∈ q, x.length ≤ n ∨ x.length ≤ 20 ∧ ∀ c ∈ x, tame c :=
  foundGo_bound hf l 0 i q n rfl h
theorem rowsOf_app (head : List ItemS) (bh : List (List ItemS)) : ∀ xs ys : List (List ItemS), rowsOf head bh (xs ++ ys) = rowsOf head bh xs ++ rowsOf head bh ys
  | [], ys => rfl
  | x :: xs, ys => by rw [List.cons_append, rowsOf, rowsOf, rowsOf_app head bh xs ys, List.append_assoc]
theorem rowsOf_len (head : List ItemS) (bh : List (List ItemS)) : ∀ xs : List (List ItemS), (rowsOf head bh xs).length = xs.length * bh.length
  | [] => by simp [rowsOf]
  | x :: xs => by rw [rowsOf, List.length_append, List.length_map, rowsOf_len head bh xs, List.length_cons, Nat.add_mul, Nat.one_mul, Nat.add_comm]
theorem mem_rowsOf {head : List ItemS} {bh : List (List ItemS)} {y : List ItemS} : ∀ {xs : List (List ItemS)}, y ∈ rowsOf head bh xs → ∃ x ∈ xs, ∃ b ∈ bh, y = head ++ x ++ b
  | [], h => by simp [rowsOf] at h
  | x :: xs, h => by
    rw [rowsOf] at h
    rcases List.mem_append.1 h with h | h
    · obtain ⟨b, hb, rfl⟩ := List.mem_map.1 h
      exact ⟨x, List.mem_cons_self, b, hb, rfl⟩
    · obtain ⟨x', hx, b, hb, e⟩ := mem_rowsOf h
      exact ⟨x', List.mem_cons_of_mem _ hx, b, hb, e⟩
theorem outGo_mem {ex : List ItemS → Option (Option (List (List ItemS)))} {head : List ItemS} {bh : List (List ItemS)} {L : List (List ItemS)} : ∀ (q out : List (List ItemS)), outGo ex head bh q out = some (some L) → ∀ y ∈ L, y ∈ out ∨ ∃ p ∈ q, ∃ xs, ex p = some (some xs) ∧ ∃ x ∈ xs, ∃ b ∈ bh, y = head ++ x ++ b
  | [], out, h => by
    rw [outGo] at h
    obtain rfl := Option.some.inj (Option.some.inj h)
    exact fun y hy => .inl hy
  | p :: q, out, h => by
    intro y hy
    rw [outGo] at h
    cases hx : ex p with
    | none => rw [hx] at h; cases h
    | some t =>
      cases t with
      | none => rw [hx] at h; cases h
      | some xs =>
        rw [hx] at h
        dsimp only at h
        split at h
        · rcases outGo_mem q _ h y hy with h1 | ⟨p', hp, xs', e, x, hx', b, hb, ey⟩
          · rcases List.mem_append.1 h1 with h1 | h1
            · exact .inl h1
            · obtain ⟨x, hx', b, hb, ey⟩ := mem_rowsOf h1
              exact .inr ⟨p, List.mem_cons_self, xs, hx, x, hx', b, hb, ey⟩
          · exact .inr ⟨p', List.mem_cons_of_mem _ hp, xs', e, x, hx', b, hb, ey⟩
        · cases h
/-- A word is at most sixteen times as long. -/
theorem expand_bound {sp : SpanF} (hf : SpanFine sp) : ∀ (k : Nat) (l : List ItemS) (L : List (List ItemS)), expandF sp k l = some (some L) → ∀ y ∈ L, y.length ≤ 16 * l.length
  | 0, _, _, h => by cases h
  | k + 1, l, L, h => by
    intro y hy
    rw [expandF] at h
    cases hF : foundF sp l with
    | none =>
      rw [hF] at h
      obtain rfl := Option.some.inj (Option.some.inj h)
      rw [List.mem_singleton.1 hy]
      omega
    | some t =>
      obtain ⟨i, q, n⟩ := t
      rw [hF] at h
      dsimp only at h
      obtain ⟨hin, hq⟩ := foundF_bound hf hF
      cases hb : expandF sp k (l.drop (i + n + 2)) with
      | none => rw [hb] at h; cases h
      | some t =>
        cases t with
        | none => rw [hb] at h; cases h
        | some bh =>
          rw [hb] at h
          dsimp only at h
          rcases outGo_mem q [] h y hy with h1 | ⟨p, hp, xs, hxs, x, hx, b, hbb, rfl⟩
          · simp at h1
          · have h2 := expand_bound hf k _ _ hb b hbb
            rw [List.length_drop] at h2
            have h3 : x.length ≤ 16 * n + 20 := by
              rcases hq p hp with h4 | ⟨h4, h5⟩
              · have := expand_bound hf k _ _ hxs x hx
                omega
              · cases k with
                | zero => cases hxs
                | succ k =>
                  rw [expandF_no sp k p (fun c hc => (h5 c hc).1)] at hxs
                  obtain rfl := Option.some.inj (Option.some.inj hxs)
                  rw [List.mem_singleton.1 hx]
                  omega
            rw [List.length_append, List.length_append, List.length_take]
            omega
end Go.Proofs.YtciflnnagkdjiaaDoor.Ext
