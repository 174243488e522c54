/- Proved: brace.Expand's call: the words that one makes, or ErrCount where they are too many; its deferred function's two calls. Conditions: at most 10 to the 9 items; MaxLen holds a number. -/
import Derived.Test.YtciflnnagkdjiaaDoorVsBrHas
import Derived.Defers
import Derived.Recover
import Derived.Laws.Pointers
set_option linter.unusedVariables false
set_option linter.unusedSimpArgs false
namespace Go.Proofs.YtciflnnagkdjiaaDoor.Ext
open Go.RowKit Go.Proofs.YtciflnnagkdjiaaDoorW.PrintWords
/-- A word without parts is a quoted one. -/
def orQuoted (l : List PartS) : List PartS := if l.length = 0 then [textP ⟨#[]⟩ true] else l
/-- The words that one makes; none: too many. -/
def expandW (k : Nat) (ps : List PartS) : Option (Option (List (List PartS))) :=
  if (foundF spanS (itemsP ps)).isSome = true then match expandF spanS k (itemsP ps) with
    | none => none
    | some none => some none
    | some (some L) => some (some (L.map fun l => orQuoted (wordP l)))
  else some (some [wordP (itemsP ps)])
/-- What Expand tells. -/
def WordsSay (r : Option (List (List PartS))) (base : Nat) (e : Ending) (w' : World) : Prop := match r with
  | none => e = .returned (.tuple #[.slice none 0 0, .int .i64 3])
  | some L => ∃ v, e = .returned (.tuple #[v, .int .i64 0]) ∧ Kd.R (Kd.slice 26 kP) 28 w' base (fun _ => True) v L
/-- An item that word takes. -/
def okItem (x : ItemS) : Prop := ∀ p, x = .part p → plainT p = false
theorem items_ok {ps : List PartS} : ∀ x ∈ itemsP ps, okItem x := by
  intro x hx p hp
  subst hp
  obtain ⟨q, _, hq⟩ := List.mem_flatMap.1 hx
  unfold itemsOf at hq
  split at hq
  · obtain ⟨_, _, h⟩ := List.mem_map.1 hq
    cases h
  · rename_i h
    have := List.mem_singleton.1 hq
    injection this with this
    subst this
    unfold plainT
    simp only [Bool.and_eq_false_iff, decide_eq_false_iff_not, Bool.not_eq_false']
    by_cases h1 : p.kind = 1
    · right
      cases hq : p.quoted with
      | true => rfl
      | false => exact absurd ⟨h1, hq⟩ h
    · exact .inl h1
theorem span_okItem {l x : List ItemS} (hx : x ∈ spanS l) : ∀ y ∈ x, okItem y := by
  have key : ∀ {let_ : Bool} {b step : Int} (k : Nat) (n : Int), ∀ x ∈ spanGo let_ b step k n, ∀ y ∈ x, okItem y := by
    intro let_ b step k
    induction k with
    | zero => intro n x hx; simp [spanGo] at hx
    | succ k ih =>
      intro n x hx
      rw [spanGo] at hx
      rcases List.mem_cons.1 hx with rfl | hx
      · intro y hy p hp
        subst hp
        obtain ⟨_, _, h⟩ := List.mem_map.1 hy
        cases h
      · split at hx
        · simp at hx
        · exact ih _ x hx
  unfold spanS at hx
  split at hx
  · unfold spanB at hx
    split at hx
    · simp at hx
    · split at hx
      · simp at hx
      · exact key _ _ x hx
  · simp at hx
theorem found_mem {l : List ItemS} : ∀ (r : List ItemS) (i0 i : Nat) (q : List (List ItemS)) (n : Nat), foundGo spanS l r i0 = some (i, q, n) → ∀ x ∈ q, (∀ y ∈ x, y ∈ l) ∨ ∀ y ∈ x, okItem y
  | [], _, _, _, _, h => by cases h
  | c :: r, i0, i, q, n, h => by
    rw [foundGo] at h
    split at h
    · cases hat : foundAt spanS l i0 with
      | none => rw [hat] at h; exact found_mem r (i0 + 1) i q n h
      | some t =>
        obtain ⟨q1, n1⟩ := t
        rw [hat] at h
        simp only [Option.some.injEq, Prod.mk.injEq] at h
        obtain ⟨rfl, rfl, rfl⟩ := h
        intro x hx
        unfold foundAt at hat
        split at hat
        · cases hat
        · split at hat
          · split at hat
            · cases hat
            · simp only [Option.some.injEq, Prod.mk.injEq] at hat
              obtain ⟨rfl, rfl⟩ := hat
              exact .inr (span_okItem hx)
          · simp only [Option.some.injEq, Prod.mk.injEq] at hat
            obtain ⟨rfl, rfl⟩ := hat
            obtain ⟨z, _, rfl⟩ := List.mem_map.1 hx
            refine .inl (fun y hy => ?_)
            unfold subL at hy
            exact List.mem_of_mem_drop (List.mem_of_mem_take (List.mem_of_mem_drop hy))
    · exact found_mem r (i0 + 1) i q n h
theorem expand_ok : ∀ (k : Nat) (l : List ItemS) (L : List (List ItemS)), expandF spanS k l = some (some L) → (∀ x ∈ l, okItem x) → ∀ y ∈ L, ∀ x ∈ y, okItem x
  | 0, _, _, h, _ => by cases h
  | k + 1, l, L, h, hl => by
    intro y hy x hx
    rw [expandF] at h
    cases hF : foundF spanS l with
    | none =>
      rw [hF] at h
      obtain rfl := Option.some.inj (Option.some.inj h)
      rw [List.mem_singleton.1 hy] at hx
      exact hl x hx
    | some t =>
      obtain ⟨i, q, n⟩ := t
      rw [hF] at h
      dsimp only at h
      cases hb : expandF spanS k (l.drop (i + n + 2)) with
      | none => rw [hb] at h; cases h
      | some t =>
        cases t with
        | none => rw [hb] at h; cases h
        | some bh =>
          rw [hb] at h
          dsimp only at h
          rcases outGo_mem q [] h y hy with h1 | ⟨p, hp, xs, hxs, x', hx', b, hbb, rfl⟩
          · simp at h1
          · rcases List.mem_append.1 hx with hx | hx
            · rcases List.mem_append.1 hx with hx | hx
              · exact hl x (List.mem_of_mem_take hx)
              · refine expand_ok k p xs hxs (fun z hz => ?_) x' hx' x hx
                rcases found_mem l 0 i q n hF p hp with h2 | h2
                · exact hl z (h2 z hz)
                · exact h2 z hz
            · exact expand_ok k _ bh hb (fun z hz => hl z (List.mem_of_mem_drop hz)) b hbb x hx
theorem out_le {ex : List ItemS → Option (Option (List (List ItemS)))} {head : List ItemS} {bh L : List (List ItemS)} : ∀ (q out : List (List ItemS)), out.length ≤ 256 → outGo ex head bh q out = some (some L) → L.length ≤ 256
  | [], out, h0, h => by
    rw [outGo] at h
    obtain rfl := Option.some.inj (Option.some.inj h)
    exact h0
  | p :: q, out, h0, h => by
    rw [outGo] at h
    split at h
    · cases h
    · cases h
    · split at h
      · rename_i h1
        exact out_le q _ h1 h
      · cases h
theorem expand_le {sp : SpanF} {k : Nat} {l : List ItemS} {L : List (List ItemS)} (h : expandF sp k l = some (some L)) : L.length ≤ 256 := by
  cases k with
  | zero => cases h
  | succ k =>
    rw [expandF] at h
    split at h
    · obtain rfl := Option.some.inj (Option.some.inj h)
      simp
    · split at h
      · cases h
      · cases h
      · exact out_le _ [] (by simp) h
theorem frozen_past {w : World} {p : Addr} {o : Obj} (hp : p.block < w.heap.size) (h : w.frozen? p = false) : (w.alloc o).frozen? p = false := by
  unfold World.frozen? at h ⊢
  have hb := ((Below.refl _ w).alloc (Nat.le_refl _) o).block p.block hp
  rw [hb]
  exact h
theorem frozen_far {w : World} {p q : Addr} (hq : q.block ≠ p.block) (u : Value) : (w.setCell p u).frozen? q = w.frozen? q := by
  unfold World.frozen?
  rw [Below.heap_setCell w p u q.block hq]
theorem ta_full (w : World) : (Instr.typeAssert (.iface 50 (.agg #[])) 20 50 true).run Tryd.prog w = .ok (.tuple #[.agg #[], .bool true]) w := by
  simp [Instr.typeAssert, run_underlying Tryd.underlying50, go_sem, Result.andThen]
theorem ta_nil (w : World) : (Instr.typeAssert .nilIface 20 50 true).run Tryd.prog w = .ok (.tuple #[.agg #[], .bool false]) w := by
  simp [Instr.typeAssert, run_underlying Tryd.underlying50, go_sem, Result.andThen, Tryd.zeroValue50]
set_option maxHeartbeats 1000000 in
set_option maxRecDepth 100000 in
theorem catch_panicking (p q : Addr) (v0 v1 : Value) (older : List PanicEntry) (w : World) (hc : w.cell? p = some v0) (hz : w.frozen? p = false) (hc1 : w.cell? q = some v1) (hz1 : w.frozen? q = false) (hpq : p.block ≠ q.block) (hp : p.block < w.heap.size) (hq : q.block < w.heap.size) :
    CallsD Tryd.prog 20 #[.pointer (some p), .pointer (some q)] (.panicking ({ v := .iface 50 (.agg #[]), recovered := false } :: older)) w fun e u' w' =>
      e = .returned (.tuple #[]) ∧ u' = .panicking ({ v := .iface 50 (.agg #[]), recovered := true } :: older) ∧ w' = (((w.alloc (.cells #[] 50)).setCell p (.slice none 0 0)).setCell q (.int .i64 3)) := by
  have h1 : ((w.alloc (.cells #[] 50))).cell? p = some v0 := pw_cell_below ((Below.refl _ w).alloc (Nat.le_refl _) _) hc
  have h2 : (w.alloc (.cells #[] 50)).frozen? p = false := frozen_past hp hz
  have h3 : ((w.alloc (.cells #[] 50)).setCell p (.slice none 0 0)).cell? q = some v1 := (cell_far (fun e => hpq e.symm) _).trans (pw_cell_below ((Below.refl _ w).alloc (Nat.le_refl _) _) hc1)
  have h4 : ((w.alloc (.cells #[] 50)).setCell p (.slice none 0 0)).frozen? q = false := (frozen_far (fun e => hpq e.symm) _).trans (frozen_past hq hz1)
  refine callsD_of_wpS Tryd.func20 rfl fun c₀ cs hu => ?_
  apply wpS_seq
  apply wpS_region
  simp [wpOpsS, go_sem, recoverD, hu, Tryd.ntmps20, Exit.thenS, ta_full, Array.replicate]
  apply wpS_seq
  apply wpS_region
  simp [wpOpsS, go_sem, Exit.thenS]
  refine wpS_cond (t := true) (by simp [Act.eval]) ?_
  simp only [if_true]
  apply wpS_region
  simp [wpOpsS, go_sem, h1, h2, h3, h4, bodyPostS, results, Tryd.results20]
theorem catch_idle (p q : Addr) (w : World) :
    CallsD Tryd.prog 20 #[.pointer (some p), .pointer (some q)] .returning w fun e u' w' => e = .returned (.tuple #[]) ∧ u' = .returning ∧ w' = w.alloc (.cells #[] 50) := by
  refine callsD_of_wpS Tryd.func20 rfl fun c₀ cs hu => ?_
  apply wpS_seq
  apply wpS_region
  simp [wpOpsS, go_sem, recoverD, hu, Tryd.ntmps20, Exit.thenS, ta_nil, Array.replicate]
  apply wpS_seq
  apply wpS_region
  simp [wpOpsS, go_sem, Exit.thenS]
  refine wpS_cond (t := false) (by simp [Act.eval]) ?_
  simp only [Bool.false_eq_true, if_false]
  refine wpS_of_wp (wp_skip ?_)
  cases c₀
  simp_all [bodyPostS, results, Tryd.results20]
end Go.Proofs.YtciflnnagkdjiaaDoor.Ext
