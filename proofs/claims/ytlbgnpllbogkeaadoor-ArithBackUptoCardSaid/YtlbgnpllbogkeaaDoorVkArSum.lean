/- Proved: how an expression stands in memory, and that it stays. No program's step. -/
import Derived.Test.YtlbgnpllbogkeaaDoorVkArRd
import Derived.Test.YtlbgnpllbogkeaaDoorVkWWords
import Derived.Test.YtlbgnpllbogkeaaDoorVkWApart
set_option linter.unusedVariables false
set_option linter.unusedSimpArgs false
namespace Go.Proofs.YtlbgnpllbogkeaaDoor.Ext
open Go.RowKit Go.Proofs.YtlbgnpllbogkeaaDoorW.PrintWords
/-- An expression as it stands: its four cells; its kids lie in blocks of which 'ok' holds. -/
inductive SumR (w : World) (ok : Nat → Prop) : E → List Value → Prop
  | mk (op name : ByteArray) (n : Int) (kids : List E) (A : Option Addr) (c : Nat) (f : Nat → List Value) (hc : kids.length ≤ c) (hm : kids.length ≤ 9223372036854775807)
      (hk : ∀ j k, kids[j]? = some k → SumR w ok k (f j))
      (hl : 0 < kids.length → ∃ ad, A = some ad ∧ ok ad.block ∧ ∀ j, j < kids.length → ∀ i u, (f j)[i]? = some u → w.cell? (ad.add (j * 4 + i)) = some u) :
      SumR w ok (.mk op name n kids) [.string op, .string name, .int .i64 n, .slice A kids.length c]
theorem block_add (a : Addr) (j : Nat) : (a.add j).block = a.block := by
  unfold Addr.add
  split <;> rfl
theorem addr_plus (b i j : Nat) : (⟨b, i, none⟩ : Addr).add j = ⟨b, i + j, none⟩ := by
  unfold Addr.add
  split
  · rename_i h
    cases h
    rw [Nat.add_zero]
  · rfl
theorem cell_lt {w : World} {a : Addr} {u : Value} (h : w.cell? a = some u) : a.block < w.heap.size := World.block_lt_of_cell? w a h
theorem SumR.move {w w' : World} {ok ok' : Nat → Prop} {x : E} {cs : List Value} (h : SumR w ok x cs) (hb : ∀ b, ok b → b < w.heap.size → w'.heap[b]? = w.heap[b]?) (ho : ∀ b, ok b → b < w.heap.size → ok' b) : SumR w' ok' x cs := by
  induction h with
  | mk op name n kids A c f hc hm hk hl ih =>
    refine .mk op name n kids A c f hc hm (fun j k hj => ih j k hj) (fun hp => ?_)
    obtain ⟨ad, ha, hok, hcell⟩ := hl hp
    have hlt : ad.block < w.heap.size := by
      have h0 : kids[0]? = some kids[0] := List.getElem?_eq_getElem hp
      have h1 := hk 0 _ h0
      generalize kids[0] = k0 at h1
      generalize hf : f 0 = f0 at h1
      cases h1 with
      | mk op1 name1 n1 kids1 A1 c1 f1 _ _ _ _ =>
        have h2 := cell_lt (hcell 0 hp 0 (.string op1) (by rw [hf]; rfl))
        rw [block_add] at h2
        exact h2
    refine ⟨ad, ha, ho _ hok hlt, fun j hj i u hu => ?_⟩
    rw [World.cell?_of_block (w := w) (a := ad.add (j * 4 + i)) (by rw [block_add]; exact hb _ hok hlt)]
    exact hcell j hj i u hu
theorem SumR.bel {w w' : World} {ok : Nat → Prop} {x : E} {cs : List Value} (h : SumR w ok x cs) (hb : Below w.heap.size w w') : SumR w' ok x cs := h.move (fun b _ hl => hb.block b hl) (fun _ h _ => h)
theorem SumR.mono {w : World} {ok ok' : Nat → Prop} {x : E} {cs : List Value} (h : SumR w ok x cs) (ho : ∀ b, ok b → b < w.heap.size → ok' b) : SumR w ok' x cs := h.move (fun _ _ _ => rfl) ho
theorem SumR.inv {w : World} {ok : Nat → Prop} {x : E} {cs : List Value} (h : SumR w ok x cs) : ∃ A c, cs = [.string x.op, .string x.name, .int .i64 x.num, .slice A x.kids.length c] ∧ x.kids.length ≤ c ∧ x.kids.length ≤ 9223372036854775807 := by
  cases h with
  | mk op name n kids A c f hc hm hk hl => exact ⟨A, c, rfl, hc, hm⟩
/-- A kid that is read. -/
theorem SumR.kid {w : World} {ok : Nat → Prop} {x k : E} {a b n : Value} {A : Option Addr} {m c j : Nat} (h : SumR w ok x [a, b, n, .slice A m c]) (hj : x.kids[j]? = some k) :
    ∃ ad A1 c1, A = some ad ∧ SumR w ok k [.string k.op, .string k.name, .int .i64 k.num, .slice A1 k.kids.length c1] ∧ w.cell? (ad.add (j * 4)) = some (.string k.op) ∧ w.cell? ⟨(ad.add (j * 4)).block, (ad.add (j * 4)).off + 1, none⟩ = some (.string k.name) ∧ w.cell? ⟨(ad.add (j * 4)).block, (ad.add (j * 4)).off + 2, none⟩ = some (.int .i64 k.num) ∧ w.cell? ⟨(ad.add (j * 4)).block, (ad.add (j * 4)).off + 3, none⟩ = some (.slice A1 k.kids.length c1) := by
  cases h with
  | mk op name n kids A c f hc hm hk hl =>
    have hjl := (List.getElem?_eq_some_iff.1 hj).1
    have hjl : j < kids.length := hjl
    obtain ⟨ad, ha, hok, hcell⟩ := hl (by omega)
    have h1 := hk j k hj
    obtain ⟨A1, c1, he, _, _⟩ := h1.inv
    have g := hcell j hjl
    rw [he] at h1 g
    exact ⟨ad, A1, c1, ha, h1, g 0 _ rfl, by rw [← add_field _ _ 1 (by omega)]; exact g 1 _ rfl, by rw [← add_field _ _ 2 (by omega)]; exact g 2 _ rfl, by rw [← add_field _ _ 3 (by omega)]; exact g 3 _ rfl⟩
theorem SumR.leaf (w : World) (ok : Nat → Prop) (op name : ByteArray) (n : Int) : SumR w ok (.mk op name n []) [.string op, .string name, .int .i64 n, .slice none 0 0] :=
  .mk op name n [] none 0 (fun _ => []) (Nat.le_refl _) (by simp) (fun j k h => by simp at h) (fun h => absurd h (by simp))
/-- Kids in a block of their own. -/
theorem SumR.made {w : World} {ok : Nat → Prop} {g t : Nat} {kids : List E} {css : List (List Value)} (op name : ByteArray) (n : Int) (c : Nat) (hl : css.length = kids.length) (hc : kids.length ≤ c) (hm : kids.length ≤ 9223372036854775807)
    (hk : ∀ (j : Nat) k cs, kids[j]? = some k → css[j]? = some cs → SumR w ok k cs) (hb : w.heap[g]? = some (.cells css.flatten.toArray t (0, 0))) (ho : ok g) : SumR w ok (.mk op name n kids) [.string op, .string name, .int .i64 n, .slice (some ⟨g, 0, none⟩) kids.length c] := by
  refine .mk op name n kids _ c (fun j => css.getD j []) hc hm (fun j k hj => ?_) (fun hp => ⟨⟨g, 0, none⟩, rfl, ho, fun j hj i u hu => ?_⟩)
  · have hjl := (List.getElem?_eq_some_iff.1 hj).1
    have h1 : css[j]? = some css[j] := List.getElem?_eq_getElem (by omega)
    have h2 : css.getD j [] = css[j] := by rw [List.getD_eq_getElem?_getD, h1]; rfl
    rw [h2]
    exact hk j k _ hj h1
  · have h4 : ∀ cs ∈ css, cs.length = 4 := by
      intro cs hcs
      obtain ⟨i, hi, rfl⟩ := List.getElem_of_mem hcs
      obtain ⟨A1, c1, he, _⟩ := (hk i kids[i] _ (List.getElem?_eq_getElem (by omega)) (List.getElem?_eq_getElem hi)).inv
      rw [he]; rfl
    have hflat : ∀ (L : List (List Value)) (j i : Nat) (u : Value), (∀ cs ∈ L, cs.length = 4) → (L.getD j [])[i]? = some u → L.flatten[j * 4 + i]? = some u := by
      intro L
      induction L with
      | nil => intro j i u _ h; simp at h
      | cons a L ih =>
        intro j i u ha h
        have ha4 := ha a List.mem_cons_self
        cases j with
        | zero =>
          have h : a[i]? = some u := by simpa using h
          have hi := (List.getElem?_eq_some_iff.1 h).1
          rw [Nat.zero_mul, Nat.zero_add, List.flatten_cons, List.getElem?_append_left hi]
          exact h
        | succ j =>
          rw [List.flatten_cons, List.getElem?_append_right (by omega), show (j + 1) * 4 + i - a.length = j * 4 + i by omega]
          exact ih j i u (fun cs h => ha cs (List.mem_cons_of_mem _ h)) (by simpa using h)
    have h5 := hflat css j i u h4 hu
    have h6 : (⟨g, 0, none⟩ : Addr).add (j * 4 + i) = ⟨g, j * 4 + i, none⟩ := by
      rw [addr_plus, Nat.zero_add]
    rw [h6]
    unfold World.cell?
    rw [hb]
    show css.flatten.toArray[j * 4 + i]? = some u
    rw [List.getElem?_toArray]
    exact h5
end Go.Proofs.YtlbgnpllbogkeaaDoor.Ext
