/- Proved: kinds of chapter 17's values: items, parts; rows of slices that are read. No program's step. -/
import Derived.Test.YtciflnnagkdjiaaDoorProg
import Derived.Test.YtciflnnagkdjiaaDoorVsWWords
import Derived.Test.YtciflnnagkdjiaaDoorVsWApart
import Derived.Lib.Hide
set_option linter.unusedVariables false
set_option linter.unusedSimpArgs false
namespace Go.Proofs.YtciflnnagkdjiaaDoor.Ext
open Go.RowKit Go.Proofs.YtciflnnagkdjiaaDoorW.PrintWords
/-- A kind whose cells are known by the value alone. -/
def encKd {α : Type} (n : Nat) (enc : α → List Value) (hl : ∀ x, (enc x).length = n) (h1 : ∀ x, ∀ u ∈ enc x, u.oneCell' = true) : Kd α where
  sz := n
  E := []
  K := fun _ x cs => cs = enc x
  M := fun _ _ _ x cs => cs = enc x
  K_len := fun h => by rw [h]; exact hl _
  K_one := fun h u hu => by rw [h] at hu; exact h1 _ u hu
  K_below := fun _ h => h
  K_of_M := fun h => h
  M_mono := fun _ h => h
  M_bound := fun h => h
  M_move := fun _ h => h
  M_lower := fun _ h => h
/-- A slice as it stands: where, how long, how much room. -/
structure SliceR where
  A : Option Addr
  n : Nat
  c : Nat
/-- A part as it stands: its lists are slices that nobody looks into. -/
structure PartS where
  kind : Int
  text : ByteArray
  name : ByteArray
  op : ByteArray
  quoted : Bool
  l1 : SliceR
  l2 : SliceR
  l3 : SliceR
  l4 : SliceR
  at_ : Int
def nilR : SliceR := ⟨none, 0, 0⟩
/-- A text, unquoted or quoted. -/
def textP (s : ByteArray) (q : Bool) : PartS := ⟨1, s, ⟨#[]⟩, ⟨#[]⟩, q, nilR, nilR, nilR, nilR, 0⟩
def encP (p : PartS) : List Value := [.int .i64 p.kind, .string p.text, .string p.name, .string p.op, .bool p.quoted, .slice p.l1.A p.l1.n p.l1.c, .slice p.l2.A p.l2.n p.l2.c, .slice p.l3.A p.l3.n p.l3.c, .slice p.l4.A p.l4.n p.l4.c, .int .i64 p.at_]
theorem encP_one (p : PartS) : ∀ u ∈ encP p, u.oneCell' = true := by
  intro u hu
  unfold encP at hu
  simp only [List.mem_cons, List.not_mem_nil, or_false] at hu
  rcases hu with rfl | rfl | rfl | rfl | rfl | rfl | rfl | rfl | rfl | rfl <;> rfl
/-- Parts. -/
def kP : Kd PartS := encKd 10 encP (fun _ => rfl) encP_one
inductive ItemS where
  | oct (c : UInt8)
  | part (p : PartS)
def ItemK (w : World) : ItemS → List Value → Prop
  | .oct c, cs => cs = [.int .u8 c.toNat, .pointer none]
  | .part p, cs => ∃ b, cs = [.int .u8 0, .pointer (some ⟨b, 0, none⟩)] ∧ w.heap[b]? = some (.cells (encP p).toArray 26 (0, 0))
def ItemM (w : World) (base : Nat) (ok : Nat → Prop) : ItemS → List Value → Prop
  | .oct c, cs => cs = [.int .u8 c.toNat, .pointer none]
  | .part p, cs => ∃ b, cs = [.int .u8 0, .pointer (some ⟨b, 0, none⟩)] ∧ w.heap[b]? = some (.cells (encP p).toArray 26 (0, 0)) ∧ ok b ∧ base ≤ b
theorem item_two {w : World} {x : ItemS} {cs : List Value} (h : ItemK w x cs) : ∃ u v, cs = [u, v] ∧ u.oneCell' = true ∧ v.oneCell' = true := by
  cases x with
  | oct c => exact ⟨_, _, h, rfl, rfl⟩
  | part p => obtain ⟨b, h, _⟩ := h; exact ⟨_, _, h, rfl, rfl⟩
theorem item_form {w : World} {x : ItemS} {cs : List Value} (h : ItemK w x cs) : ∃ n o, cs = [.int .u8 n, .pointer o] := by
  cases x with
  | oct c => exact ⟨_, _, h⟩
  | part p => obtain ⟨b, h, _⟩ := h; exact ⟨_, _, h⟩
/-- Items. -/
def kI : Kd ItemS where
  sz := 2
  E := [26]
  K := ItemK
  M := ItemM
  K_len := fun h => by obtain ⟨u, v, rfl, _⟩ := item_two h; rfl
  K_one := fun h q hq => by
    obtain ⟨u, v, rfl, h1, h2⟩ := item_two h
    rcases List.mem_cons.1 hq with rfl | hq
    · exact h1
    · rw [List.mem_singleton.1 hq]; exact h2
  K_below := fun {w w1 x cs} hb h => by
    cases x with
    | oct c => exact h
    | part p =>
      obtain ⟨b, h1, h2⟩ := h
      exact ⟨b, h1, (hb.block b (blk_lt h2)).trans h2⟩
  K_of_M := fun {w base ok x cs} h => by
    cases x with
    | oct c => exact h
    | part p => obtain ⟨b, h1, h2, _⟩ := h; exact ⟨b, h1, h2⟩
  M_mono := fun {w base ok ok' x cs} hok h => by
    cases x with
    | oct c => exact h
    | part p => obtain ⟨b, h1, h2, h3, h4⟩ := h; exact ⟨b, h1, h2, hok _ h3, h4⟩
  M_bound := fun {w base ok x cs} h => by
    cases x with
    | oct c => exact h
    | part p => obtain ⟨b, h1, h2, h3, h4⟩ := h; exact ⟨b, h1, h2, ⟨h3, h4, blk_lt h2, _, List.mem_singleton.2 rfl, _, h2⟩, h4⟩
  M_move := fun {w w1 base ok x cs} hm h => by
    cases x with
    | oct c => exact h
    | part p => obtain ⟨b, h1, h2, h3, h4⟩ := h; exact ⟨b, h1, (hm b h3).trans h2, h3, h4⟩
  M_lower := fun {w base base' ok x cs} hb h => by
    cases x with
    | oct c => exact h
    | part p => obtain ⟨b, h1, h2, h3, h4⟩ := h; exact ⟨b, h1, h2, h3, Nat.le_trans hb h4⟩
/-- What is read stays while a row of another type grows. -/
theorem kI_grown {e : TypeId} (ht : e ≠ 26) (w w1 : World) (row : Option Nat) (x : ItemS) (cs : List Value) (hg : w.grownBy w1 row) (hty : ∀ k, row = some k → ∃ cells, w.heap[k]? = some (.cells cells e (0, 0))) (h : kI.K w x cs) : kI.K w1 x cs := by
  cases x with
  | oct c => exact h
  | part p =>
    obtain ⟨b, h1, h2⟩ := h
    refine ⟨b, h1, (hg.block b (blk_lt h2) ?_).trans h2⟩
    intro he
    obtain ⟨cells, hc⟩ := hty b he.symm
    rw [h2] at hc
    injection hc with hc
    injection hc with _ hc
    exact ht hc.symm
section
variable {α : Type} {d : Kd α} {te e base : Nat} {W w1 : World} {v v1 : Value} {L : List (List α)} {xs : List α} {c : List Value} {ob : Option Nat} {A : Option Addr}
theorem add_block (a : Addr) (j : Nat) : (a.add j).block = a.block := by
  unfold Addr.add
  split <;> rfl
theorem cell_same {p : Addr} (h : w1.heap[p.block]? = W.heap[p.block]?) : w1.cell? p = W.cell? p := by
  unfold World.cell?
  rw [h]
theorem C_kept (h : Kd.C d W A xs.length xs) (hK : ∀ x cs, d.K W x cs → d.K w1 x cs) (hm : 0 < xs.length → ∀ a, A = some a → w1.heap[a.block]? = W.heap[a.block]?) : Kd.C d w1 A xs.length xs := by
  refine ⟨h.1, h.2.1, fun hp => ?_⟩
  obtain ⟨ad, ha, hc⟩ := h.2.2 hp
  refine ⟨ad, ha, fun j p hj => ?_⟩
  obtain ⟨cs, h1, h2, h3⟩ := hc j p hj
  refine ⟨cs, h1, hK _ _ h2, fun i u hu => ?_⟩
  have hb : w1.heap[(ad.add (j * d.sz + i)).block]? = W.heap[(ad.add (j * d.sz + i)).block]? := by
    rw [add_block]
    exact hm hp ad ha
  exact (cell_same hb).trans (h3 i u hu)
/-- A slice that is read, in a block of its elements' type. -/
structure CT (d : Kd α) (te : TypeId) (W : World) (A : Option Addr) (xs : List α) : Prop where
  c : Kd.C d W A xs.length xs
  ty : 0 < xs.length → ∀ a, A = some a → ∃ cells, W.heap[a.block]? = some (.cells cells te (0, 0))
/-- What is read stays while a row of another type (e) grows. -/
def Stays (d : Kd α) (e : TypeId) : Prop := ∀ (w w1 : World) (row : Option Nat) x cs, w.grownBy w1 row → (∀ k, row = some k → ∃ cells, w.heap[k]? = some (.cells cells e (0, 0))) → d.K w x cs → d.K w1 x cs
theorem CT.below (h : CT d te W A xs) (hb : Below W.heap.size W w1) : CT d te w1 A xs :=
  ⟨Kd.C_below h.c hb, fun hp a ha => by obtain ⟨cells, hc⟩ := h.ty hp a ha; exact ⟨cells, (hb.block _ (blk_lt hc)).trans hc⟩⟩
theorem other_type {k : Nat} {cells : Array Value} (h : W.heap[k]? = some (.cells cells te (0, 0))) (hty : ∀ k, ob = some k → ∃ cells, W.heap[k]? = some (.cells cells e (0, 0))) (hne : e ≠ te) : some k ≠ ob := by
  intro he
  obtain ⟨cells', hc⟩ := hty k he.symm
  rw [h] at hc
  injection hc with hc
  injection hc with _ hc
  exact hne hc.symm
theorem CT.grown (h : CT d te W A xs) (hK : Stays d e) (hne : e ≠ te) (hg : W.grownBy w1 ob) (hty : ∀ k, ob = some k → ∃ cells, W.heap[k]? = some (.cells cells e (0, 0))) : CT d te w1 A xs := by
  have hs : 0 < xs.length → ∀ a, A = some a → w1.heap[a.block]? = W.heap[a.block]? := fun hp a ha => by
    obtain ⟨cells, hc⟩ := h.ty hp a ha
    exact hg.block _ (blk_lt hc) (other_type hc hty hne)
  exact ⟨C_kept h.c (fun x cs => hK _ _ _ x cs hg hty) hs, fun hp a ha => by
    obtain ⟨cells, hc⟩ := h.ty hp a ha
    exact ⟨cells, (hs hp a ha).trans hc⟩⟩
def Inner (d : Kd α) (te : TypeId) (W : World) (xs : List α) (c : List Value) : Prop :=
  ∃ A cap, c = [.slice A xs.length cap] ∧ xs.length ≤ cap ∧ CT d te W A xs
/-- A row (of slices) of the call's own, each of which is read. -/
def RRg (d : Kd α) (te e : Nat) (W : World) (base : Nat) (v : Value) (L : List (List α)) : Prop :=
  ∃ rows : List (List Value), (Kd.raw 1).R e W base (fun _ => True) v rows ∧ rows.length = L.length ∧ ∀ (j : Nat) xs c, L[j]? = some xs → rows[j]? = some c → Inner d te W xs c
theorem RRg.nil (d : Kd α) (te e : Nat) (W : World) (base : Nat) : RRg d te e W base (.slice none 0 0) [] := ⟨[], Kd.R_nil _ _ _ _ _, rfl, fun j xs c h => by simp at h⟩
theorem RRg.below (h : RRg d te e W base v L) (hb : Below W.heap.size W w1) : RRg d te e w1 base v L := by
  obtain ⟨rows, h1, h2, h3⟩ := h
  refine ⟨rows, Kd.R_below h1 hb, h2, fun j xs c hj hc => ?_⟩
  obtain ⟨A, cap, i1, i2, i3⟩ := h3 j xs c hj hc
  exact ⟨A, cap, i1, i2, i3.below hb⟩
theorem RRg.lower {base' : Nat} (h : RRg d te e W base v L) (hb : base' ≤ base) : RRg d te e W base' v L := by
  obtain ⟨rows, h1, h2, h3⟩ := h
  exact ⟨rows, Kd.R_lower h1 hb, h2, h3⟩
theorem RRg.slice (h : RRg d te e W base v L) : ∃ A c, v = .slice A L.length c ∧ L.length ≤ c := by
  obtain ⟨rows, h1, h2, h3⟩ := h
  obtain ⟨A, c, he, hl, _⟩ := Kd.R_reads h1
  rw [h2] at he hl
  exact ⟨A, c, he, hl⟩
theorem RRg.typed (h : RRg d te e W base v L) : ∀ k, v.ownBlock = some k → ∃ cells, W.heap[k]? = some (.cells cells e (0, 0)) := by
  obtain ⟨rows, h1, _⟩ := h
  exact Kd.R_typed h1
theorem RRg.lt (h : RRg d te e W base v L) : ∀ k, v.ownBlock = some k → k < W.heap.size := by
  obtain ⟨rows, h1, _⟩ := h
  exact Kd.R_lt h1
theorem RRg.base_ (h : RRg d te e W base v L) : ∀ k, v.ownBlock = some k → base ≤ k := by
  obtain ⟨rows, h1, _⟩ := h
  exact Kd.R_base h1
theorem RRg.max (h : RRg d te e W base v L) : L.length ≤ 9223372036854775807 := by
  obtain ⟨rows, h1, h2, _⟩ := h
  obtain ⟨A, c, _, _, hC⟩ := Kd.R_reads h1
  have := Kd.C_max hC
  omega
/-- Another row of its type grows. -/
theorem RRg.grown (h : RRg d te e W base v L) (hK : Stays d e) (hne : e ≠ te) (hg : W.grownBy w1 ob) (hty : ∀ k, ob = some k → ∃ cells, W.heap[k]? = some (.cells cells e (0, 0))) (ho : ∀ k, v.ownBlock = some k → some k ≠ ob) : RRg d te e w1 base v L := by
  obtain ⟨rows, h1, h2, h3⟩ := h
  refine ⟨rows, ?_, h2, fun j xs c hj hc => ?_⟩
  · have hlt := Kd.R_lt h1
    obtain ⟨h0, inner, hown, hr⟩ := h1
    exact ⟨h0, inner, own_move hown (fun k hk => hg.block k (hlt k hk) (ho k hk)), hr.imp_ (fun _ _ hp => hp)⟩
  · obtain ⟨A, cap, i1, i2, i3⟩ := h3 j xs c hj hc
    exact ⟨A, cap, i1, i2, i3.grown hK hne hg hty⟩
/-- An element of it. -/
theorem RRg.at {n cap : Nat} (h : RRg d te e W base (.slice A n cap) L) (j : Nat) (hj : L[j]? = some xs) : ∃ ad A' cap', A = some ad ∧ W.cell? (ad.add j) = some (.slice A' xs.length cap') ∧ xs.length ≤ cap' ∧ CT d te W A' xs := by
  obtain ⟨rows, h1, h2, h3⟩ := h
  obtain ⟨e1, _, hC⟩ := Kd.R_reads' h1
  have hjl := (List.getElem?_eq_some_iff.1 hj).1
  have hp : 0 < n := by omega
  subst e1
  obtain ⟨ad, ha, hc⟩ := hC.2.2 hp
  have hjr : j < rows.length := by omega
  obtain ⟨cs, g1, g2, g3⟩ := hc j _ (List.getElem?_eq_getElem hjr)
  obtain ⟨A', cap', i1, i2, i3⟩ := h3 j xs _ hj (List.getElem?_eq_getElem hjr)
  have g4 : cs = rows[j] := g2.1
  rw [g4, i1] at g3
  have g5 := g3 0 _ rfl
  have e9 : j * (Kd.raw 1).sz + 0 = j := Nat.mul_one j
  rw [e9] at g5
  exact ⟨ad, A', cap', ha, g5, i2, i3⟩
end
section
variable {P : Program} {ops : Array Oper} {rest : List Oper} {o : Oper} {a : Act} {Q : Exit → Act → World → Prop} {α : Type}
/-- append(v, x), x a slice: behind 'at_builtin'; the goal's world is 'W.alloc' of the variadic's box. -/
theorem RRg_append (d : Kd α) {w0 W : World} (base : Nat) (hgd : o.guard = none) (s x : Operand) (t te e : TypeId) (hK : Stays d e) (hne : e ≠ te)
    (ho : o.op = .call { callee := .builtin .append, args := #[s, x], argTypes := #[t, t] })
    (ht : P.underlying t = some (.slice e)) (hinfo : (P.info? e).map (fun i => (i.zero, i.size, i.bytes)) = some (some (.slice none 0 0), 1, 24))
    (v : Value) (L : List (List α)) (xs : List α) (c : Value) (hs : a.eval s = v) (hx : a.eval x = .slice (some ⟨W.heap.size, 0, none⟩) 1 1)
    (HO : RRg d te e W base v L) (hin : Inner d te W xs [c]) (HB : Below base w0 W) (hbase : base ≤ W.heap.size) (hl : (L.length + 1) * 24 ≤ 140737488355328)
    (h : ∀ v1 w1, RRg d te e w1 base v1 (L ++ [xs]) → Below base w0 w1 → W.grownBy w1 v.ownBlock → (v1.ownBlock = v.ownBlock ∨ ∃ b, v1.ownBlock = some b ∧ W.heap.size ≤ b) → wpList P ops Q rest (a.put o.dst v1) w1) :
    wpList P ops Q (o :: rest) a (W.alloc (.cells #[c] e)) := by
  obtain ⟨rows, h1, h2, h3⟩ := HO
  obtain ⟨A, cap, hc, i2, i3⟩ := hin
  have hty := Kd.R_typed h1
  have hone : (Kd.raw 1).M W base (fun k => True ∧ some k ≠ v.ownBlock) [c] [c] := ⟨rfl, rfl, fun u hu => by
    rw [List.mem_singleton.1 hu, (List.cons.inj hc).1]
    rfl⟩
  refine Kd.R_append (Kd.raw 1) (w0 := w0) (W := W) base hgd s x t e (.slice none 0 0) 24 ho ht hinfo rfl (by decide) (by decide) v rows [c] [c] (fun _ => True) _ hs hx hone (fun k hk => hk) (fun k _ => trivial) h1 HB hbase (by rw [h2]; exact hl) ?_
  intro v1 w1 hR hB hg hat
  refine h v1 w1 ⟨rows ++ [[c]], hR, by simp [h2], fun j ys cs hj hcs => ?_⟩ hB hg hat
  rcases Nat.lt_or_ge j L.length with hlt | hge
  · rw [List.getElem?_append_left hlt] at hj
    rw [List.getElem?_append_left (by omega)] at hcs
    obtain ⟨A', cap', j1, j2, j3⟩ := h3 j ys cs hj hcs
    exact ⟨A', cap', j1, j2, j3.grown hK hne hg hty⟩
  · have hje : j = L.length := by
      have := (List.getElem?_eq_some_iff.1 hj).1
      simp at this
      omega
    subst hje
    rw [List.getElem?_append_right (Nat.le_refl _), Nat.sub_self] at hj
    rw [List.getElem?_append_right (by omega), show L.length - rows.length = 0 by omega] at hcs
    obtain rfl := Option.some.inj hj
    obtain rfl := Option.some.inj hcs
    exact ⟨A, cap, hc, i2, i3.grown hK hne hg hty⟩
end
/-- Items in a row of their type. -/
abbrev CI (w : World) (A : Option Addr) (l : List ItemS) : Prop := CT kI 70 w A l
/-- A row of slices of items. -/
abbrev RRi (w : World) (base : Nat) (v : Value) (L : List (List ItemS)) : Prop := RRg kI 70 53 w base v L
theorem kI_stays : Stays kI 53 := fun w w1 row x cs => kI_grown (by decide) w w1 row x cs
/-- A part that is read. -/
structure AtP (w : World) (a : Addr) (p : PartS) : Prop where
  c0 : w.cell? a = some (.int .i64 p.kind)
  c1 : w.cell? ⟨a.block, a.off + 1, none⟩ = some (.string p.text)
  c2 : w.cell? ⟨a.block, a.off + 2, none⟩ = some (.string p.name)
  c3 : w.cell? ⟨a.block, a.off + 3, none⟩ = some (.string p.op)
  c4 : w.cell? ⟨a.block, a.off + 4, none⟩ = some (.bool p.quoted)
  c5 : w.cell? ⟨a.block, a.off + 5, none⟩ = some (.slice p.l1.A p.l1.n p.l1.c)
  c6 : w.cell? ⟨a.block, a.off + 6, none⟩ = some (.slice p.l2.A p.l2.n p.l2.c)
  c7 : w.cell? ⟨a.block, a.off + 7, none⟩ = some (.slice p.l3.A p.l3.n p.l3.c)
  c8 : w.cell? ⟨a.block, a.off + 8, none⟩ = some (.slice p.l4.A p.l4.n p.l4.c)
  c9 : w.cell? ⟨a.block, a.off + 9, none⟩ = some (.int .i64 p.at_)
theorem at_P {w : World} {A : Option Addr} {n : Nat} {ps : List PartS} (h : Kd.C kP w A n ps) {k : Nat} {p : PartS} (hk : ps[k]? = some p) : ∃ ad, A = some ad ∧ AtP w (ad.add (k * 10)) p := by
  have hlt := (List.getElem?_eq_some_iff.1 hk).1
  have hn := h.1
  obtain ⟨ad, ha, hc⟩ := h.2.2 (by omega)
  obtain ⟨cs, _, hcs, hcc⟩ := hc k p hk
  have hcs2 : cs = encP p := hcs
  subst hcs2
  have g : ∀ j u, (encP p)[j]? = some u → w.cell? (ad.add (k * 10 + j)) = some u := hcc
  exact ⟨ad, ha, g 0 _ rfl, by rw [← add_field _ _ 1 (by omega)]; exact g 1 _ rfl, by rw [← add_field _ _ 2 (by omega)]; exact g 2 _ rfl, by rw [← add_field _ _ 3 (by omega)]; exact g 3 _ rfl, by rw [← add_field _ _ 4 (by omega)]; exact g 4 _ rfl,
    by rw [← add_field _ _ 5 (by omega)]; exact g 5 _ rfl, by rw [← add_field _ _ 6 (by omega)]; exact g 6 _ rfl, by rw [← add_field _ _ 7 (by omega)]; exact g 7 _ rfl, by rw [← add_field _ _ 8 (by omega)]; exact g 8 _ rfl, by rw [← add_field _ _ 9 (by omega)]; exact g 9 _ rfl⟩
/-- A part that lies in a block of its own. -/
theorem blk_P {w : World} {b : Nat} {p : PartS} (h : w.heap[b]? = some (.cells (encP p).toArray 26 (0, 0))) : AtP w ⟨b, 0, none⟩ p :=
  ⟨blk_cell h 0, blk_cell h 1, blk_cell h 2, blk_cell h 3, blk_cell h 4, blk_cell h 5, blk_cell h 6, blk_cell h 7, blk_cell h 8, blk_cell h 9⟩
/-- An item that is read: its two cells, and what they are. -/
theorem at_I {w : World} {A : Option Addr} {n : Nat} {l : List ItemS} (h : Kd.C kI w A n l) {k : Nat} {x : ItemS} (hk : l[k]? = some x) : ∃ ad n o, A = some ad ∧ w.cell? (ad.add (k * 2)) = some (.int .u8 n) ∧ w.cell? ⟨(ad.add (k * 2)).block, (ad.add (k * 2)).off + 1, none⟩ = some (.pointer o) ∧ ItemK w x [.int .u8 n, .pointer o] := by
  have hlt := (List.getElem?_eq_some_iff.1 hk).1
  have hn := h.1
  obtain ⟨ad, ha, hc⟩ := h.2.2 (by omega)
  obtain ⟨cs, _, hcs, hcc⟩ := hc k x hk
  obtain ⟨u, v, rfl⟩ := item_form hcs
  have g : ∀ j q, [Value.int .u8 u, Value.pointer v][j]? = some q → w.cell? (ad.add (k * 2 + j)) = some q := hcc
  exact ⟨ad, u, v, ha, g 0 _ rfl, by rw [← add_field _ _ 1 (by omega)]; exact g 1 _ rfl, hcs⟩
end Go.Proofs.YtciflnnagkdjiaaDoor.Ext
