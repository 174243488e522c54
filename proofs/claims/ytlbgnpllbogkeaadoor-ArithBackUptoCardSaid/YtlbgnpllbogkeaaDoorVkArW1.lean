/- Proved: arith's parser: the calls of comma, power, level by what is within them. -/
import Derived.Test.YtlbgnpllbogkeaaDoorVkArLeft
set_option linter.unusedVariables false
set_option linter.unusedSimpArgs false
namespace Go.Proofs.YtlbgnpllbogkeaaDoor.Ext
open Go.RowKit Go.Proofs.YtlbgnpllbogkeaaDoorW.PrintWords
/-- A block. -/
def Bk (w : World) (b : Nat) (t : TypeId) (cs : Array Value) : Prop := w.heap[b]? = some (.cells cs t (0, 0))
section
variable {w w' : World} {b pb : Nat} {t : TypeId} {cs : Array Value}
theorem Bk.c (h : Bk w b t cs) (i : Nat) : w.cell? ⟨b, i, none⟩ = cs[i]? := blk_cell h i
theorem Bk.f (h : Bk w b t cs) (i : Nat) : w.frozen? ⟨b, i, none⟩ = false := blk_frozen h i
theorem Bk.lt (h : Bk w b t cs) : b < w.heap.size := blk_lt h
theorem Bk.bel (h : Bk w b t cs) (hb : Below w.heap.size w w') : Bk w' b t cs := (hb.block _ h.lt).trans h
theorem Bk.grown (h : Bk w b t cs) (hg : w.grownBy w' (some pb)) (hne : b ≠ pb) : Bk w' b t cs := (hg.block _ h.lt (fun e => hne (Option.some.inj e))).trans h
theorem Bk.new (w : World) (t : TypeId) (cs : Array Value) : Bk (w.alloc (.cells cs t)) w.heap.size t cs := heap_alloc_new w _
end
theorem Bx.all {w : World} {b : Nat} {c0 c1 c2 c3 : Value} (h : Bx w b #[c0, c1, c2, c3]) : w.cell? ⟨b, 0, none⟩ = some c0 ∧ w.cell? ⟨b, 1, none⟩ = some c1 ∧ w.cell? ⟨b, 2, none⟩ = some c2 ∧ w.cell? ⟨b, 3, none⟩ = some c3 ∧ w.frozen? ⟨b, 0, none⟩ = false ∧ w.frozen? ⟨b, 1, none⟩ = false ∧ w.frozen? ⟨b, 2, none⟩ = false ∧ w.frozen? ⟨b, 3, none⟩ = false :=
  ⟨h.c 0, h.c 1, h.c 2, h.c 3, h.f 0, h.f 1, h.f 2, h.f 3⟩
section
variable {w W w1 : World} {pb rb : Nat} {s : ByteArray} {bash : Bool} {t t0 : Tok} {d d0 : Nat} {x : E} {A : Option Addr} {c : Nat}
theorem end_tells (h0 : PB w pb s bash t0 d0) (hg : w.grownBy W (some pb)) (hrb : w.heap.size ≤ rb) (hlt : rb + 1 ≤ W.heap.size) (hS : SumR w1 (W.heap.size ≤ ·) x [.string x.op, .string x.name, .int .i64 x.num, .slice A x.kids.length c]) (hp1 : PB w1 pb s bash t d) (hg1 : W.grownBy w1 (some pb)) :
    Tells pb s bash d w (.ok x t) (.returned (.agg #[.string x.op, .string x.name, .int .i64 x.num, .slice A x.kids.length c])) ((((w1.setCell ⟨rb, 0, none⟩ (.string x.op)).setCell ⟨rb, 1, none⟩ (.string x.name)).setCell ⟨rb, 2, none⟩ (.int .i64 x.num)).setCell ⟨rb, 3, none⟩ (.slice A x.kids.length c)) :=
  tells_fin hrb h0 (grown_trans hg hg1) (hS.least hlt) hp1 (grown_box4 _ _ _ _)
theorem end_box {cs : Array Value} (h0 : PB w pb s bash t0 d0) (hrb : w.heap.size ≤ rb) (hB : Bx W rb cs) (hg1 : W.grownBy w1 (some pb)) : Bx w1 rb cs := hB.grown hg1 (fun e => by have := h0.lt; omega)
end
/-- What the parser's functions tell. -/
def fnOf : NT → Nat
  | .comma => 20
  | .assign => 33
  | .choice => 54
  | .level _ => 75
  | .power => 85
  | .unary => 90
  | .post => 93
def argsOf (pb : Nat) : NT → Array Value
  | .level n => #[parserV pb, .int .i64 n]
  | _ => #[parserV pb]
def ntOk : NT → Prop
  | .level n => n ≤ 10
  | _ => True
def PC (nx : Nat → Tok) (lit : ByteArray → Int) (pb : Nat) (s : ByteArray) (bash : Bool) (k : Nat) (nt : NT) : Prop := ∀ (d : Nat) (t : Tok) (w : World), PB w pb s bash t d → parse nx lit k nt d t ≠ .out →
  Calls Tryd.prog (fnOf nt) (argsOf pb nt) w (Tells pb s bash d w (parse nx lit k nt d t))
theorem set_comma : SetOf ⟨#[44]⟩ [sCo] := ⟨by decide, by decide, by decide, by decide, by decide⟩
section
variable {nx : Nat → Tok} {lit : ByteArray → Int} {pb : Nat} {s : ByteArray} {bash : Bool} {t : Tok} {d k : Nat}
set_option maxHeartbeats 1000000 in
theorem comma_calls (hx : Nx nx s.size) (hn : NextC nx pb s bash) (hi : InC) (ih : PC nx lit pb s bash k .assign) : PC nx lit pb s bash (k + 1) .comma := by
  intro d t w h hro
  rw [parse] at hro ⊢
  have hp0 := h.bel ((Below.refl _ w).alloc (Nat.le_refl _) (.cells #[.string ⟨#[]⟩, .string ⟨#[]⟩, .int .i64 0, .slice none 0 0] 25))
  have hg0 := grown_of_below ((Below.refl _ w).alloc (Nat.le_refl _) (.cells #[.string ⟨#[]⟩, .string ⟨#[]⟩, .int .i64 0, .slice none 0 0] 25)) (some pb)
  obtain ⟨r, hr⟩ : ∃ r, ((parse nx lit k .assign d t).bind (leftGo nx [sCo] (parse nx lit k .assign d) k)) = r := ⟨_, rfl⟩
  have HL := Lib.hid (left_calls (d := d) hx hn hi ⟨#[44]⟩ [sCo] set_comma 33 #[parserV pb] #[] (parse nx lit k .assign d) k _ hp0 (enters_of Tryd.func33 (by kernel_rfl) rfl)
    (fun t1 w1 hp hg ho => ih d t1 w1 hp ho) (fun t1 h1 => weak_parse hx k .assign d t1 h1) r hr (by rw [← hr]; exact hro))
  rw [hr]
  have HP := Lib.hid h
  have HG0 := Lib.hid hg0
  clear hp0 hg0 h hx hn hi ih hr hro
  show Calls Tryd.prog 20 #[parserV pb] w _
  go_enter Tryd.func20, Tryd.ntmps20
  go_wp2_with fail
  refine HL.out.mono ?_
  intro e w1 hs
  rcases Tells.or hs with ⟨a, c, rfl, rfl, hg1⟩ | ⟨x, t1, A, c, rfl, rfl, hS1, hp1, hg1⟩
  · have HG1 := Lib.hid hg1
    clear hg1 hs
    go_wp2_with fail
    exact ⟨rfl, rfl, grown_trans HG0.out HG1.out⟩
  · have hb1 := (Bx.new w #[.string ⟨#[]⟩, .string ⟨#[]⟩, .int .i64 0, .slice none 0 0]).grown hg1 (Ne.symm (Nat.ne_of_lt HP.out.lt))
    obtain ⟨z0, z1, z2, z3, z4, z5, z6, z7⟩ := hb1.all
    have h0 : (w.alloc (.cells #[.string ⟨#[]⟩, .string ⟨#[]⟩, .int .i64 0, .slice none 0 0] 25)).heap.size = w.heap.size + 1 := by simp
    rw [h0] at hS1
    have HG1 := Lib.hid (grown_trans HG0.out hg1)
    have HP1 := Lib.hid hp1
    have HS1 := Lib.hid hS1
    have HB1 := Lib.hid hb1
    clear hg1 hs hp1 hS1 hb1 h0
    go_wp2_with fail
    refine bodyPost_ret (results_cell_row rfl _ _ w.heap.size 25 #[.string x.op, .string x.name, .int .i64 x.num, .slice A x.kids.length c] (0, 0) _ rfl (HB1.out.set4 _ _ _ _) Tryd.underlying25 rfl (by kernel_rfl)) rfl ?_
    exact tells_fin (Nat.le_refl _) HP.out HG1.out HS1.out HP1.out (grown_box4 _ _ _ _)
end
end Go.Proofs.YtlbgnpllbogkeaaDoor.Ext
