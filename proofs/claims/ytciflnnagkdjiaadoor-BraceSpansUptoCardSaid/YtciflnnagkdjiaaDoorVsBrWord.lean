/- Proved: brace.word's call: items as a word's parts. Conditions: at most 10 to the 10 items; no part among them is an unquoted text. -/
import Derived.Test.YtciflnnagkdjiaaDoorVsBrSpan2
import Derived.Deep.RegionLaw
import Derived.Shelf.RegionOpenPlain
set_option linter.unusedVariables false
set_option linter.unusedSimpArgs false
namespace Go.Proofs.YtciflnnagkdjiaaDoor.Ext
open Go.RowKit Go.Proofs.YtciflnnagkdjiaaDoorW.PrintWords
/-- An unquoted text. -/
def plainT (p : PartS) : Bool := decide (p.kind = 1) && !p.quoted
def addText (p : PartS) (c : UInt8) : PartS := { p with text := p.text ++ ⟨#[c]⟩ }
def wordStep (acc : List PartS) (x : ItemS) : List PartS := match x with
  | .part p => acc ++ [p]
  | .oct c => match acc.getLast? with
    | none => acc ++ [textP ⟨#[c]⟩ false]
    | some q => if plainT q = true then acc.set (acc.length - 1) (addText q c) else acc ++ [textP ⟨#[c]⟩ false]
def wordP (l : List ItemS) : List PartS := l.foldl wordStep []
theorem wordP_take {l : List ItemS} {k : Nat} (h : k < l.length) : wordP (l.take (k + 1)) = wordStep (wordP (l.take k)) l[k] := by
  unfold wordP
  rw [← List.take_append_getElem h, List.foldl_append]
  rfl
theorem zeroW : (Tryd.prog.info? 26).map (fun i => (i.zero, i.size, i.bytes)) = some (some (.agg #[.int .i64 0, .string ⟨#[]⟩, .string ⟨#[]⟩, .string ⟨#[]⟩, .bool false, .slice none 0 0, .slice none 0 0, .slice none 0 0, .slice none 0 0, .int .i64 0]), 10, 168) := by kernel_rfl
theorem R_setW {w : World} {base g : Nat} {v : Value} {xs : List PartS} {cs : Array Value} (h : Kd.R kP 26 w base (fun _ => True) v xs) (hb : w.heap[g]? = some (.cells cs 28 (0, 0))) (u : Value) : Kd.R kP 26 (w.setCell ⟨g, 0, none⟩ u) base (fun _ => True) v xs :=
  Kd.R_set h hb (fun q hq => by
    have : q = 26 := by simpa [kP, encKd] using hq
    rw [this]
    decide) 0 u
theorem R_text {W : World} {base g n cap j : Nat} {acc : List PartS} {q : PartS} (h : Kd.R kP 26 W base (fun _ => True) (.slice (some ⟨g, 0, none⟩) n cap) acc) (hj : acc[j]? = some q) (s : ByteArray) :
    Kd.R kP 26 (W.setCell ⟨g, j * 10 + 1, none⟩ (.string s)) base (fun _ => True) (.slice (some ⟨g, 0, none⟩) n cap) (acc.set j { q with text := s }) ∧ W.grownBy (W.setCell ⟨g, j * 10 + 1, none⟩ (.string s)) (some g) := by
  obtain ⟨hn, _, _⟩ := Kd.R_reads' h
  have hjl := (List.getElem?_eq_some_iff.1 hj).1
  obtain ⟨c, hcl, hM, hcc, _⟩ := Kd.R_elem h q (j : Int) (by omega) (by omega)
  have hq : acc.getD ((j : Int)).toNat q = q := by
    rw [Int.toNat_natCast, List.getD_eq_getElem?_getD, hj]
    rfl
  rw [hq] at hM
  have hce : c = encP q := hM
  subst hce
  have := Kd.R_seg (d := kP) h (j : Int) (by omega) (by omega) (c := encP q) (seg := [.string s]) (j := 1) (okp := fun k => True ∧ k ≠ g) rfl hcc (show 1 + 1 ≤ 10 by decide) (x' := { q with text := s }) rfl (fun k hk => hk)
  simp only [Int.toNat_natCast, World.setCells] at this
  exact this
set_option maxHeartbeats 8000000 in
set_option maxRecDepth 100000 in
theorem word_calls (A : Option Addr) (c : Nat) (l : List ItemS) (w : World) (hr : CI w A l) (hc : l.length ≤ c) (hl : l.length ≤ 20000000000) (hp : ∀ p, ItemS.part p ∈ l → plainT p = false) :
    Calls Tryd.prog 21 #[.slice A l.length c] w fun e w' => ∃ v, e = .returned (.agg #[v]) ∧ Kd.R kP 26 w' w.heap.size (fun _ => True) v (wordP l) ∧ Below w.heap.size w w' := by
  have HR := Lib.hid hr
  have HP := Lib.hid hp
  clear hr hp
  have mixed : Tryd.prog.follows Departure.mixedOrders = true := by kernel_rfl
  go_enter Tryd.func21, Tryd.ntmps21
  go_wp2_with fail
  have h0 : (w.alloc (.cells #[.slice none 0 0] 28)).heap[w.heap.size]? = some (.cells #[.slice none 0 0] 28 (0, 0)) := heap_alloc_new w _
  have h1 : ((w.alloc (.cells #[.slice none 0 0] 28)).alloc (.cells #[.slice none 0 0] 28)).heap[w.heap.size + 1]? = some (.cells #[.slice none 0 0] 28 (0, 0)) := by
    have := heap_alloc_new (w.alloc (.cells #[.slice none 0 0] 28)) (.cells #[.slice none 0 0] 28)
    rw [alloc_size] at this
    exact this
  have hB1 := (Below.refl _ w).alloc (Nat.le_refl _) (.cells #[.slice none 0 0] 28)
  have hB2 := (Below.refl _ (w.alloc (.cells #[.slice none 0 0] 28))).alloc (Nat.le_refl _) (.cells #[.slice none 0 0] 28)
  have h2 : ((w.alloc (.cells #[.slice none 0 0] 28)).alloc (.cells #[.slice none 0 0] 28)).heap[w.heap.size]? = some (.cells #[.slice none 0 0] 28 (0, 0)) := (hB2.block _ (blk_lt h0)).trans h0
  have HB0 := Lib.hid (below_step hB1 hB2)
  have H1 := Lib.hid h1
  have H2 := Lib.hid h2
  clear h0 h1 h2 hB1 hB2
  go_loopw [9] (fun i wr => ∃ (k : Nat) (v : Value), k ≤ l.length ∧ i = .int .i64 k ∧ Kd.R kP 26 wr w.heap.size (fun _ => True) v (wordP (l.take k)) ∧ (wordP (l.take k)).length ≤ k ∧ (∀ q ∈ wordP (l.take k), plainT q = true → q.text.size ≤ k) ∧
      wr.heap[w.heap.size + 1]? = some (.cells #[v] 28 (0, 0)) ∧ wr.heap[w.heap.size]? = some (.cells #[.slice none 0 0] 28 (0, 0)) ∧ Below w.heap.size w wr) (fun i _ => l.length - (intOf i).toNat)
  case atStart => exact ⟨0, .slice none 0 0, Nat.zero_le _, rfl, Kd.R_nil _ _ _ _ _, Nat.le_refl _, fun q hq => by simp [wordP] at hq, H1.out, H2.out, HB0.out⟩
  case round =>
    clear HB0 H1 H2
    obtain ⟨k, v, hk, rfl, hR, hlen, hsz, hw1, hw0, hb⟩ := hrel
    have HB := Lib.hid hb
    obtain ⟨Av, cv, hv, hcv, _⟩ := Kd.R_reads hR
    subst hv
    have HO := Lib.hid hR
    have HW1 := Lib.hid hw1
    have HW0 := Lib.hid hw0
    have HSZ := Lib.hid hsz
    clear hR hw0 hsz
    by_cases hlt : k < l.length
    · obtain ⟨ad, u, o, rfl, y0, y1, hK⟩ := at_I (HR.out.below hb).c (List.getElem?_eq_getElem hlt)
      have htk := wordP_take hlt
      have hmem := List.getElem_mem hlt
      have HX := Lib.hid (BoxI.of hb hK)
      generalize l[k] = x at *
      have HTK := Lib.hid htk
      generalize hacc : wordP (l.take k) = acc at *
      clear htk hb hacc
      cases x with
      | part p =>
        obtain ⟨bk, hx, hbk⟩ := hK
        obtain ⟨hx0, hv⟩ := List.cons.inj hx
        obtain rfl : u = 0 := by injection hx0
        obtain rfl : o = some ⟨bk, 0, none⟩ := by have := (List.cons.inj hv).1; injection this
        have hpt := HP.out p hmem
        have z1 := blk_cell hw1 0
        have hWb := (Below.refl _ wr).alloc (Nat.le_refl _) (.cells #[.int .u8 0, .pointer (some ⟨bk, 0, none⟩)] 70)
        have hOb := Kd.R_below HO.out hWb
        have hkb := (hWb.block _ (blk_lt hbk)).trans hbk
        have hk1 := (hWb.block _ (blk_lt hw1)).trans hw1
        obtain ⟨x0, x1, x2, x3, x4, x5, x6, x7, x8, x9⟩ := blk_P hkb
        have c1 := blk_cell hk1 0
        have f1 := blk_frozen hk1 0
        have HKB := Lib.hid hkb
        have HK1 := Lib.hid hk1
        have HOB := Lib.hid hOb
        have HWB := Lib.hid (below_step HB.out hWb)
        have hw0b := (hWb.block _ (blk_lt HW0.out)).trans HW0.out
        have HW0b := Lib.hid hw0b
        clear hx hx0 hv hbk hkb hk1 hOb hWb hw1 hw0b
        generalize hWW : wr.alloc (.cells #[.int .u8 0, .pointer (some ⟨bk, 0, none⟩)] 70) = WW at *
        have i0 := HX.out.c0
        have i1 := HX.out.c1
        have c1a : (WW.alloc (.cells #[.int .i64 p.kind, .string p.text, .string p.name, .string p.op, .bool p.quoted, .slice p.l1.A p.l1.n p.l1.c, .slice p.l2.A p.l2.n p.l2.c, .slice p.l3.A p.l3.n p.l3.c, .slice p.l4.A p.l4.n p.l4.c, .int .i64 p.at_] 26)).cell? ⟨w.heap.size + 1, 0, none⟩ = some (.slice Av acc.length cv) := (((Below.refl _ WW).alloc (Nat.le_refl _) _).cell (blk_lt HK1.out)).trans c1
        have HLL := Lib.hid (show (acc.length + 1) * 168 ≤ 140737488355328 by omega)
        have HNE := Lib.hid (Kd.R_ne HOB.out HK1.out (by decide))
        have HNE0 := Lib.hid (Kd.R_ne HOB.out HW0b.out (by decide))
        go_wp2_with fail
        go_region_law (refine Kd.R_append_step kP (w0 := w) w.heap.size (by rfl) (.tmp 32) (.tmp 37) 22 26 (.agg #[.int .i64 0, .string ⟨#[]⟩, .string ⟨#[]⟩, .string ⟨#[]⟩, .bool false, .slice none 0 0, .slice none 0 0, .slice none 0 0, .slice none 0 0, .int .i64 0]) 168 rfl Tryd.underlying22 zeroW rfl (by decide) (by decide) (.slice Av acc.length cv) acc p (encP p) (fun _ => True) (fun _ => False) rfl rfl rfl (fun _ hk => hk.elim) (fun _ _ => trivial) (Kd.R_drew HOB.out) (below_drew HWB.out) (below_drew HWB.out).size HLL.out ?_; intro v8 w8 hr8 hb8 hg8 hat8; obtain ⟨A8, q8, hv8, hl8, _⟩ := Kd.R_reads hr8; subst hv8; have hk8 := (hg8.block _ (blk_lt HK1.out) HNE.out).trans HK1.out; have c8 := blk_cell hk8 0; have f8 := blk_frozen hk8 0)
        all_goals (
          have hk0 := (hg8.block _ (blk_lt HW0b.out) HNE0.out).trans HW0b.out
          rw [List.length_append, List.length_singleton] at hr8
          have hr9 := R_setW hr8 hk8 (.slice A8 (acc.length + 1) q8)
          have hk9 := blk_set hk8 0 (.slice A8 (acc.length + 1) q8)
          have hk10 := blk_far hk0 (p := ⟨w.heap.size + 1, 0, none⟩) (by simp) (.slice A8 (acc.length + 1) q8)
          have hb9 := below_set (j := 0) (v := .slice A8 (acc.length + 1) q8) hb8 (Nat.le_succ w.heap.size)
          have HR9 := Lib.hid hr9
          have HK9 := Lib.hid hk9
          have HK10 := Lib.hid hk10
          have HB9 := Lib.hid hb9
          clear hr9 hk9 hk10 hb9 hr8 hb8 hg8 hat8 hk8 hk0 c8 f8 hl8
          go_wp2_with fail
          go_roundw
          (case rel => exact ⟨k + 1, .slice A8 (acc.length + 1) q8, by omega, by go_num, by rw [HTK.out]; exact HR9.out, by rw [HTK.out]; show (acc ++ [p]).length ≤ k + 1; simp; omega, (by
            rw [HTK.out]
            intro q hq hpq
            rcases List.mem_append.1 hq with hq | hq
            · exact Nat.le_succ_of_le (HSZ.out q hq hpq)
            · rw [List.mem_singleton.1 hq, hpt] at hpq
              cases hpq), HK9.out, HK10.out, HB9.out⟩)
          (case measure => simp [intOf]; omega))
      | oct c0 =>
        obtain ⟨hx0, hv⟩ := List.cons.inj hK
        obtain rfl : u = c0.toNat := by injection hx0
        obtain rfl : o = none := by have := (List.cons.inj hv).1; injection this
        have hWb := (Below.refl _ wr).alloc (Nat.le_refl _) (.cells #[.int .u8 c0.toNat, .pointer none] 70)
        have hOb := Kd.R_below HO.out hWb
        have hk1 := (hWb.block _ (blk_lt hw1)).trans hw1
        have hw0b := (hWb.block _ (blk_lt HW0.out)).trans HW0.out
        have c1 := blk_cell hk1 0
        have f1 := blk_frozen hk1 0
        have HK1 := Lib.hid hk1
        have HOB := Lib.hid hOb
        have HWB := Lib.hid (below_step HB.out hWb)
        have HW0b := Lib.hid hw0b
        clear hx0 hv hK hk1 hOb hWb hw1 hw0b
        have i0 := HX.out.c0
        have i1 := HX.out.c1
        have hcv := conv_one (wr.alloc (.cells #[.int .u8 c0.toNat, .pointer none] 70)) c0
        rw [alloc_size] at hcv
        have hWA := (Below.refl _ (wr.alloc (.cells #[.int .u8 c0.toNat, .pointer none] 70))).alloc (Nat.le_refl _) (.cells #[.int .u8 c0.toNat] 5)
        have hka := (hWA.block _ (blk_lt HK1.out)).trans HK1.out
        have hkb := (hWA.block _ (blk_lt HW0b.out)).trans HW0b.out
        have HK1A := Lib.hid hka
        have HW0A := Lib.hid hkb
        have HOA := Lib.hid (Kd.R_below HOB.out hWA)
        have HWA := Lib.hid (below_step HWB.out hWA)
        have HLL := Lib.hid (show (acc.length + 1) * 168 ≤ 140737488355328 by omega)
        have HNE := Lib.hid (Kd.R_ne HOA.out HK1A.out (by decide))
        have HNE0 := Lib.hid (Kd.R_ne HOA.out HW0A.out (by decide))
        have HWA0 := Lib.hid hWA
        clear hWA hka hkb
        by_cases hemp : acc.length = 0
        · have hnil : acc = [] := List.eq_nil_of_length_eq_zero hemp
          subst hnil
          have hst : wordStep [] (.oct c0) = [] ++ [textP ⟨#[c0]⟩ false] := rfl
          have HST := Lib.hid hst
          clear hst
          go_wp2_with (at_builtin; go_loud (refine Kd.R_append kP (w0 := w) w.heap.size rfl (.tmp 18) (.tmp 24) 22 26 (.agg #[.int .i64 0, .string ⟨#[]⟩, .string ⟨#[]⟩, .string ⟨#[]⟩, .bool false, .slice none 0 0, .slice none 0 0, .slice none 0 0, .slice none 0 0, .int .i64 0]) 168 rfl Tryd.underlying22 zeroW rfl (by decide) (by decide) _ [] (textP ⟨#[c0]⟩ false) (encP (textP ⟨#[c0]⟩ false)) (fun _ => True) (fun _ => False) rfl ?aX ?aP (fun _ hk => hk.elim) (fun _ _ => trivial) ?aO ?aB ?aS ?aL ?_))
          try (case aX => exact (show _ = Value.slice (some ⟨wr.heap.size + 1 + 1, 0, none⟩) 1 1 from rfl).trans (by simp))
          case aP => exact rfl
          case aO => exact HOA.out
          case aB => exact HWA.out
          case aS => first | exact HWA.out.size | (have := HB.out.size; omega)
          case aL => exact HLL.out
          intro v8 w8 hr8 hb8 hg8 hat8
          obtain ⟨A8, q8, hv8, hl8, _⟩ := Kd.R_reads hr8
          subst hv8
          have hk8 := (hg8.block _ (blk_lt HK1A.out) HNE.out).trans HK1A.out
          have hk0 := (hg8.block _ (blk_lt HW0A.out) HNE0.out).trans HW0A.out
          have c8 := blk_cell hk8 0
          have f8 := blk_frozen hk8 0
          have hr8 : Kd.R kP 26 w8 w.heap.size (fun _ => True) (.slice A8 (0 + 1) q8) ([] ++ [textP ⟨#[c0]⟩ false]) := hr8
          have hr9 := R_setW hr8 hk8 (.slice A8 (0 + 1) q8)
          have hk9 := blk_set hk8 0 (.slice A8 (0 + 1) q8)
          have hk10 := blk_far hk0 (p := ⟨w.heap.size + 1, 0, none⟩) (by simp) (.slice A8 (0 + 1) q8)
          have hb9 := below_set (j := 0) (v := .slice A8 (0 + 1) q8) hb8 (Nat.le_succ w.heap.size)
          have HR9 := Lib.hid hr9
          have HK9 := Lib.hid hk9
          have HK10 := Lib.hid hk10
          have HB9 := Lib.hid hb9
          clear hr9 hk9 hk10 hb9 hr8 hb8 hg8 hat8 hk8 hk0 hl8
          go_wp2_with fail
          go_roundw
          case rel => exact ⟨k + 1, .slice A8 (0 + 1) q8, by omega, by go_num, by rw [HTK.out, HST.out]; exact HR9.out, by rw [HTK.out, HST.out]; first | (simp; omega) | simp, (by
            rw [HTK.out, HST.out]
            intro q hq hpq
            rcases List.mem_append.1 hq with hq | hq
            · exact Nat.le_succ_of_le (HSZ.out q hq hpq)
            · rw [List.mem_singleton.1 hq]
              exact Nat.le_add_left 1 k), HK9.out, HK10.out, HB9.out⟩
          case measure => simp [intOf]; omega
        · obtain ⟨j, hj⟩ : ∃ j : Nat, j + 1 = acc.length := ⟨acc.length - 1, by omega⟩
          have hjl : j < acc.length := by omega
          have hm1 : (acc.length : Int) - 1 = (j : Int) := by omega
          have hlast : acc.getLast? = some acc[j] := by
            rw [List.getLast?_eq_getElem?, List.getElem?_eq_getElem (by omega)]
            congr 1
            congr 1
            omega
          obtain ⟨_, _, hCO⟩ := Kd.R_reads' HOB.out
          obtain ⟨aq, hAq, x0, x1, x2, x3, x4, x5, x6, x7, x8, x9⟩ := at_P hCO (List.getElem?_eq_getElem hjl)
          subst hAq
          have hst : wordStep acc (.oct c0) = if plainT acc[j] = true then acc.set (acc.length - 1) (addText acc[j] c0) else acc ++ [textP ⟨#[c0]⟩ false] := by
            unfold wordStep
            dsimp only
            rw [hlast]
          have hqm : acc[j] ∈ acc := List.getElem_mem hjl
          generalize hq : acc[j] = q at *
          have HSTQ := Lib.hid hst
          clear hst hlast hCO
          by_cases hk1 : q.kind = 1
          · by_cases hk2 : q.quoted = true
            · have hpl : ¬ plainT q = true := by unfold plainT; rw [hk2]; simp
              have hst := HSTQ.out
              rw [if_neg hpl] at hst
              have HST := Lib.hid hst
              rw [hk1] at x0
              rw [hk2] at x4
              clear hst
              go_wp2_with (at_builtin; go_loud (refine Kd.R_append kP (w0 := w) w.heap.size rfl (.tmp 18) (.tmp 24) 22 26 (.agg #[.int .i64 0, .string ⟨#[]⟩, .string ⟨#[]⟩, .string ⟨#[]⟩, .bool false, .slice none 0 0, .slice none 0 0, .slice none 0 0, .slice none 0 0, .int .i64 0]) 168 rfl Tryd.underlying22 zeroW rfl (by decide) (by decide) _ acc (textP ⟨#[c0]⟩ false) (encP (textP ⟨#[c0]⟩ false)) (fun _ => True) (fun _ => False) rfl ?aX ?aP (fun _ hk => hk.elim) (fun _ _ => trivial) ?aO ?aB ?aS ?aL ?_))
              try (case aX => exact (show _ = Value.slice (some ⟨wr.heap.size + 1 + 1, 0, none⟩) 1 1 from rfl).trans (by simp))
              case aP => exact rfl
              case aO => exact HOA.out
              case aB => exact HWA.out
              case aS => first | exact HWA.out.size | (have := HB.out.size; omega)
              case aL => exact HLL.out
              intro v8 w8 hr8 hb8 hg8 hat8
              obtain ⟨A8, q8, hv8, hl8, _⟩ := Kd.R_reads hr8
              subst hv8
              have hk8 := (hg8.block _ (blk_lt HK1A.out) HNE.out).trans HK1A.out
              have hk0 := (hg8.block _ (blk_lt HW0A.out) HNE0.out).trans HW0A.out
              have c8 := blk_cell hk8 0
              have f8 := blk_frozen hk8 0
              rw [List.length_append, List.length_singleton] at hr8
              have hr9 := R_setW hr8 hk8 (.slice A8 (acc.length + 1) q8)
              have hk9 := blk_set hk8 0 (.slice A8 (acc.length + 1) q8)
              have hk10 := blk_far hk0 (p := ⟨w.heap.size + 1, 0, none⟩) (by simp) (.slice A8 (acc.length + 1) q8)
              have hb9 := below_set (j := 0) (v := .slice A8 (acc.length + 1) q8) hb8 (Nat.le_succ w.heap.size)
              have HR9 := Lib.hid hr9
              have HK9 := Lib.hid hk9
              have HK10 := Lib.hid hk10
              have HB9 := Lib.hid hb9
              clear hr9 hk9 hk10 hb9 hr8 hb8 hg8 hat8 hk8 hk0 hl8
              go_wp2_with fail
              go_roundw
              case rel => exact ⟨k + 1, .slice A8 (acc.length + 1) q8, by omega, by go_num, by rw [HTK.out, HST.out]; exact HR9.out, by rw [HTK.out, HST.out]; first | (simp; omega) | simp, (by
                rw [HTK.out, HST.out]
                intro q hq hpq
                rcases List.mem_append.1 hq with hq | hq
                · exact Nat.le_succ_of_le (HSZ.out q hq hpq)
                · rw [List.mem_singleton.1 hq]
                  exact Nat.le_add_left 1 k), HK9.out, HK10.out, HB9.out⟩
              case measure => simp [intOf]; omega
            · have hpl : plainT q = true := by unfold plainT; rw [hk1]; simp [hk2]
              have hst := HSTQ.out
              rw [if_pos hpl] at hst
              have HST := Lib.hid hst
              rw [hk1] at x0
              rw [show q.quoted = false by simpa using hk2] at x4
              clear hst
              obtain ⟨g, cap, hge, hgb, hgl, cells, hcells⟩ := Kd.R_form HOA.out (by omega)
              have haq : aq = ⟨g, 0, none⟩ := by injection hge with hge _ _; injection hge
              have hblk : (aq.add (j * 10)).block = g := by rw [add_block, haq]
              have hoff : (⟨(aq.add (j * 10)).block, (aq.add (j * 10)).off + 1, none⟩ : Addr) = ⟨g, j * 10 + 1, none⟩ := by rw [haq, add_plain]
              have fx : ((wr.alloc (.cells #[.int .u8 c0.toNat, .pointer none] 70)).alloc (.cells #[.int .u8 c0.toNat] 5)).frozen? ⟨(aq.add (j * 10)).block, (aq.add (j * 10)).off + 1, none⟩ = false := by rw [hoff]; exact blk_frozen hcells _
              have x1a : ((wr.alloc (.cells #[.int .u8 c0.toNat, .pointer none] 70)).alloc (.cells #[.int .u8 c0.toNat] 5)).cell? ⟨(aq.add (j * 10)).block, (aq.add (j * 10)).off + 1, none⟩ = some (.string q.text) := pw_cell_below HWA0.out x1
              have i0a := pw_cell_below HWA0.out i0
              have c1a : ((wr.alloc (.cells #[.int .u8 c0.toNat, .pointer none] 70)).alloc (.cells #[.int .u8 c0.toNat] 5)).cell? ⟨w.heap.size + 1, 0, none⟩ = some (.slice (some aq) acc.length cv) := pw_cell_below HWA0.out c1
              have hqs : q.text.size + 1 ≤ 9223372036854775807 := by have := HSZ.out q hqm hpl; omega
              have hcvd : (convert 60 9 (.slice (some ⟨wr.heap.size + 1, 0, none⟩) 1 1)).run Tryd.prog ((wr.alloc (.cells #[.int .u8 c0.toNat, .pointer none] 70)).alloc (.cells #[.int .u8 c0.toNat] 5)).drew = .ok (.string ⟨#[c0]⟩) ((wr.alloc (.cells #[.int .u8 c0.toNat, .pointer none] 70)).alloc (.cells #[.int .u8 c0.toNat] 5)).drew := by
                have h := conv_one (wr.alloc (.cells #[.int .u8 c0.toNat, .pointer none] 70)).drew c0
                rw [show (wr.alloc (.cells #[.int .u8 c0.toNat, .pointer none] 70)).drew.heap.size = wr.heap.size + 1 from alloc_size _ _] at h
                exact h
              have hg3 : w.heap.size + 1 ≠ g := fun e => HNE.out (by rw [e, haq]; simp [Value.ownBlock])
              have hg2 : w.heap.size ≠ g := fun e => HNE0.out (by rw [e, haq]; simp [Value.ownBlock])
              have hr9 : Kd.R kP 26 (((wr.alloc (.cells #[.int .u8 c0.toNat, .pointer none] 70)).alloc (.cells #[.int .u8 c0.toNat] 5)).setCell ⟨(aq.add (j * 10)).block, (aq.add (j * 10)).off + 1, none⟩ (.string (q.text ++ ⟨#[c0]⟩))).drew w.heap.size (fun _ => True) (.slice (some aq) acc.length cv) (acc.set j { q with text := q.text ++ ⟨#[c0]⟩ }) := by
                have h1 := HOA.out
                rw [haq] at h1
                have h2 := R_text h1 (List.getElem?_eq_some_iff.2 ⟨hjl, hq⟩) (q.text ++ ⟨#[c0]⟩)
                rw [hoff, haq]
                exact Kd.R_drew h2.1
              have hk9 : (((wr.alloc (.cells #[.int .u8 c0.toNat, .pointer none] 70)).alloc (.cells #[.int .u8 c0.toNat] 5)).setCell ⟨(aq.add (j * 10)).block, (aq.add (j * 10)).off + 1, none⟩ (.string (q.text ++ ⟨#[c0]⟩))).drew.heap[w.heap.size + 1]? = some (.cells #[.slice (some aq) acc.length cv] 28 (0, 0)) := blk_far HK1A.out (by rw [hblk]; exact hg3) _
              have hk10 : (((wr.alloc (.cells #[.int .u8 c0.toNat, .pointer none] 70)).alloc (.cells #[.int .u8 c0.toNat] 5)).setCell ⟨(aq.add (j * 10)).block, (aq.add (j * 10)).off + 1, none⟩ (.string (q.text ++ ⟨#[c0]⟩))).drew.heap[w.heap.size]? = some (.cells #[.slice none 0 0] 28 (0, 0)) := blk_far HW0A.out (by rw [hblk]; exact hg2) _
              have hb9 : Below w.heap.size w (((wr.alloc (.cells #[.int .u8 c0.toNat, .pointer none] 70)).alloc (.cells #[.int .u8 c0.toNat] 5)).setCell ⟨(aq.add (j * 10)).block, (aq.add (j * 10)).off + 1, none⟩ (.string (q.text ++ ⟨#[c0]⟩))).drew := below_drew (HWA.out.setCell (by rw [hblk]; exact hgb) _)
              have HR9 := Lib.hid hr9
              have HK9 := Lib.hid hk9
              have HK10 := Lib.hid hk10
              have HB9 := Lib.hid hb9
              clear hg3 hg2 hr9 hk9 hk10 hb9
              have HOFF := Lib.hid hoff
              have HBLK := Lib.hid hblk
              clear hge hgb hgl hcells haq hblk hoff
              go_wp2_with fail
              go_region_o
              go_wp2_with fail
              go_roundw
              case rel => exact ⟨k + 1, .slice (some aq) acc.length cv, by omega, by go_num, by
                rw [HTK.out, HST.out]
                have h := HR9.out
                rw [show acc.length - 1 = j by omega]
                exact h, by rw [HTK.out, HST.out, List.length_set]; omega, (by
                rw [HTK.out, HST.out]
                intro q' hq' hpq
                rcases List.mem_or_eq_of_mem_set hq' with h | rfl
                · exact Nat.le_succ_of_le (HSZ.out q' h hpq)
                · have h := HSZ.out q hqm hpl
                  show (q.text ++ ⟨#[c0]⟩ : ByteArray).size ≤ k + 1
                  rw [ByteArray.size_append]
                  show q.text.size + 1 ≤ k + 1
                  omega), HK9.out, HK10.out, HB9.out⟩
              case measure => simp [intOf]; omega
          · have hpl : ¬ plainT q = true := by unfold plainT; simp [hk1]
            have hst := HSTQ.out
            rw [if_neg hpl] at hst
            have HST := Lib.hid hst
            clear hst
            go_wp2_with (at_builtin; go_loud (refine Kd.R_append kP (w0 := w) w.heap.size rfl (.tmp 18) (.tmp 24) 22 26 (.agg #[.int .i64 0, .string ⟨#[]⟩, .string ⟨#[]⟩, .string ⟨#[]⟩, .bool false, .slice none 0 0, .slice none 0 0, .slice none 0 0, .slice none 0 0, .int .i64 0]) 168 rfl Tryd.underlying22 zeroW rfl (by decide) (by decide) _ acc (textP ⟨#[c0]⟩ false) (encP (textP ⟨#[c0]⟩ false)) (fun _ => True) (fun _ => False) rfl ?aX ?aP (fun _ hk => hk.elim) (fun _ _ => trivial) ?aO ?aB ?aS ?aL ?_))
            try (case aX => exact (show _ = Value.slice (some ⟨wr.heap.size + 1 + 1, 0, none⟩) 1 1 from rfl).trans (by simp))
            case aP => exact rfl
            case aO => exact HOA.out
            case aB => exact HWA.out
            case aS => first | exact HWA.out.size | (have := HB.out.size; omega)
            case aL => exact HLL.out
            intro v8 w8 hr8 hb8 hg8 hat8
            obtain ⟨A8, q8, hv8, hl8, _⟩ := Kd.R_reads hr8
            subst hv8
            have hk8 := (hg8.block _ (blk_lt HK1A.out) HNE.out).trans HK1A.out
            have hk0 := (hg8.block _ (blk_lt HW0A.out) HNE0.out).trans HW0A.out
            have c8 := blk_cell hk8 0
            have f8 := blk_frozen hk8 0
            rw [List.length_append, List.length_singleton] at hr8
            have hr9 := R_setW hr8 hk8 (.slice A8 (acc.length + 1) q8)
            have hk9 := blk_set hk8 0 (.slice A8 (acc.length + 1) q8)
            have hk10 := blk_far hk0 (p := ⟨w.heap.size + 1, 0, none⟩) (by simp) (.slice A8 (acc.length + 1) q8)
            have hb9 := below_set (j := 0) (v := .slice A8 (acc.length + 1) q8) hb8 (Nat.le_succ w.heap.size)
            have HR9 := Lib.hid hr9
            have HK9 := Lib.hid hk9
            have HK10 := Lib.hid hk10
            have HB9 := Lib.hid hb9
            clear hr9 hk9 hk10 hb9 hr8 hb8 hg8 hat8 hk8 hk0 hl8
            go_wp2_with fail
            go_roundw
            case rel => exact ⟨k + 1, .slice A8 (acc.length + 1) q8, by omega, by go_num, by rw [HTK.out, HST.out]; exact HR9.out, by rw [HTK.out, HST.out]; first | (simp; omega) | simp, (by
              rw [HTK.out, HST.out]
              intro q hq hpq
              rcases List.mem_append.1 hq with hq | hq
              · exact Nat.le_succ_of_le (HSZ.out q hq hpq)
              · rw [List.mem_singleton.1 hq]
                exact Nat.le_add_left 1 k), HK9.out, HK10.out, HB9.out⟩
            case measure => simp [intOf]; omega
    · have hke : k = l.length := by omega
      subst hke
      rw [List.take_length] at HO HW1 hcv
      rw [List.take_length] at hw1
      have z1 := blk_cell hw1 0
      have z2 := blk_frozen HW0.out 0
      have z0 := blk_cell HW0.out 0
      have hr9 := R_setW HO.out HW0.out (.slice Av (wordP l).length cv)
      have hk9 := blk_set HW0.out 0 (.slice Av (wordP l).length cv)
      have c9 : (wr.setCell ⟨w.heap.size, 0, none⟩ (.slice Av (wordP l).length cv)).cell? ⟨w.heap.size, 0, none⟩ = some (.slice Av (wordP l).length cv) := blk_cell hk9 0
      have hb9 := below_set (j := 0) (v := .slice Av (wordP l).length cv) hb (Nat.le_refl _)
      have HR9 := Lib.hid hr9
      have HB9 := Lib.hid hb9
      clear hr9 hk9 hb9 hw1 hb
      go_wp2_with fail
      refine bodyPost_ret (v := .agg #[.slice Av (wordP l).length cv]) (by simp [results, Tryd.results21, go_sem, c9]) rfl ?_
      exact ⟨_, rfl, HR9.out, HB9.out⟩
end Go.Proofs.YtciflnnagkdjiaaDoor.Ext
