/- Proved: brace.span's call: all words from one to another. Conditions: at most 10 to the 9 items; MaxLen holds a number. -/
import Derived.Test.YtciflnnagkdjiaaDoorVsBrSpan
set_option linter.unusedVariables false
set_option linter.unusedSimpArgs false
namespace Go.Proofs.YtciflnnagkdjiaaDoor.Ext
open Go.RowKit Go.Proofs.YtciflnnagkdjiaaDoorW.PrintWords
def isPart : ItemS → Bool
  | .part _ => true
  | .oct _ => false
def octs (l : List ItemS) : List UInt8 := l.filterMap fun x => match x with
  | .oct c => some c
  | .part _ => none
def rowText (let_ : Bool) (n : Int) : List UInt8 := if let_ = true then [n.toNat.toUInt8] else decsInt n
def spanGo (let_ : Bool) (b step : Int) : Nat → Int → List (List ItemS)
  | 0, _ => []
  | k + 1, n => (rowText let_ n).map ItemS.oct :: (if n = b then [] else spanGo let_ b step k (n + step))
def spanB : SpanF := fun l => if l.any isPart = true then [] else match ends4 ⟨(octs l).toArray⟩ with
  | none => []
  | some (a, b, let_) => spanGo let_ b (if b < a then -1 else 1) 257 a
theorem decs_len : ∀ (k n : Nat), n < 10 ^ (k + 1) → (decs n).length ≤ k + 1
  | 0, n, h => by
    rw [decs, if_pos (by simpa using h)]
    simp
  | k + 1, n, h => by
    rw [decs]
    split
    · simp
    · have h2 := decs_len k (n / 10) (by rw [Nat.div_lt_iff_lt_mul (by decide)]; rw [Nat.pow_succ] at h; omega)
      rw [List.length_append, List.length_singleton]
      omega
theorem decsInt_len {n : Int} (h : -9223372036854775808 ≤ n ∧ n ≤ 9223372036854775807) : ((decsInt n).map ItemS.oct).length ≤ 20 := by
  have h1 := decs_len 18 n.natAbs (by have : n.natAbs ≤ 9223372036854775808 := by omega
                                      exact Nat.lt_of_le_of_lt this (by decide))
  rw [List.length_map]
  unfold decsInt
  split
  · rw [List.length_cons]; omega
  · omega
theorem items_text (l : List UInt8) : itemsP [textP ⟨l.toArray⟩ false] = l.map ItemS.oct := by
  unfold itemsP itemsOf
  rw [List.flatMap_singleton, if_pos ⟨rfl, rfl⟩]
  simp [textP]
theorem wrap64_small {n : Int} (h : -9223372036854775808 ≤ n ∧ n ≤ 9223372036854775807) : wrap64 n = n := by unfold wrap64; omega
theorem u8_of {n : Int} (h0 : 0 ≤ n) (h1 : n ≤ 255) : IntKind.u8.wrap n = (n.toNat.toUInt8.toNat : Int) := by
  have h2 : n.toNat.toUInt8.toNat = n.toNat := by
    show (UInt8.ofNat n.toNat).toNat = n.toNat
    rw [UInt8.toNat_ofNat']
    omega
  rw [h2]
  show n % 256 = _
  omega
theorem C_lit (w : World) (p : PartS) : Kd.C kP (w.alloc (.cells (encP p).toArray 26)) (some ⟨w.heap.size, 0, none⟩) 1 [p] := by
  refine ⟨rfl, by decide, fun _ => ⟨_, rfl, fun j q hj => ?_⟩⟩
  cases j with
  | zero =>
    have : p = q := by simpa using hj
    subst this
    refine ⟨encP p, rfl, rfl, fun i u hu => ?_⟩
    have h := blk_cell (heap_alloc_new w (.cells (encP p).toArray 26)) i
    rw [List.getElem?_toArray, hu] at h
    have e : (⟨w.heap.size, 0, none⟩ : Addr).add (0 * kP.sz + i) = ⟨w.heap.size, i, none⟩ := by
      rw [Nat.zero_mul, Nat.zero_add, add_plain]
    rw [e]
    exact h
  | succ j => simp at hj
theorem conv_one (W : World) (c : UInt8) : (convert 60 9 (.slice (some ⟨W.heap.size, 0, none⟩) 1 1)).run Tryd.prog (W.alloc (.cells #[.int .u8 c.toNat] 5)) = .ok (.string ⟨#[c]⟩) (W.alloc (.cells #[.int .u8 c.toNat] 5)) := by
  have h := own_reads' (own_lit W W.heap.size 5 .u8 [(c.toNat : Int)] (Nat.le_refl _) (by simp))
  have h2 := string_of_reads (P := Tryd.prog) (src := 60) (dst := 9) (e := 5) (c := 1) Tryd.underlying60 Tryd.underlying5 Tryd.underlying9 h
  rw [show strOfNums [(c.toNat : Int)] = ⟨#[c]⟩ from strOf_map [c]] at h2
  exact h2
theorem octs_app (a b : List ItemS) : octs (a ++ b) = octs a ++ octs b := by unfold octs; rw [List.filterMap_append]
def sliceLen : Value → Nat
  | .slice _ n _ => n
  | _ => 0
theorem alloc_size (w : World) (o : Obj) : (w.alloc o).heap.size = w.heap.size + 1 := by simp
theorem parse_range (l : List UInt8) : -9223372036854775808 ≤ (parseL l).1 ∧ (parseL l).1 ≤ 9223372036854775807 := by
  have hw : ∀ z, -9223372036854775808 ≤ wrap64 z ∧ wrap64 z ≤ 9223372036854775807 := fun z => by unfold wrap64; omega
  unfold parseL
  dsimp only
  split
  · decide
  · split
    · decide
    · split
      · exact hw _
      · exact hw _
theorem bound_range (s : ByteArray) (hs : s.size ≤ 1000000000) : -9223372036854775808 ≤ (boundB s).1 ∧ (boundB s).1 ≤ 9223372036854775807 := by
  have h0 : -9223372036854775808 ≤ ((0, false) : Int × Bool).1 ∧ ((0, false) : Int × Bool).1 ≤ 9223372036854775807 := by decide
  unfold boundB R.brace_bound.f
  rw [trim_one_pre]
  have hsz : (if s.data.toList.head? = some 45 then s.extract 1 s.size else s).size ≤ 1000000000 := by
    split
    · rw [ByteArray.size_extract]; omega
    · exact hs
  generalize (if s.data.toList.head? = some 45 then s.extract 1 s.size else s) = t at *
  rw [Option.bind_some]
  unfold octets_Digits.f
  rw [if_pos hsz, Option.bind_some, parse_spec s (by omega), Option.bind_some]
  split
  · split
    · exact h0
    · exact parse_range _
  · exact h0
theorem letter_range {s : ByteArray} {a : Int} (h : letterOf s = some a) : 0 ≤ a ∧ a ≤ 255 ∧ (97 ≤ a ∧ a ≤ 122 ∨ 65 ≤ a ∧ a ≤ 90) := by
  unfold letterOf at h
  split at h
  · split at h
    · rename_i c _ hl
      obtain rfl := Option.some.inj h
      have := of_decide_eq_true hl
      have := c.toNat_lt
      omega
    · cases h
  · cases h
theorem or_small : ∀ k : Fin 256, (97 ≤ k.val ∧ k.val ≤ 122 → (Go.bits .or .i64 (k.val : Int) 32 == (k.val : Int)) = true) ∧ (65 ≤ k.val ∧ k.val ≤ 90 → (Go.bits .or .i64 (k.val : Int) 32 == (k.val : Int)) = false) := by decide +kernel
theorem or_case (z : Int) : (97 ≤ z ∧ z ≤ 122 → (Go.bits .or .i64 z 32 == z) = true) ∧ (65 ≤ z ∧ z ≤ 90 → (Go.bits .or .i64 z 32 == z) = false) := by
  by_cases h : 0 ≤ z ∧ z < 256
  · obtain ⟨k, rfl⟩ : ∃ k : Nat, z = k := ⟨z.toNat, by omega⟩
    have := or_small ⟨k, by omega⟩
    dsimp only at this
    exact ⟨fun h => this.1 (by omega), fun h => this.2 (by omega)⟩
  · exact ⟨fun h => by omega, fun h => by omega⟩
/-- Ends are numbers of an int; letters are of one case. -/
theorem ends_range (s : ByteArray) (hs : s.size ≤ 1000000000) (a b : Int) (let_ : Bool) (h : ends4 s = some (a, b, let_)) :
    (-9223372036854775808 ≤ a ∧ a ≤ 9223372036854775807 ∧ -9223372036854775808 ≤ b ∧ b ≤ 9223372036854775807) ∧
    (let_ = true → (97 ≤ a ∧ a ≤ 122 ∧ 97 ≤ b ∧ b ≤ 122) ∨ (65 ≤ a ∧ a ≤ 90 ∧ 65 ≤ b ∧ b ≤ 90)) := by
  have hx := bound_range (cutL s) (Nat.le_trans (cut_size s).1 hs)
  have hy := bound_range (cutR s) (Nat.le_trans (cut_size s).2 hs)
  unfold ends4 endsOf at h
  split at h
  · split at h
    · simp only [Option.some.injEq, Prod.mk.injEq] at h
      obtain ⟨rfl, rfl, rfl⟩ := h
      exact ⟨⟨hx.1, hx.2, hy.1, hy.2⟩, fun h => by cases h⟩
    · split at h
      · rename_i a' b' ha hb
        unfold endsPick at h
        split at h
        · rename_i hq
          simp only [Option.some.injEq, Prod.mk.injEq] at h
          obtain ⟨rfl, rfl, rfl⟩ := h
          have h1 := letter_range ha
          have h2 := letter_range hb
          refine ⟨by omega, fun _ => ?_⟩
          have key : ∀ z : Int, (97 ≤ z ∧ z ≤ 122 → (Go.bits .or .i64 z 32 == z) = true) ∧ (65 ≤ z ∧ z ≤ 90 → (Go.bits .or .i64 z 32 == z) = false) := or_case
          rcases h1.2.2 with h3 | h3 <;> rcases h2.2.2 with h4 | h4
          · exact .inl ⟨h3.1, h3.2, h4.1, h4.2⟩
          · rw [(key a').1 h3, (key b').2 h4] at hq; cases hq
          · rw [(key a').2 h3, (key b').1 h4] at hq; cases hq
          · exact .inr ⟨h3.1, h3.2, h4.1, h4.2⟩
        · cases h
      · cases h
  · cases h
set_option maxHeartbeats 8000000 in
set_option maxRecDepth 100000 in
theorem span_calls : SpanOk spanB := by
  intro A c l w hmx hr hc hl
  have HR := Lib.hid hr
  have HMX := Lib.hid hmx
  clear hr hmx
  have HEN := Lib.hid ends_calls
  have HIT := Lib.hid items_calls
  go_enter Tryd.func32, Tryd.ntmps32
  go_wp2_with fail
  go_loopw [3, 16] (fun sv i wr => ∃ (k : Nat) (s : ByteArray), k ≤ l.length ∧ i = .int .i64 k ∧ sv = .string s ∧ s.data.toList = octs (l.take k) ∧ (l.take k).any isPart = false ∧ Below w.heap.size w wr) (fun _ i _ => l.length - (intOf i).toNat)
  case atStart => exact ⟨0, ⟨#[]⟩, Nat.zero_le _, rfl, rfl, rfl, rfl, Below.refl _ _⟩
  case round =>
    obtain ⟨k, s, hk, rfl, rfl, hs, hno, hb⟩ := hrel
    have HB := Lib.hid hb
    have HS := Lib.hid hs
    have HNO := Lib.hid hno
    clear hs hno
    by_cases hlt : k < l.length
    · obtain ⟨ad, u, v, rfl, y0, y1, hK⟩ := at_I (HR.out.below hb).c (List.getElem?_eq_getElem hlt)
      have htk : l.take (k + 1) = l.take k ++ [l[k]] := (List.take_append_getElem hlt).symm
      have HX := Lib.hid (BoxI.of hb hK)
      have hmem := List.getElem_mem hlt
      generalize l[k] = x at *
      have HTK := Lib.hid htk
      clear htk hb
      cases x with
      | part p =>
        obtain ⟨bk, hx, _⟩ := hK
        obtain ⟨hx0, hv⟩ := List.cons.inj hx
        obtain rfl : u = 0 := by injection hx0
        obtain rfl : v = some ⟨bk, 0, none⟩ := by have := (List.cons.inj hv).1; injection this
        have hsp : spanB l = [] := by
          unfold spanB
          rw [if_pos (List.any_eq_true.2 ⟨_, hmem, rfl⟩)]
        have HSP := Lib.hid hsp
        clear hx hx0 hv hsp
        go_wp2_with fail
        go_ret
        rw [HSP.out]
        exact ⟨_, rfl, RRg.nil _ _ _ _ _, HX.out.bel⟩
      | oct c0 =>
        obtain ⟨hx0, hv⟩ := List.cons.inj hK
        obtain rfl : u = c0.toNat := by injection hx0
        obtain rfl : v = none := by have := (List.cons.inj hv).1; injection this
        clear hx0 hv hK
        have hcv := conv_one (wr.alloc (.cells #[.int .u8 c0.toNat, .pointer none] 70)) c0
        rw [alloc_size] at hcv
        have hs2 : (s ++ ⟨#[c0]⟩ : ByteArray).data.toList = octs (l.take (k + 1)) := by
          rw [HTK.out, octs_app, ← HS.out]
          simp [octs]
        have hn2 : (l.take (k + 1)).any isPart = false := by
          rw [HTK.out, List.any_append, HNO.out]
          rfl
        have HS2 := Lib.hid hs2
        have HN2 := Lib.hid hn2
        have hsz : s.size ≤ 1000000000 := by
          have h1 : (octs (l.take k)).length ≤ (l.take k).length := List.length_filterMap_le _ _
          rw [List.length_take] at h1
          have h2 := congrArg List.length HS.out
          rw [data_length] at h2
          omega
        have hsb : s.size + 1 ≤ 9223372036854775807 := by omega
        clear hs2 hn2 hsz
        go_wp2_with fail
        go_roundw
        case rel => exact ⟨k + 1, s ++ ⟨#[c0]⟩, by omega, by go_num, rfl, HS2.out, HN2.out, below_step HX.out.bel ((Below.refl _ _).alloc (Nat.le_refl _) _)⟩
        case measure => simp [intOf]; omega
    · have hke : k = l.length := by omega
      subst hke
      rw [List.take_length] at HS HNO
      have hse : s = ⟨(octs l).toArray⟩ := by
        apply ByteArray.ext
        apply Array.toList_inj.1
        rw [HS.out]
      have hsp : spanB l = match ends4 s with
          | none => []
          | some (a, b, let_) => spanGo let_ b (if b < a then -1 else 1) 257 a := by
        unfold spanB
        rw [if_neg (by rw [HNO.out]; decide), ← hse]
      have hsz : s.size ≤ 1000000000 := by
        have h1 : (octs l).length ≤ l.length := List.length_filterMap_le _ _
        have h2 := congrArg List.length HS.out
        rw [data_length] at h2
        omega
      have HSP := Lib.hid hsp
      have HE := Lib.hid (HEN.out s wr (HMX.out.below HB.out) hsz)
      have HPR := Lib.hid (ends_range s hsz)
      clear hse hsp hsz hb
      go_wp2_with fail
      refine HE.out.mono ?_
      rintro e w1 ⟨hs1, hb1⟩
      have HB := Lib.hid (below_step HB.out hb1)
      clear hb1
      generalize ends4 s = en at *
      cases en with
      | none =>
        obtain ⟨a, b, let_, rfl⟩ := hs1
        go_wp2_with fail
        go_ret
        rw [HSP.out]
        exact ⟨_, rfl, RRg.nil _ _ _ _ _, HB.out⟩
      | some t =>
        obtain ⟨a, b, let_⟩ := t
        obtain rfl : e = _ := hs1
        have hsp := HSP.out
        dsimp only at hsp
        have hrange := HPR.out a b let_ rfl
        by_cases hba : b < a
        · rw [if_pos hba] at hsp
          have HSP2 := Lib.hid hsp
          clear hsp HSP
          go_wp2_with fail
          go_loopw [11, 12] (fun out nv wr => ∃ (n : Int) (dn : List (List ItemS)), nv = .int .i64 n ∧ RRi wr w.heap.size out dn ∧ dn.length ≤ 257 ∧ dn ++ spanGo let_ b (-1) (257 - dn.length) n = spanB l ∧ b ≤ n ∧ n ≤ a ∧ Below w.heap.size w wr) (fun out _ _ => 257 - sliceLen out)
          case atStart => exact ⟨a, [], rfl, RRg.nil _ _ _ _ _, by decide, HSP2.out.symm, by omega, by omega, HB.out⟩
          case round =>
            obtain ⟨n, dn, rfl, hRo, hdn, hgo, hn1, hn2, hbr⟩ := hrel
            obtain ⟨Ao, co, rfl, hco⟩ := hRo.slice
            have HO := Lib.hid hRo
            have HBr := Lib.hid hbr
            have HGO := Lib.hid hgo
            clear hRo hbr hgo
            by_cases hle : dn.length ≤ 256
            · have hd : decide ((dn.length : Int) ≤ 256) = true := decide_eq_true (by omega)
              have HP := Lib.hid (number_Print.calls n ⟨(decsInt n).toArray⟩ wr (by unfold number_Print.f; rw [if_pos (by omega)]))
              cases let_ with
              | false =>
                have hrt : rowText false n = decsInt n := by unfold rowText; rw [if_neg (by decide)]
                have HRT := Lib.hid hrt
                clear hrt
                go_wp2_with fail
                refine HP.out.mono ?_
                rintro e w2 ⟨rfl, hb2⟩
                have HB2 := Lib.hid hb2
                clear hb2
                go_wp2_with fail
                have hW : Below w2.heap.size w2 w2 := Below.refl _ _
                refine (HIT.out _ 1 [textP ⟨(decsInt n).toArray⟩ false] _ (C_lit w2 (textP ⟨(decsInt n).toArray⟩ false)) (Nat.le_refl _) (by rw [items_text]; exact Nat.le_trans (decsInt_len (by omega)) (by decide))).mono ?_
                rintro e w3 ⟨v3, rfl, hr3, hb3⟩
                rw [items_text] at hr3
                have hb23 : Below w2.heap.size w2 w3 := below_step (hW.alloc hW.size _) hb3
                have HB3 := Lib.hid (below_step HB2.out hb23)
                obtain ⟨A9, c9, hv9, hl9, hC9⟩ := Kd.R_reads hr3
                subst hv9
                have HIN := Lib.hid (show Inner kI 70 w3 ((decsInt n).map ItemS.oct) [.slice A9 ((decsInt n).map ItemS.oct).length c9] from ⟨A9, c9, rfl, hl9, hC9, fun hp a ha => by
                  subst ha
                  obtain ⟨g, cap, he, _, _, cells, hc⟩ := Kd.R_form hr3 hp
                  injection he with he
                  injection he with he
                  subst he
                  exact ⟨cells, hc⟩⟩)
                have HO3 := Lib.hid (HO.out.below HB3.out)
                have HBw := Lib.hid (below_step HBr.out HB3.out)
                clear hr3 hb3 hl9 hC9 hb23 hW
                obtain ⟨row, hrow⟩ : ∃ row, (decsInt n).map ItemS.oct = row := ⟨_, rfl⟩
                have HRW := Lib.hid hrow
                rw [hrow] at HIN
                try rw [hrow]
                clear hrow
                go_wp2_with (at_builtin; go_loud (refine RRg_append kI (w0 := w) w.heap.size rfl (.tmp 56) (.tmp 62) 55 70 53 kI_stays (by decide) rfl Tryd.underlying55 infoL _ dn row (.slice A9 row.length c9) rfl ?aX ?aO ?aI ?aB ?aS ?aL ?_))
                case aX => simp [Act.eval]
                case aO => exact HO3.out
                case aI => exact HIN.out
                case aB => exact HBw.out
                case aS => exact HBw.out.size
                case aL => omega
                intro v8 w8 hr8 hb8 _ _
                have HB8 := Lib.hid hb8
                have hsp8 := HGO.out
                have hk8 : 257 - dn.length = (256 - dn.length) + 1 := by omega
                rw [hk8, spanGo, show (rowText false n).map ItemS.oct = row from by rw [HRT.out]; exact HRW.out] at hsp8
                have hr8 : RRi w8 w.heap.size v8 (dn ++ [row]) := by first | exact hr8 | (simpa using hr8)
                have hl8 : (dn ++ [row]).length = dn.length + 1 := by simp
                by_cases hnb : n = b
                · subst hnb
                  rw [if_pos rfl] at hsp8
                  have HR8 := Lib.hid hr8
                  have HS8 := Lib.hid hsp8
                  clear hr8 hb8 hsp8
                  go_wp2_with fail
                  go_ret
                  rw [← HS8.out]
                  exact ⟨_, rfl, HR8.out, HB8.out⟩
                · rw [if_neg hnb] at hsp8
                  obtain ⟨A8, c8, rfl, hc8⟩ := hr8.slice
                  have hs9 : (dn ++ [row]) ++ spanGo false b (-1) (257 - (dn ++ [row]).length) (n + -1) = spanB l := by
                    rw [← hsp8, hl8, show 257 - (dn.length + 1) = 256 - dn.length by omega, List.append_assoc]
                    rfl
                  have HS9 := Lib.hid hs9
                  have HR8 := Lib.hid hr8
                  have hw9 : wrap64 (n + -1) = n + -1 := wrap64_small (by omega)
                  have HW9 := Lib.hid hw9
                  have hne9 : (n == b) = false := beq_eq_false_iff_ne.2 hnb
                  clear hr8 hb8 hsp8 hs9 hw9
                  go_wp2_with fail
                  go_roundw
                  case rel => exact ⟨n + -1, dn ++ [row], by first | rfl | exact congrArg (Value.int .i64) HW9.out, HR8.out, by rw [hl8]; omega, HS9.out, by omega, by omega, HB8.out⟩
                  case measure => simp only [sliceLen, hl8]; omega
              | true =>
                have hlr := hrange.2 rfl
                go_wp2_with fail
                refine HP.out.mono ?_
                rintro e w2 ⟨rfl, hb2⟩
                have HB2 := Lib.hid hb2
                clear hb2
                obtain ⟨cb, hcb⟩ : ∃ cb : UInt8, n.toNat.toUInt8 = cb := ⟨_, rfl⟩
                have hu8 := u8_of (n := n) (by omega) (by omega)
                rw [hcb] at hu8
                have HCB := Lib.hid hcb
                have hcv := conv_one w2 cb
                clear hcb
                go_wp2_with fail
                have hrt : rowText true n = [cb] := by unfold rowText; rw [if_pos rfl, HCB.out]
                have HRT := Lib.hid hrt
                clear hrt
                have hW : Below w2.heap.size w2 (w2.alloc (.cells #[.int .u8 cb.toNat] 5)) := (Below.refl _ _).alloc (Nat.le_refl _) _
                have hcl := C_lit (w2.alloc (.cells #[.int .u8 cb.toNat] 5)) (textP ⟨#[cb]⟩ false)
                rw [alloc_size] at hcl
                refine (HIT.out _ 1 [textP ⟨#[cb]⟩ false] _ hcl (Nat.le_refl _) (by rw [items_text, List.length_map, List.length_singleton]; omega)).mono ?_
                rintro e w3 ⟨v3, rfl, hr3, hb3⟩
                rw [items_text] at hr3
                have hb23 : Below w2.heap.size w2 w3 := below_step (hW.alloc hW.size _) hb3
                have HB3 := Lib.hid (below_step HB2.out hb23)
                obtain ⟨A9, c9, hv9, hl9, hC9⟩ := Kd.R_reads hr3
                subst hv9
                have HIN := Lib.hid (show Inner kI 70 w3 ([cb].map ItemS.oct) [.slice A9 ([cb].map ItemS.oct).length c9] from ⟨A9, c9, rfl, hl9, hC9, fun hp a ha => by
                  subst ha
                  obtain ⟨g, cap, he, _, _, cells, hc⟩ := Kd.R_form hr3 hp
                  injection he with he
                  injection he with he
                  subst he
                  exact ⟨cells, hc⟩⟩)
                have HO3 := Lib.hid (HO.out.below HB3.out)
                have HBw := Lib.hid (below_step HBr.out HB3.out)
                clear hr3 hb3 hl9 hC9 hb23 hW
                obtain ⟨row, hrow⟩ : ∃ row, [cb].map ItemS.oct = row := ⟨_, rfl⟩
                have HRW := Lib.hid hrow
                rw [hrow] at HIN
                try rw [hrow]
                clear hrow
                go_wp2_with (at_builtin; go_loud (refine RRg_append kI (w0 := w) w.heap.size rfl (.tmp 56) (.tmp 62) 55 70 53 kI_stays (by decide) rfl Tryd.underlying55 infoL _ dn row (.slice A9 row.length c9) rfl ?aX ?aO ?aI ?aB ?aS ?aL ?_))
                case aX => simp [Act.eval]
                case aO => exact HO3.out
                case aI => exact HIN.out
                case aB => exact HBw.out
                case aS => exact HBw.out.size
                case aL => omega
                intro v8 w8 hr8 hb8 _ _
                have HB8 := Lib.hid hb8
                have hsp8 := HGO.out
                have hk8 : 257 - dn.length = (256 - dn.length) + 1 := by omega
                rw [hk8, spanGo, show (rowText true n).map ItemS.oct = row from by rw [HRT.out]; exact HRW.out] at hsp8
                have hr8 : RRi w8 w.heap.size v8 (dn ++ [row]) := by first | exact hr8 | (simpa using hr8)
                have hl8 : (dn ++ [row]).length = dn.length + 1 := by simp
                by_cases hnb : n = b
                · subst hnb
                  rw [if_pos rfl] at hsp8
                  have HR8 := Lib.hid hr8
                  have HS8 := Lib.hid hsp8
                  clear hr8 hb8 hsp8
                  go_wp2_with fail
                  go_ret
                  rw [← HS8.out]
                  exact ⟨_, rfl, HR8.out, HB8.out⟩
                · rw [if_neg hnb] at hsp8
                  obtain ⟨A8, c8, rfl, hc8⟩ := hr8.slice
                  have hs9 : (dn ++ [row]) ++ spanGo true b (-1) (257 - (dn ++ [row]).length) (n + -1) = spanB l := by
                    rw [← hsp8, hl8, show 257 - (dn.length + 1) = 256 - dn.length by omega, List.append_assoc]
                    rfl
                  have HS9 := Lib.hid hs9
                  have HR8 := Lib.hid hr8
                  have hw9 : wrap64 (n + -1) = n + -1 := wrap64_small (by omega)
                  have HW9 := Lib.hid hw9
                  have hne9 : (n == b) = false := beq_eq_false_iff_ne.2 hnb
                  clear hr8 hb8 hsp8 hs9 hw9
                  go_wp2_with fail
                  go_roundw
                  case rel => exact ⟨n + -1, dn ++ [row], by first | rfl | exact congrArg (Value.int .i64) HW9.out, HR8.out, by rw [hl8]; omega, HS9.out, by omega, by omega, HB8.out⟩
                  case measure => simp only [sliceLen, hl8]; omega
            · have hde : dn.length = 257 := by omega
              have hs9 := HGO.out
              rw [hde, Nat.sub_self, spanGo, List.append_nil] at hs9
              have HS9 := Lib.hid hs9
              have hd : decide ((dn.length : Int) ≤ 256) = false := decide_eq_false (by omega)
              clear hs9
              go_wp2_with fail
              go_ret
              rw [← HS9.out]
              exact ⟨_, rfl, HO.out, HBr.out⟩
        · rw [if_neg hba] at hsp
          have HSP2 := Lib.hid hsp
          clear hsp HSP
          go_wp2_with fail
          go_loopw [11, 12] (fun out nv wr => ∃ (n : Int) (dn : List (List ItemS)), nv = .int .i64 n ∧ RRi wr w.heap.size out dn ∧ dn.length ≤ 257 ∧ dn ++ spanGo let_ b (1) (257 - dn.length) n = spanB l ∧ a ≤ n ∧ n ≤ b ∧ Below w.heap.size w wr) (fun out _ _ => 257 - sliceLen out)
          case atStart => exact ⟨a, [], rfl, RRg.nil _ _ _ _ _, by decide, HSP2.out.symm, by omega, by omega, HB.out⟩
          case round =>
            obtain ⟨n, dn, rfl, hRo, hdn, hgo, hn1, hn2, hbr⟩ := hrel
            obtain ⟨Ao, co, rfl, hco⟩ := hRo.slice
            have HO := Lib.hid hRo
            have HBr := Lib.hid hbr
            have HGO := Lib.hid hgo
            clear hRo hbr hgo
            by_cases hle : dn.length ≤ 256
            · have hd : decide ((dn.length : Int) ≤ 256) = true := decide_eq_true (by omega)
              have HP := Lib.hid (number_Print.calls n ⟨(decsInt n).toArray⟩ wr (by unfold number_Print.f; rw [if_pos (by omega)]))
              cases let_ with
              | false =>
                have hrt : rowText false n = decsInt n := by unfold rowText; rw [if_neg (by decide)]
                have HRT := Lib.hid hrt
                clear hrt
                go_wp2_with fail
                refine HP.out.mono ?_
                rintro e w2 ⟨rfl, hb2⟩
                have HB2 := Lib.hid hb2
                clear hb2
                go_wp2_with fail
                have hW : Below w2.heap.size w2 w2 := Below.refl _ _
                refine (HIT.out _ 1 [textP ⟨(decsInt n).toArray⟩ false] _ (C_lit w2 (textP ⟨(decsInt n).toArray⟩ false)) (Nat.le_refl _) (by rw [items_text]; exact Nat.le_trans (decsInt_len (by omega)) (by decide))).mono ?_
                rintro e w3 ⟨v3, rfl, hr3, hb3⟩
                rw [items_text] at hr3
                have hb23 : Below w2.heap.size w2 w3 := below_step (hW.alloc hW.size _) hb3
                have HB3 := Lib.hid (below_step HB2.out hb23)
                obtain ⟨A9, c9, hv9, hl9, hC9⟩ := Kd.R_reads hr3
                subst hv9
                have HIN := Lib.hid (show Inner kI 70 w3 ((decsInt n).map ItemS.oct) [.slice A9 ((decsInt n).map ItemS.oct).length c9] from ⟨A9, c9, rfl, hl9, hC9, fun hp a ha => by
                  subst ha
                  obtain ⟨g, cap, he, _, _, cells, hc⟩ := Kd.R_form hr3 hp
                  injection he with he
                  injection he with he
                  subst he
                  exact ⟨cells, hc⟩⟩)
                have HO3 := Lib.hid (HO.out.below HB3.out)
                have HBw := Lib.hid (below_step HBr.out HB3.out)
                clear hr3 hb3 hl9 hC9 hb23 hW
                obtain ⟨row, hrow⟩ : ∃ row, (decsInt n).map ItemS.oct = row := ⟨_, rfl⟩
                have HRW := Lib.hid hrow
                rw [hrow] at HIN
                try rw [hrow]
                clear hrow
                go_wp2_with (at_builtin; go_loud (refine RRg_append kI (w0 := w) w.heap.size rfl (.tmp 56) (.tmp 62) 55 70 53 kI_stays (by decide) rfl Tryd.underlying55 infoL _ dn row (.slice A9 row.length c9) rfl ?aX ?aO ?aI ?aB ?aS ?aL ?_))
                case aX => simp [Act.eval]
                case aO => exact HO3.out
                case aI => exact HIN.out
                case aB => exact HBw.out
                case aS => exact HBw.out.size
                case aL => omega
                intro v8 w8 hr8 hb8 _ _
                have HB8 := Lib.hid hb8
                have hsp8 := HGO.out
                have hk8 : 257 - dn.length = (256 - dn.length) + 1 := by omega
                rw [hk8, spanGo, show (rowText false n).map ItemS.oct = row from by rw [HRT.out]; exact HRW.out] at hsp8
                have hr8 : RRi w8 w.heap.size v8 (dn ++ [row]) := by first | exact hr8 | (simpa using hr8)
                have hl8 : (dn ++ [row]).length = dn.length + 1 := by simp
                by_cases hnb : n = b
                · subst hnb
                  rw [if_pos rfl] at hsp8
                  have HR8 := Lib.hid hr8
                  have HS8 := Lib.hid hsp8
                  clear hr8 hb8 hsp8
                  go_wp2_with fail
                  go_ret
                  rw [← HS8.out]
                  exact ⟨_, rfl, HR8.out, HB8.out⟩
                · rw [if_neg hnb] at hsp8
                  obtain ⟨A8, c8, rfl, hc8⟩ := hr8.slice
                  have hs9 : (dn ++ [row]) ++ spanGo false b (1) (257 - (dn ++ [row]).length) (n + 1) = spanB l := by
                    rw [← hsp8, hl8, show 257 - (dn.length + 1) = 256 - dn.length by omega, List.append_assoc]
                    rfl
                  have HS9 := Lib.hid hs9
                  have HR8 := Lib.hid hr8
                  have hw9 : wrap64 (n + 1) = n + 1 := wrap64_small (by omega)
                  have HW9 := Lib.hid hw9
                  have hne9 : (n == b) = false := beq_eq_false_iff_ne.2 hnb
                  clear hr8 hb8 hsp8 hs9 hw9
                  go_wp2_with fail
                  go_roundw
                  case rel => exact ⟨n + 1, dn ++ [row], by first | rfl | exact congrArg (Value.int .i64) HW9.out, HR8.out, by rw [hl8]; omega, HS9.out, by omega, by omega, HB8.out⟩
                  case measure => simp only [sliceLen, hl8]; omega
              | true =>
                have hlr := hrange.2 rfl
                go_wp2_with fail
                refine HP.out.mono ?_
                rintro e w2 ⟨rfl, hb2⟩
                have HB2 := Lib.hid hb2
                clear hb2
                obtain ⟨cb, hcb⟩ : ∃ cb : UInt8, n.toNat.toUInt8 = cb := ⟨_, rfl⟩
                have hu8 := u8_of (n := n) (by omega) (by omega)
                rw [hcb] at hu8
                have HCB := Lib.hid hcb
                have hcv := conv_one w2 cb
                clear hcb
                go_wp2_with fail
                have hrt : rowText true n = [cb] := by unfold rowText; rw [if_pos rfl, HCB.out]
                have HRT := Lib.hid hrt
                clear hrt
                have hW : Below w2.heap.size w2 (w2.alloc (.cells #[.int .u8 cb.toNat] 5)) := (Below.refl _ _).alloc (Nat.le_refl _) _
                have hcl := C_lit (w2.alloc (.cells #[.int .u8 cb.toNat] 5)) (textP ⟨#[cb]⟩ false)
                rw [alloc_size] at hcl
                refine (HIT.out _ 1 [textP ⟨#[cb]⟩ false] _ hcl (Nat.le_refl _) (by rw [items_text, List.length_map, List.length_singleton]; omega)).mono ?_
                rintro e w3 ⟨v3, rfl, hr3, hb3⟩
                rw [items_text] at hr3
                have hb23 : Below w2.heap.size w2 w3 := below_step (hW.alloc hW.size _) hb3
                have HB3 := Lib.hid (below_step HB2.out hb23)
                obtain ⟨A9, c9, hv9, hl9, hC9⟩ := Kd.R_reads hr3
                subst hv9
                have HIN := Lib.hid (show Inner kI 70 w3 ([cb].map ItemS.oct) [.slice A9 ([cb].map ItemS.oct).length c9] from ⟨A9, c9, rfl, hl9, hC9, fun hp a ha => by
                  subst ha
                  obtain ⟨g, cap, he, _, _, cells, hc⟩ := Kd.R_form hr3 hp
                  injection he with he
                  injection he with he
                  subst he
                  exact ⟨cells, hc⟩⟩)
                have HO3 := Lib.hid (HO.out.below HB3.out)
                have HBw := Lib.hid (below_step HBr.out HB3.out)
                clear hr3 hb3 hl9 hC9 hb23 hW
                obtain ⟨row, hrow⟩ : ∃ row, [cb].map ItemS.oct = row := ⟨_, rfl⟩
                have HRW := Lib.hid hrow
                rw [hrow] at HIN
                try rw [hrow]
                clear hrow
                go_wp2_with (at_builtin; go_loud (refine RRg_append kI (w0 := w) w.heap.size rfl (.tmp 56) (.tmp 62) 55 70 53 kI_stays (by decide) rfl Tryd.underlying55 infoL _ dn row (.slice A9 row.length c9) rfl ?aX ?aO ?aI ?aB ?aS ?aL ?_))
                case aX => simp [Act.eval]
                case aO => exact HO3.out
                case aI => exact HIN.out
                case aB => exact HBw.out
                case aS => exact HBw.out.size
                case aL => omega
                intro v8 w8 hr8 hb8 _ _
                have HB8 := Lib.hid hb8
                have hsp8 := HGO.out
                have hk8 : 257 - dn.length = (256 - dn.length) + 1 := by omega
                rw [hk8, spanGo, show (rowText true n).map ItemS.oct = row from by rw [HRT.out]; exact HRW.out] at hsp8
                have hr8 : RRi w8 w.heap.size v8 (dn ++ [row]) := by first | exact hr8 | (simpa using hr8)
                have hl8 : (dn ++ [row]).length = dn.length + 1 := by simp
                by_cases hnb : n = b
                · subst hnb
                  rw [if_pos rfl] at hsp8
                  have HR8 := Lib.hid hr8
                  have HS8 := Lib.hid hsp8
                  clear hr8 hb8 hsp8
                  go_wp2_with fail
                  go_ret
                  rw [← HS8.out]
                  exact ⟨_, rfl, HR8.out, HB8.out⟩
                · rw [if_neg hnb] at hsp8
                  obtain ⟨A8, c8, rfl, hc8⟩ := hr8.slice
                  have hs9 : (dn ++ [row]) ++ spanGo true b (1) (257 - (dn ++ [row]).length) (n + 1) = spanB l := by
                    rw [← hsp8, hl8, show 257 - (dn.length + 1) = 256 - dn.length by omega, List.append_assoc]
                    rfl
                  have HS9 := Lib.hid hs9
                  have HR8 := Lib.hid hr8
                  have hw9 : wrap64 (n + 1) = n + 1 := wrap64_small (by omega)
                  have HW9 := Lib.hid hw9
                  have hne9 : (n == b) = false := beq_eq_false_iff_ne.2 hnb
                  clear hr8 hb8 hsp8 hs9 hw9
                  go_wp2_with fail
                  go_roundw
                  case rel => exact ⟨n + 1, dn ++ [row], by first | rfl | exact congrArg (Value.int .i64) HW9.out, HR8.out, by rw [hl8]; omega, HS9.out, by omega, by omega, HB8.out⟩
                  case measure => simp only [sliceLen, hl8]; omega
            · have hde : dn.length = 257 := by omega
              have hs9 := HGO.out
              rw [hde, Nat.sub_self, spanGo, List.append_nil] at hs9
              have HS9 := Lib.hid hs9
              have hd : decide ((dn.length : Int) ≤ 256) = false := decide_eq_false (by omega)
              clear hs9
              go_wp2_with fail
              go_ret
              rw [← HS9.out]
              exact ⟨_, rfl, HO.out, HBr.out⟩
end Go.Proofs.YtciflnnagkdjiaaDoor.Ext
