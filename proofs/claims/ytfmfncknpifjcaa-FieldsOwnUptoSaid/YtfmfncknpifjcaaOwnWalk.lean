/- Under way: the walk of FieldsOwn. -/
import Derived.Test.YtfmfncknpifjcaaOwn
set_option linter.unusedVariables false
namespace Go.Proofs.Ytfmfncknpifjcaa.Ext
open Go.RowKit Go.Proofs.Ytfmfncknpifjcaa.P Go.Proofs.YtfmfncknpifjcaaW.PrintWords

theorem S_young {α : Type} {d : Kd α} {e B : Nat} {W : World} {v : Value} {xs : List α} (h : Kd.S d e W B (fun _ => True) v xs) {b : Nat} (hb : b < B) (j : Nat) (u : Value) : Kd.S d e (W.setCell ⟨b, j, none⟩ u) B (fun _ => True) v xs :=
  Kd.S_mono (Kd.S_far (p := ⟨b, j, none⟩) (Kd.S_mono (Kd.S_bound h) (ok' := fun k => B ≤ k) (fun k hk => hk.2.1)) (fun k hk => by show k ≠ b; omega) u) (fun _ _ => trivial)

def HDX (lo hi : Nat) (A : Option Addr) (L : List S28) (W : World) : Prop := L = [] ∨ ∃ g, A = some ⟨g, 0, none⟩ ∧ HD lo hi g L W
theorem HDX.get {lo hi : Nat} {A : Option Addr} {L : List S28} {W : World} (h : HDX lo hi A L W) {i : Nat} (hi' : i < L.length) : ∃ g, A = some ⟨g, 0, none⟩ ∧ HD lo hi g L W := by
  rcases h with rfl | h
  · simp at hi'
  · exact h
/-- What both loops keep. -/
def OK (w : World) (lo hi : Nat) (A : Option Addr) (L : List S28) (v : Value) (r : List (List S24)) (W : World) : Prop :=
  Below w.heap.size w W ∧ Kd.S (Kd.slice 24 k24) 22 W hi (fun _ => True) v r ∧ HDX lo hi A L W
theorem OK.set {w : World} {lo hi g b j : Nat} {L : List S28} {v : Value} {r : List (List S24)} {W : World} {cur : Array Value} (h : OK w lo hi (some ⟨g, 0, none⟩) L v r W) (hlo : w.heap.size ≤ lo) (h1 : lo ≤ b) (h2 : b < hi)
    (hb : W.heap[b]? = some (.cells cur 24 (0, 0))) (u : Value) : OK w lo hi (some ⟨g, 0, none⟩) L v r (W.setCell ⟨b, j, none⟩ u) :=
  ⟨h.1.setCell (p := ⟨b, j, none⟩) (Nat.le_trans hlo h1) u, S_young h.2.1 h2 j u, h.2.2.elim .inl fun ⟨g', e, hd⟩ => .inr ⟨g', e, hd.set hb u⟩⟩

set_option maxHeartbeats 4000000 in
set_option maxRecDepth 100000 in
theorem own_calls (k : Nat) (A0 : Option Addr) (c0 : Nat) (l0 : List S35) (a1 : ByteArray) (L : List S28) (r r2 : List (List S24)) (b : Bool) (w : World) (hr0 : Kd.C k35 w A0 l0.length l0) (hc0 : l0.length ≤ c0)
    (ha : cowrielaw08_alive.f = some true) (hof : cowrielaw08_Of.f k l0 = some L) (hf : fields_Fields.f L a1 = some r) (hrf : cowrieref08_Fields.f k l0 a1 = some r2) (hsm : cowrieplain_SameFields.f k r r2 = some b)
    (hL : L.length ≤ 1000000000) (hLs : ∀ p ∈ L, p.f0.length ≤ 1000000000) :
    Calls Try.prog 5 #[.slice A0 l0.length c0, .string a1] w fun e w' => e = .returned (.bool b) ∧ Below w.heap.size w w' := by
  have hu28 := Try.underlying28
  have hu24 := Try.underlying24
  have HR := Lib.hid hr0
  have HSZ := Lib.hid hLs
  have e9 := enters_of Try.func9 (by kernel_rfl) rfl
  have e10 := enters_of Try.func10 (by kernel_rfl) rfl
  have e7 := enters_of Try.func7 (by kernel_rfl) rfl
  have e12 := enters_of Try.func12 (by kernel_rfl) rfl
  have e11 := enters_of Try.func11 (by kernel_rfl) rfl
  clear hr0 hLs
  go_enter Try.func5, Try.ntmps5
  go_wp2_with fail
  refine (cowrielaw08_alive.calls true _ ha).mono ?_
  rintro e w1 ⟨rfl, hb1⟩
  have HB1 := Lib.hid hb1
  clear hb1
  go_wp2_with fail
  refine (cowrielaw08_Of.calls k A0 c0 l0 L _ (Kd.C_below HR.out HB1.out) hc0 hof).mono ?_
  rintro e w2 ⟨v2, rfl, hS2, hb2⟩
  obtain ⟨A2, c2, rfl, hc2, hC2⟩ := Kd.S_reads hS2
  have HD2 := Lib.hid (HD.of hS2)
  have HC2 := Lib.hid hC2
  have HB2 := Lib.hid (HB1.out.trans (hb2.mono HB1.out.size))
  clear hS2 hC2 hb2
  go_wp2_with fail
  refine (fields_Fields.calls A2 c2 L a1 r _ HC2.out hc2 hf).mono ?_
  rintro e w3 ⟨v3, rfl, hS3, hb3⟩
  have HS3 := Lib.hid hS3
  have HB3 := Lib.hid (HB2.out.trans (hb3.mono HB2.out.size))
  have HOK : OK w w1.heap.size w2.heap.size A2 L v3 r w3 := by
    refine ⟨HB3.out, hS3, ?_⟩
    rcases HD2.out with h | ⟨g, c, h1, h2, h3⟩
    · exact .inl h
    · injection h1 with h1 _ _
      exact .inr ⟨g, h1, h3.below hb3⟩
  have HOK3 := Lib.hid HOK
  obtain ⟨A3, c3, rfl⟩ := Kd.S_slice hS3
  have HLO := Lib.hid HB1.out.size
  clear hS3 hb3 HOK
  go_wp2_with fail
  go_loopw [7] (fun i wr => ∃ n, n ≤ L.length ∧ i = .int .i64 (n : Nat) ∧ OK w w1.heap.size w2.heap.size A2 L (.slice A3 r.length c3) r wr) (fun i _ => L.length - (intOf i).toNat)
  case atStart => exact ⟨0, Nat.zero_le _, rfl, HOK3.out⟩
  case round =>
    obtain ⟨n, hn, rfl, hok⟩ := hrel
    by_cases hlt : n < L.length
    · have HOK4 := Lib.hid hok
      clear hok
      go_wp2_with fail
      go_loopw [8] (fun j wr2 => ∃ m, m ≤ (L[n]).f0.length ∧ j = .int .i64 (m : Nat) ∧ OK w w1.heap.size w2.heap.size A2 L (.slice A3 r.length c3) r wr2) (fun j _ => (L[n]).f0.length - (intOf j).toNat)
      case atStart => exact ⟨0, Nat.zero_le _, rfl, HOK4.out⟩
      case round =>
        obtain ⟨m, hm, rfl, hok⟩ := hrel
        obtain ⟨g, rfl, hd⟩ := hok.2.2.get hlt
        obtain ⟨A, c, hcell, hblk⟩ := hd.2 n hlt
        have hlen := HSZ.out _ (List.getElem_mem hlt)
        by_cases hml : m < (L[n]).f0.length
        · obtain ⟨b1, cur, rfl, l1, l2, hbb, hsz⟩ := hblk (by omega)
          have HOK5 := Lib.hid hok
          have HBB := Lib.hid hbb
          obtain ⟨u0, hu0⟩ : ∃ u, cur[m * 2]? = some u := ⟨_, Array.getElem?_eq_getElem (by omega)⟩
          obtain ⟨u1, hu1⟩ : ∃ u, cur[m * 2 + 1]? = some u := ⟨_, Array.getElem?_eq_getElem (by omega)⟩
          have d0 := (blk_get (i := m * 2) hbb).trans hu0
          have d1 := (blk_get (i := m * 2 + 1) hbb).trans hu1
          have f0 := blk_free (i := m * 2) hbb
          have f1 := blk_free (i := m * 2 + 1) hbb
          generalize hLn : (L[n]).f0.length = len at *
          clear hok hd hblk hbb hLn
          go_wp2_with fail
          go_roundw
          case rel => exact ⟨m + 1, by omega, by go_num, (HOK5.out.set HLO.out l1 l2 HBB.out _).set HLO.out l1 l2 (blk_put HBB.out _) _⟩
          case measure => simp [intOf]; omega
        · have HOK5 := Lib.hid hok
          generalize hLn : (L[n]).f0.length = len at *
          clear hok hd hblk hLn
          go_wp2_with fail
          go_roundw
          case rel => exact ⟨n + 1, by omega, by go_num, HOK5.out⟩
          case measure => simp [intOf]; omega
    · have HOK4 := Lib.hid hok
      have HCR := Lib.hid (Kd.C_below HR.out hok.1)
      clear hok
      go_wp2_with fail
      refine (cowrieref08_Fields.calls k A0 c0 l0 a1 r2 _ HCR.out hc0 hrf).mono ?_
      rintro e w5 ⟨v5, rfl, hS5, hb5⟩
      obtain ⟨A5, c5, rfl, hc5, hC5⟩ := Kd.S_reads hS5
      obtain ⟨_, hc3, hC3⟩ := Kd.S_reads' (Kd.S_below HOK4.out.2.1 hb5)
      have HC5 := Lib.hid hC5
      have HC3 := Lib.hid hC3
      have HB5 := Lib.hid (HOK4.out.1.trans (hb5.mono HOK4.out.1.size))
      clear hS5 hC5 hC3 hb5
      go_wp2_with fail
      refine (cowrieplain_SameFields.calls k A3 c3 r A5 c5 r2 b _ HC3.out hc3 HC5.out hc5 hsm).mono ?_
      rintro e w6 ⟨rfl, ⟨nd, rfl⟩⟩
      go_wp2_with fail
      go_ret
      exact ⟨rfl, pw_below_drewN HB5.out _⟩

end Go.Proofs.Ytfmfncknpifjcaa.Ext
