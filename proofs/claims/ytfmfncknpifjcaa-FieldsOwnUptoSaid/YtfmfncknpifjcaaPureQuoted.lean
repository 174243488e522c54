/- Proved: the law FieldsQuoted over texts alone: a quoted piece is one field, whatever it has, whatever cuts; for texts that are together of bulk at most 1048576. -/
import Derived.Test.YtfmfncknpifjcaaP7
namespace Go.Proofs.Ytfmfncknpifjcaa.PureF
open Go.RowKit Go.Proofs.Ytfmfncknpifjcaa.Ext Go.Proofs.Ytfmfncknpifjcaa.P Go.Proofs.YtfmfncknpifjcaaW.PrintWords

theorem wrap_in (i : Int) (n : Nat) (h0 : 0 ≤ i) (h : i < n) (hn : n ≤ 9223372036854775807) : wrap64 (i + 1) = i + 1 := by
  unfold wrap64
  omega

/-- SameChars of a list and itself. -/
theorem same_self (l : List S24) (hl : l.length ≤ 1000000000) : ∀ (d k : Nat) (i : Int), 0 ≤ i → i + d = l.length → d < k → cowrieplain_SameChars.l0 k l l i = some true := by
  intro d
  induction d with
  | zero =>
    intro k i h0 hd hk
    obtain ⟨k, rfl⟩ : ∃ m, k = m + 1 := ⟨k - 1, by omega⟩
    rw [cowrieplain_SameChars.l0, if_neg (by omega)]
  | succ d ih =>
    intro k i h0 hd hk
    obtain ⟨k, rfl⟩ : ∃ m, k = m + 1 := ⟨k - 1, by omega⟩
    rw [cowrieplain_SameChars.l0, if_pos (by omega), if_pos h0, if_pos (by omega), if_neg (by simp), wrap_in i l.length h0 (by omega) (by omega)]
    exact ih k (i + 1) (by omega) (by omega) (by omega)

theorem alive_ok : cowrielaw08_alive.f = some true := by
  unfold cowrielaw08_alive.f
  have h : fields_Fields.f ([(⟨[⟨97, false⟩, ⟨32, false⟩, ⟨98, false⟩], true, false, false⟩ : S28)]) ⟨#[32]⟩ = some [[⟨97, false⟩], [⟨98, false⟩]] := rfl
  rw [h]
  rfl

def quoted (s : ByteArray) (k : Nat) : List S24 := (s.data.toList.take k).map fun b => ⟨(b.toNat : Int), true⟩

theorem quoted_fold (ifs : ByteArray) : ∀ (l : List S24) (s : PS), (∀ x ∈ l, x.f1 = true) → l.foldl (pChar ifs true) s = if l = [] then s else ⟨s.out, s.now ++ l, true, false⟩
  | [], s, _ => rfl
  | c :: l, s, h => by
    have hc : c.f1 = true := h c List.mem_cons_self
    have e : pChar ifs true s c = pBegin ⟨s.out, s.now ++ [c], s.op, s.wh⟩ := if_neg (by simp [hc])
    rw [List.foldl_cons, e, quoted_fold ifs l _ fun x hx => h x (List.mem_cons_of_mem _ hx)]
    cases l with
    | nil => rfl
    | cons d l => simp [pBegin]

theorem fields_quoted (ifs : ByteArray) (l : List S24) (h : ∀ x ∈ l, x.f1 = true) (hl : l.length ≤ 100000000) : fields_Fields.f [(⟨l, true, true, false⟩ : S28)] ifs = some [l] := by
  unfold fields_Fields.f
  have ht : tot [(⟨l, true, true, false⟩ : S28)] = l.length + 1 := rfl
  rw [if_pos (by omega)]
  simp only [List.foldl_cons, List.foldl_nil, pPiece, if_true]
  rw [quoted_fold ifs l _ h]
  cases l with
  | nil => rfl
  | cons c l => rfl

theorem run_l0 (s ifs : ByteArray) (hs : s.size ≤ 1048576) : ∀ (d k j : Nat), j + d = s.size → d + s.size + 1 < k → cowrielaw08_FieldsQuoted.l0 k s ifs (quoted s j) (j : Int) = some true := by
  intro d
  induction d with
  | zero =>
    intro k j hj hk
    obtain ⟨k, rfl⟩ : ∃ m, k = m + 1 := ⟨k - 1, by omega⟩
    have hq : ∀ x ∈ quoted s j, x.f1 = true := by
      intro x hx
      obtain ⟨b, _, rfl⟩ := List.mem_map.1 hx
      rfl
    have hlen : (quoted s j).length ≤ s.size := by
      unfold quoted
      rw [List.length_map, List.length_take]
      omega
    rw [cowrielaw08_FieldsQuoted.l0, if_neg (by omega), fields_quoted ifs _ hq (by omega)]
    simp only [Option.bind_some]
    rw [if_pos (by rfl), if_pos (by show (0 : Int) < 1; omega)]
    have e : rd_L3 [quoted s j] 0 = quoted s j := rfl
    rw [e]
    unfold cowrieplain_SameChars.f
    rw [if_pos rfl, same_self (quoted s j) (by omega) (quoted s j).length k 0 (by omega) (by omega) (by omega)]
    simp only [Option.bind_some, if_true]
    rw [alive_ok]
    rfl
  | succ d ih =>
    intro k j hj hk
    obtain ⟨k, rfl⟩ : ∃ m, k = m + 1 := ⟨k - 1, by omega⟩
    have hlen : (quoted s j).length ≤ s.size := by
      unfold quoted
      rw [List.length_map, List.length_take]
      omega
    have hjl : j < s.data.toList.length := by simp; omega
    have e : quoted s j ++ [(⟨bt s (j : Int), true⟩ : S24)] = quoted s (j + 1) := by
      unfold quoted
      rw [List.take_succ_eq_append_getElem hjl, List.map_append]
      congr 1
      have : bt s (j : Int) = ((s.data.toList[j]).toNat : Int) := by
        unfold bt
        rw [Int.toNat_natCast, dif_pos (by omega)]
        rfl
      rw [this]
      rfl
    rw [cowrielaw08_FieldsQuoted.l0, if_pos (by omega), if_pos (by omega), if_pos (by omega), e, wrap_in (j : Int) s.size (by omega) (by omega) (by omega)]
    have := ih k (j + 1) (by omega) (by omega)
    rw [show ((j + 1 : Nat) : Int) = (j : Int) + 1 from rfl] at this
    exact this

theorem FieldsQuoted (a0 a1 : ByteArray) (h : a0.size ≤ 1048576) : ∃ k, cowrielaw08_FieldsQuoted.f k a0 a1 = some true := by
  refine ⟨2 * a0.size + 2, ?_⟩
  unfold cowrielaw08_FieldsQuoted.f
  exact run_l0 a0 a1 h a0.size (2 * a0.size + 2) 0 (by omega) (by omega)

end Go.Proofs.Ytfmfncknpifjcaa.PureF
