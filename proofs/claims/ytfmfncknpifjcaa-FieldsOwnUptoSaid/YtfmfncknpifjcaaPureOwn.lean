/- Proved: the law FieldsOwn over rows of pieces and texts alone, for rows whose bulk is at most 1048576. -/
import Derived.Test.YtfmfncknpifjcaaP30
import Derived.Test.YtfmfncknpifjcaaPureRef
import Derived.Test.YtfmfncknpifjcaaOpens
namespace Go.Proofs.Ytfmfncknpifjcaa.PureO
open Go.RowKit Go.Proofs.Ytfmfncknpifjcaa.Ext Go.Proofs.Ytfmfncknpifjcaa.P Go.Proofs.YtfmfncknpifjcaaW.PrintWords Go.Proofs.Ytfmfncknpifjcaa.PureF

theorem rows_self (l : List (List S24)) (hl : l.length ≤ 1000000000) (hs : ∀ x ∈ l, x.length ≤ 2000000) : ∀ (d k i : Nat), i + d = l.length → d + 2000001 < k → cowrieplain_SameFields.l0 k l l (i : Int) = some true := by
  intro d
  induction d with
  | zero =>
    intro k i hd hk
    obtain ⟨k, rfl⟩ : ∃ m, k = m + 1 := ⟨k - 1, by omega⟩
    rw [cowrieplain_SameFields.l0, if_neg (by omega)]
  | succ d ih =>
    intro k i hd hk
    obtain ⟨k, rfl⟩ : ∃ m, k = m + 1 := ⟨k - 1, by omega⟩
    have hi : i < l.length := by omega
    have hx := hs _ (List.getElem_mem hi)
    rw [cowrieplain_SameFields.l0, if_pos (by omega), if_pos (by omega), if_pos (by omega), rd_atL l i hi]
    have h1 : cowrieplain_SameChars.f k l[i] l[i] = some true := by
      unfold cowrieplain_SameChars.f
      rw [if_pos rfl]
      exact same_self l[i] (by omega) (l[i]).length k 0 (by omega) (by omega) (by omega)
    rw [h1]
    simp only [Option.bind_some, if_true]
    rw [wrap_in (i : Int) l.length (by omega) (by omega) (by omega), show ((i : Int) + 1) = ((i + 1 : Nat) : Int) from rfl]
    exact ih k (i + 1) (by omega) (by omega)

theorem mem_flat {α : Type} : ∀ (l : List (List α)) (x : List α), x ∈ l → x.length ≤ l.flatten.length
  | y :: l, x, h => by
    rw [List.flatten_cons, List.length_append]
    rcases List.mem_cons.1 h with rfl | h
    · omega
    · have := mem_flat l x h
      omega
theorem tot35_mem : ∀ (l : List S35) (p : S35), p ∈ l → p.f0.length ≤ tot35 l
  | q :: l, p, h => by
    have e : tot35 (q :: l) = q.f0.length + 1 + tot35 l := rfl
    rcases List.mem_cons.1 h with rfl | h
    · omega
    · have := tot35_mem l p h
      omega

theorem FieldsOwn (l0 : List S35) (a1 : ByteArray) (hs : a1.size ≤ 1048576) (ht : tot35 l0 ≤ 1048576) (hw : ∀ p ∈ l0, ∀ c ∈ p.f0, 0 ≤ c.f0 ∧ c.f0 ≤ 255) : ∃ k, cowrielaw08_FieldsOwn.f k l0 a1 = some true := by
  have hlen := tot35_len l0
  have hof := run_of l0 ht l0.length 0 [] (by omega) (by simp only [List.length_nil]; omega)
  rw [show ((0 : Nat) : Int) = 0 from rfl, List.drop_zero, List.nil_append] at hof
  obtain ⟨r, hr⟩ : ∃ r, fields_Fields.f (l0.map as28) a1 = some r := by
    unfold fields_Fields.f
    rw [if_pos (by rw [tot_as]; omega)]
    exact ⟨_, rfl⟩
  have hrf := fields_flat _ _ _ hr
  have hkl := kept_len a1 l0
  have hrl : r.length ≤ 1000000000 := by
    unfold fields_Fields.f at hr
    split at hr
    · next hh =>
      have hp := (pAll_out a1 (l0.map as28) ⟨[], [], false, false⟩).1
      simp only [Option.some.injEq] at hr
      subst hr
      simp only [List.length_nil, Nat.zero_add] at hp
      split
      · simp only [pEnd, List.length_append, List.length_singleton]
        omega
      · omega
    · cases hr
  obtain ⟨k, hk⟩ := PureR.ref_fields l0 a1 hs ht hw
  obtain ⟨K, hK⟩ : ∃ K : Nat, K = 2000002 := ⟨_, rfl⟩
  have h9 := rows_self r hrl (fun x hx => by have := mem_flat r x hx; rw [hrf] at this; omega) r.length (k + (l0.length + 1 + (r.length + K))) 0 (by omega) (by omega)
  rw [show ((0 : Nat) : Int) = 0 from rfl] at h9
  clear hK
  refine ⟨k + (l0.length + 1 + (r.length + K)), ?_⟩
  unfold cowrielaw08_FieldsOwn.f
  rw [if_pos alive_ok]
  have h1 : cowrielaw08_Of.f (k + (l0.length + 1 + (r.length + K))) l0 = some (l0.map as28) := by
    rw [show k + (l0.length + 1 + (r.length + K)) = (l0.length + 1) + (k + (r.length + K)) by omega]
    exact more_rounds (g := fun k => cowrielaw08_Of.f k l0) (fun k => cowrielaw08_Of.mono l0 k) (l0.length + 1) _ _ hof
  rw [h1]
  simp only [Option.bind_some]
  rw [if_pos ⟨by rw [List.length_map]; omega, List.all_eq_true.2 fun p hp => by
    obtain ⟨q, hq, rfl⟩ := List.mem_map.1 hp
    have := tot35_mem l0 q hq
    exact decide_eq_true (show q.f0.length ≤ 1000000000 by omega)⟩, hr]
  simp only [Option.bind_some]
  rw [hk, hr]
  simp only [Option.bind_some]
  unfold cowrieplain_SameFields.f
  rw [if_pos rfl]
  exact h9

theorem FieldsOwnU (l0 : List S35) (a1 : ByteArray) (hw : ∀ y0 ∈ l0, wfS35 y0) (hs : a1.size ≤ 1048576) (ht : (l0.map fun y0 => szS35 y0).sum ≤ 1048576) : ∃ k, cowrielaw08_FieldsOwn.f k l0 a1 = some true :=
  FieldsOwn l0 a1 hs (Nat.le_trans (tot35_bulk l0) ht) (wf_chars l0 hw)

end Go.Proofs.Ytfmfncknpifjcaa.PureO
