/- Proved: OctetsQuotes' law (as told) answers true for every text of at most 1048576 octets. Plain Lean: no program's step. -/
import Derived.Test.YteobnfcdlcemlaaDoorP49
set_option linter.unusedVariables false
set_option linter.unusedSectionVars false
namespace Go.Proofs.YteobnfcdlcemlaaDoor.PureQ
open Go.RowKit Go.Proofs.YteobnfcdlcemlaaDoor.P Go.Proofs.YteobnfcdlcemlaaDoor.Ext Go.Proofs.YteobnfcdlcemlaaDoorW.PrintWords Go.Proofs.YteobnfcdlcemlaaDoorW.PrintLast Go.Proofs.YteobnfcdlcemlaaDoorW.PrintMore

theorem w64 {x : Int} (h0 : -9223372036854775808 ≤ x) (h1 : x ≤ 9223372036854775807) : wrap64 x = x := by unfold wrap64; omega
def En (g : Nat → Option Bool) : Prop := ∃ k0, ∀ k, k0 ≤ k → g k = some true
theorem En.step {g h : Nat → Option Bool} (e : ∀ k, g (k + 1) = h k) (hh : En h) : En g := by
  obtain ⟨k0, h0⟩ := hh
  refine ⟨k0 + 1, fun k hk => ?_⟩
  obtain ⟨m, rfl⟩ : ∃ m, k = m + 1 := ⟨k - 1, by omega⟩
  rw [e]
  exact h0 m (by omega)
def toI (l : List UInt8) : List Int := l.map fun c => (c.toNat : Int)
theorem back (s : ByteArray) : strOfNums (toI s.data.toList) = s := by
  apply ByteArray.ext
  apply Array.toList_inj.1
  unfold toI
  rw [strOfNums_data, List.map_map]
  conv => rhs; rw [← List.map_id s.data.toList]
  congr 1
  funext c
  simp
theorem bt_drop (q : ByteArray) (p : Nat) (c : UInt8) (u : List UInt8) (h : q.data.toList.drop p = c :: u) : bt q (p : Int) = c.toNat ∧ p < q.size ∧ q.data.toList.drop (p + 1) = u := by
  have hl : q.data.toList.length = q.size := by simp
  have hp : p < q.data.toList.length := by
    rcases Nat.lt_or_ge p q.data.toList.length with h1 | h1
    · exact h1
    · rw [List.drop_of_length_le h1] at h; cases h
  rw [List.drop_eq_getElem_cons hp] at h
  injection h with h1 h2
  refine ⟨?_, by omega, h2⟩
  have hq : p < q.size := by omega
  have : bt q (p : Int) = ((q[p]).toNat : Int) := by unfold bt; rw [dif_pos (by simpa using hq)]; rfl
  rw [this]
  have h3 : q[p] = q.data.toList[p] := by simp; rfl
  rw [h3, h1]

section
variable (x0 q : ByteArray) (h0 : x0.size ≤ 1048576) (hq : q.size ≤ 100000000)
include h0 hq
/-- At the end. -/
theorem at_end (b : List Int) (hb : b = toI x0.data.toList) : En (fun k => cowrielaw01_OctetsQuotes.l0 k x0 q b false (q.size : Int)) := by
  refine ⟨1, fun k hk => ?_⟩
  obtain ⟨m, rfl⟩ : ∃ m, k = m + 1 := ⟨k - 1, by omega⟩
  show cowrielaw01_OctetsQuotes.l0 (m + 1) x0 q b false _ = _
  rw [cowrielaw01_OctetsQuotes.l0, if_neg (by omega), if_neg (by simp), hb, back]
  simp
/-- An octet within quotes. -/
theorem in_step (b : List Int) (p : Nat) (c : UInt8) (u : List UInt8) (h : q.data.toList.drop p = c :: u) (hc : c ≠ 39) (hb : b.length ≤ 100000000) (hn : En (fun k => cowrielaw01_OctetsQuotes.l0 k x0 q (b ++ [(c.toNat : Int)]) true ((p + 1 : Nat) : Int))) :
    En (fun k => cowrielaw01_OctetsQuotes.l0 k x0 q b true (p : Int)) := by
  obtain ⟨e1, e2, e3⟩ := bt_drop q p c u h
  have hne : ¬ bt q (p : Int) = 39 := by
    intro e
    rw [e1] at e
    exact hc (UInt8.toNat_inj.1 (by show _ = 39; omega))
  refine En.step (h := fun k => cowrielaw01_OctetsQuotes.j1 k x0 q b true (p : Int) false) (fun k => by rw [cowrielaw01_OctetsQuotes.l0, if_pos (by omega), if_pos (by omega), if_neg hne, if_pos rfl]) ?_
  refine En.step (fun k => ?_) hn
  rw [cowrielaw01_OctetsQuotes.j1, if_neg (by simp), if_pos rfl, if_pos (by omega), if_pos (by omega), if_pos (by omega), e1, w64 (by omega) (by omega)]
  rfl
/-- A quote. -/
theorem quote_step (b : List Int) (p : Nat) (y : Bool) (u : List UInt8) (h : q.data.toList.drop p = 39 :: u) (hn : En (fun k => cowrielaw01_OctetsQuotes.l0 k x0 q b (!y) ((p + 1 : Nat) : Int))) :
    En (fun k => cowrielaw01_OctetsQuotes.l0 k x0 q b y (p : Int)) := by
  obtain ⟨e1, e2, e3⟩ := bt_drop q p 39 u h
  refine En.step (fun k => ?_) hn
  rw [cowrielaw01_OctetsQuotes.l0, if_pos (by omega), if_pos (by omega), if_pos (by rw [e1]; rfl), w64 (by omega) (by omega)]
  rfl
/-- A backslash ahead of a quote, outside of quotes. -/
theorem slash_step (b : List Int) (p : Nat) (u : List UInt8) (h : q.data.toList.drop p = 92 :: 39 :: u) (hb : b.length ≤ 100000000) (hn : En (fun k => cowrielaw01_OctetsQuotes.l0 k x0 q (b ++ [39]) false ((p + 2 : Nat) : Int))) :
    En (fun k => cowrielaw01_OctetsQuotes.l0 k x0 q b false (p : Int)) := by
  obtain ⟨e1, e2, e3⟩ := bt_drop q p 92 _ h
  obtain ⟨f1, f2, f3⟩ := bt_drop q (p + 1) 39 u e3
  have e92 : bt q (p : Int) = 92 := e1
  have e39 : bt q ((p : Int) + 1) = 39 := f1
  refine En.step (h := fun k => cowrielaw01_OctetsQuotes.j1 k x0 q b false (p : Int) true) (fun k => by rw [cowrielaw01_OctetsQuotes.l0, if_pos (by omega), if_pos (by omega), if_neg (by rw [e92]; decide), if_neg (by simp), e92]; rfl) ?_
  refine En.step (fun k => ?_) hn
  rw [cowrielaw01_OctetsQuotes.j1, if_pos rfl, w64 (x := (p : Int) + 1) (by omega) (by omega), if_neg (by omega), if_pos (by omega), if_pos (by omega), e39, if_pos rfl, if_pos (by omega), w64 (by omega) (by omega)]
  rfl
/-- A plain octet, outside of quotes. -/
theorem plain_step (b : List Int) (p : Nat) (c : UInt8) (u : List UInt8) (h : q.data.toList.drop p = c :: u) (hc : plainP c.toNat = true) (h39 : c ≠ 39) (h92 : c ≠ 92) (hb : b.length ≤ 100000000) (hn : En (fun k => cowrielaw01_OctetsQuotes.l0 k x0 q (b ++ [(c.toNat : Int)]) false ((p + 1 : Nat) : Int))) :
    En (fun k => cowrielaw01_OctetsQuotes.l0 k x0 q b false (p : Int)) := by
  obtain ⟨e1, e2, e3⟩ := bt_drop q p c u h
  have hne : ¬ bt q (p : Int) = 39 := by
    intro e
    rw [e1] at e
    exact h39 (UInt8.toNat_inj.1 (by show _ = 39; omega))
  have hne2 : (bt q (p : Int) == 92) = false := by
    rw [beq_eq_false_iff_ne]
    intro e
    rw [e1] at e
    exact h92 (UInt8.toNat_inj.1 (by show _ = 92; omega))
  have hex : (q.extract p (p + 1)).data.toList = [c] := by
    rw [sub_data, h]
    simp
  have hes : (q.extract p (p + 1)).size = 1 := by rw [ByteArray.size_extract]; omega
  have hpl : octets_Plain.f (q.extract p (p + 1)) = some true := by
    unfold octets_Plain.f everyB
    rw [if_pos (by omega), hes, hex]
    simp [hc]
  refine En.step (h := fun k => cowrielaw01_OctetsQuotes.j1 k x0 q b false (p : Int) false) (fun k => by rw [cowrielaw01_OctetsQuotes.l0, if_pos (by omega), if_pos (by omega), if_neg hne, if_neg (by simp), hne2]) ?_
  refine En.step (fun k => ?_) hn
  have ht : ((p : Int) + 1).toNat = p + 1 := by omega
  rw [cowrielaw01_OctetsQuotes.j1, if_neg (by simp), if_neg (by simp), if_pos (by omega), w64 (x := (p : Int) + 1) (by omega) (by omega), if_pos (by omega), if_pos (by omega), Int.toNat_natCast, ht, hpl, Option.bind_some, if_pos rfl, if_pos (by omega), if_pos (by omega), e1]
  rfl

theorem plain_go : ∀ (u v : List UInt8) (p : Nat), q.data.toList.drop p = u → (∀ c ∈ u, plainP c.toNat = true ∧ c ≠ 39 ∧ c ≠ 92) → toI v ++ toI u = toI x0.data.toList → v.length + u.length ≤ 10000000 → p + u.length = q.size → En (fun k => cowrielaw01_OctetsQuotes.l0 k x0 q (toI v) false (p : Int))
  | [], v, p, _, _, hv, _, hp => by
    obtain rfl : p = q.size := by simpa using hp
    exact at_end x0 q h0 hq _ (by simpa [toI] using hv)
  | c :: u, v, p, hd, hc, hv, hl, hp => by
    obtain ⟨c1, c2, c3⟩ := hc c List.mem_cons_self
    refine plain_step x0 q h0 hq (toI v) p c u hd c1 c2 c3 (by unfold toI; rw [List.length_map]; simp at hl; omega) ?_
    have h1 := plain_go u (v ++ [c]) (p + 1) (bt_drop q p c u hd).2.2 (fun d hd => hc d (List.mem_cons_of_mem _ hd)) (by rw [← hv]; simp [toI]) (by simp at hl ⊢; omega) (by simp at hp; omega)
    have h2 : toI (v ++ [c]) = toI v ++ [(c.toNat : Int)] := by simp [toI]
    rw [h2] at h1
    exact h1
theorem quote_go : ∀ (u v : List UInt8) (p : Nat), q.data.toList.drop p = repL 39 [39, 92, 39, 39] u ++ [39] → toI v ++ toI u = toI x0.data.toList → v.length + u.length ≤ 10000000 → En (fun k => cowrielaw01_OctetsQuotes.l0 k x0 q (toI v) true (p : Int))
  | [], v, p, hd, hv, _ => by
    have h39 : q.data.toList.drop p = 39 :: [] := hd
    obtain ⟨e1, e2, e3⟩ := bt_drop q p 39 [] h39
    have hl : q.data.toList.length = q.size := by simp
    have hend : p + 1 = q.size := by
      have h1 := congrArg List.length h39
      rw [List.length_drop] at h1
      simp at h1
      omega
    refine quote_step x0 q h0 hq (toI v) p true [] h39 ?_
    rw [hend]
    exact at_end x0 q h0 hq _ (by simpa [toI] using hv)
  | c :: u, v, p, hd, hv, hl => by
    have hvl : (toI v).length ≤ 100000000 := by unfold toI; rw [List.length_map]; simp at hl; omega
    have h2 : toI (v ++ [c]) = toI v ++ [(c.toNat : Int)] := by simp [toI]
    by_cases hc : c = 39
    · subst hc
      have hd2 : q.data.toList.drop p = 39 :: 92 :: 39 :: 39 :: (repL 39 [39, 92, 39, 39] u ++ [39]) := by
        rw [hd]
        unfold repL
        rw [List.flatMap_cons, if_pos rfl]
        rfl
      have d1 := (bt_drop q p 39 _ hd2).2.2
      have d2 := (bt_drop q (p + 1) 92 _ d1).2.2
      have d3 := (bt_drop q (p + 1 + 1) 39 _ d2).2.2
      have d4 := (bt_drop q (p + 1 + 1 + 1) 39 _ d3).2.2
      refine quote_step x0 q h0 hq (toI v) p true _ hd2 ?_
      refine slash_step x0 q h0 hq (toI v) (p + 1) _ d1 hvl ?_
      refine quote_step x0 q h0 hq _ (p + 1 + 2) false _ d3 ?_
      have h1 := quote_go u (v ++ [39]) (p + 1 + 1 + 1 + 1) d4 (by rw [← hv]; simp [toI]) (by simp at hl ⊢; omega)
      rw [h2] at h1
      exact h1
    · have hd2 : q.data.toList.drop p = c :: (repL 39 [39, 92, 39, 39] u ++ [39]) := by
        rw [hd]
        unfold repL
        rw [List.flatMap_cons, if_neg hc]
        rfl
      refine in_step x0 q h0 hq (toI v) p c _ hd2 hc hvl ?_
      have h1 := quote_go u (v ++ [c]) (p + 1) (bt_drop q p c _ hd2).2.2 (by rw [← hv]; simp [toI]) (by simp at hl ⊢; omega)
      rw [h2] at h1
      exact h1
end

theorem p39 : plainP 39 = false := by decide +kernel
theorem p92 : plainP 92 = false := by decide +kernel

theorem OctetsQuotesU (a0 : ByteArray) (h0 : a0.size ≤ 1048576) : ∃ k, cowrielaw01_OctetsQuotes.f k a0 = some true := by
  have hl : a0.data.toList.length = a0.size := by simp
  have hcl : a0.data.toList.count 39 ≤ a0.data.toList.length := List.count_le_length
  obtain ⟨e, he⟩ : ∃ e, Q.octets_Check.f a0 = some e := by
    unfold Q.octets_Check.f strings_IndexByte.f
    rw [Option.bind_some]
    split
    · exact ⟨_, rfl⟩
    · split <;> exact ⟨_, rfl⟩
  by_cases hz : e = 0
  · by_cases hp : everyB plainP a0 = true
    · have hQ : octets_Quote.f a0 = some (a0, 0) := by
        unfold octets_Quote.f
        rw [if_pos (by omega), he, Option.bind_some, if_pos hz, if_pos hp]
      have hall : ∀ c ∈ a0.data.toList, plainP c.toNat = true ∧ c ≠ 39 ∧ c ≠ 92 := by
        intro c hc
        unfold everyB at hp
        rw [Bool.and_eq_true] at hp
        have h1 := List.all_eq_true.1 hp.2 c hc
        refine ⟨h1, ?_, ?_⟩
        · rintro rfl
          have h2 : plainP 39 = true := h1
          rw [p39] at h2
          cases h2
        · rintro rfl
          have h2 : plainP 92 = true := h1
          rw [p92] at h2
          cases h2
      obtain ⟨k0, hk0⟩ := plain_go a0 a0 h0 (by omega) a0.data.toList [] 0 (by rw [List.drop_zero]) hall (by simp [toI]) (by simp; omega) (by omega)
      refine ⟨k0, ?_⟩
      unfold cowrielaw01_OctetsQuotes.f
      show ((some true).bind _) = _
      rw [Option.bind_some, if_pos rfl, hQ, Option.bind_some]
      show ((some (0 : Int)).bind _) = _
      rw [Option.bind_some, if_pos rfl]
      exact hk0 k0 (Nat.le_refl _)
    · have hQ : octets_Quote.f a0 = some (⟨(Ext.quoted a0).toArray⟩, 0) := by
        unfold octets_Quote.f
        rw [if_pos (by omega), he, Option.bind_some, if_pos hz, if_neg hp]
      have hqs : (⟨(Ext.quoted a0).toArray⟩ : ByteArray).size ≤ 100000000 := by
        show (Ext.quoted a0).toArray.size ≤ _
        rw [List.size_toArray]
        unfold Ext.quoted
        rw [List.length_cons, List.length_append, repL_len, List.length_singleton]
        show a0.data.toList.length - _ + _ * 4 + 1 + 1 ≤ _
        omega
      have hd0 : (⟨(Ext.quoted a0).toArray⟩ : ByteArray).data.toList.drop 0 = 39 :: (repL 39 [39, 92, 39, 39] a0.data.toList ++ [39]) := rfl
      have hen := quote_step a0 ⟨(Ext.quoted a0).toArray⟩ h0 hqs [] 0 false _ hd0
        (quote_go a0 ⟨(Ext.quoted a0).toArray⟩ h0 hqs a0.data.toList [] (0 + 1) (bt_drop _ 0 39 _ hd0).2.2 (by simp [toI]) (by simp; omega))
      obtain ⟨k0, hk0⟩ := hen
      refine ⟨k0, ?_⟩
      unfold cowrielaw01_OctetsQuotes.f
      show ((some true).bind _) = _
      rw [Option.bind_some, if_pos rfl, hQ, Option.bind_some]
      show ((some (0 : Int)).bind _) = _
      rw [Option.bind_some, if_pos rfl]
      exact hk0 k0 (Nat.le_refl _)
  · have hQ : octets_Quote.f a0 = some (⟨#[]⟩, e) := by
      unfold octets_Quote.f
      rw [if_pos (by omega), he, Option.bind_some, if_neg hz]
    refine ⟨0, ?_⟩
    unfold cowrielaw01_OctetsQuotes.f
    show ((some true).bind _) = _
    rw [Option.bind_some, if_pos rfl, hQ, Option.bind_some]
    show ((some e).bind _) = _
    rw [Option.bind_some, if_neg hz, Lib.toList_data]
    rfl

end Go.Proofs.YteobnfcdlcemlaaDoor.PureQ
