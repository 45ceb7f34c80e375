/- The guard of the statements about layer 1, the document's example, and which lists are alphabets. -/
import Derived.Test.YtlncfkgodioocaaX24
import Derived.Test.YtlncfkgodioocaaQ2a
import Derived.Test.YtlncfkgodioocaaQ0a
import Derived.Test.YtlncfkgodioocaaQ1a
import Derived.Test.YtlncfkgodioocaaQ0b
import Derived.Test.YtlncfkgodioocaaQ0b
namespace Go.Proofs.Ytlncfkgodioocaa.P
open Go.RowKit Go.Proofs.YtlncfkgodioocaaW.PrintWords

theorem known_true : ablautlaw01_known.f = some true := by
  simp [ablautlaw01_known.f, syms_Text.f, vWord, isLong, isSym, okB, written, wr1, Lib.toList_data, mw_size_mk]

/-- A list none of whose texts is very long. -/
def okRow (x : List ByteArray) : Prop := x.length ≤ 4000 ∧ ∀ s ∈ x, s.size ≤ 4000

theorem rd_L1_nat (l : List (List ByteArray)) {j : Nat} (h : j < l.length) : rd_L1 l (j : Int) = l[j] := by
  simp [rd_L1, List.getD_eq_getElem?_getD, List.getElem?_eq_getElem h]

theorem over_l1 (l : List (List ByteArray)) (i : Nat) (hi : i < l.length) (hlen : l.length < 9223372036854775807) (hrow : l[i].length ≤ 4000)
    (ih : ∀ n : Int, ∃ b, Ev (fun k => ablautlaw01_over.l0 k l n ((i + 1 : Nat) : Int)) b ∧ (b = false → ∀ x ∈ l.drop (i + 1), okRow x)) :
    ∀ (d m : Nat) (n : Int), l[i].length = m + d → ∃ b, Ev (fun k => ablautlaw01_over.l1 k l n (i : Int) (m : Int)) b ∧ (b = false → (∀ s ∈ l[i].drop m, s.size ≤ 4000) ∧ ∀ x ∈ l.drop (i + 1), okRow x) := by
  intro d
  induction d with
  | zero =>
    intro m n hm
    obtain ⟨b, hb, hB⟩ := ih n
    refine ⟨b, Ev.step (fun k => ablautlaw01_over.l1.eq_2 _ _ _ _ _) ?_, fun h => ⟨?_, hB h⟩⟩
    · rw [rd_L1_nat l hi, wrap_succ (j := i) (by omega)]
      simp only [show (0 : Int) ≤ (i : Int) from by omega, show (i : Int) < (l.length : Int) from by omega, show ¬ ((m : Int) < (l[i].length : Int)) from by omega, if_true, if_false]
      exact hb
    · rw [List.drop_eq_nil_of_le (by omega)]; simp
  | succ d ihd =>
    intro m n hm
    have hm' : m < l[i].length := by omega
    by_cases h4 : l[i][m].size > 4000
    · refine ⟨true, Ev.step (fun k => ablautlaw01_over.l1.eq_2 _ _ _ _ _) ?_, by simp⟩
      rw [rd_L1_nat l hi, rdOf_nat _ _ hm']
      simp only [show (0 : Int) ≤ (i : Int) from by omega, show (i : Int) < (l.length : Int) from by omega, show ((m : Int) < (l[i].length : Int)) from by omega, show (0 : Int) ≤ (m : Int) from by omega, show (l[i][m].size : Int) > 4000 from by omega, if_true]
      exact Ev.now _
    · obtain ⟨b, hb, hB⟩ := ihd (m + 1) (wrap64 (n + wrap64 (1 + (l[i][m].size : Int)))) (by omega)
      refine ⟨b, Ev.step (fun k => ablautlaw01_over.l1.eq_2 _ _ _ _ _) ?_, fun h => ⟨?_, (hB h).2⟩⟩
      · rw [rd_L1_nat l hi, rdOf_nat _ _ hm', wrap_succ (j := m) (by omega)]
        simp only [show (0 : Int) ≤ (i : Int) from by omega, show (i : Int) < (l.length : Int) from by omega, show ((m : Int) < (l[i].length : Int)) from by omega, show (0 : Int) ≤ (m : Int) from by omega, show ¬ ((l[i][m].size : Int) > 4000) from by omega, if_true, if_false]
        exact hb
      · rw [List.drop_eq_getElem_cons hm']
        intro s hs
        rcases List.mem_cons.1 hs with rfl | hs
        · omega
        · exact (hB h).1 s hs

theorem over_l0 (l : List (List ByteArray)) (hlen : l.length < 9223372036854775807) :
    ∀ (d i : Nat) (n : Int), l.length = i + d → ∃ b, Ev (fun k => ablautlaw01_over.l0 k l n (i : Int)) b ∧ (b = false → ∀ x ∈ l.drop i, okRow x) := by
  intro d
  induction d with
  | zero =>
    intro i n hi
    refine ⟨decide (n > 16000), Ev.step (fun k => ablautlaw01_over.l0.eq_2 _ _ _ _) ?_, fun _ => by rw [List.drop_eq_nil_of_le (by omega)]; simp⟩
    simp only [show ¬ ((i : Int) < (l.length : Int)) from by omega, if_false]
    exact Ev.now _
  | succ d ihd =>
    intro i n hi
    have hi' : i < l.length := by omega
    by_cases h4 : l[i].length > 4000
    · refine ⟨true, Ev.step (fun k => ablautlaw01_over.l0.eq_2 _ _ _ _) ?_, by simp⟩
      rw [rd_L1_nat l hi']
      simp only [show (0 : Int) ≤ (i : Int) from by omega, show (i : Int) < (l.length : Int) from by omega, show (l[i].length : Int) > 4000 from by omega, if_true]
      exact Ev.now _
    · obtain ⟨b, hb, hB⟩ := over_l1 l i hi' hlen (by omega) (fun n => ihd (i + 1) n (by omega)) l[i].length 0 n (by omega)
      refine ⟨b, Ev.step (fun k => ablautlaw01_over.l0.eq_2 _ _ _ _) ?_, fun h => ?_⟩
      · rw [rd_L1_nat l hi']
        simp only [show (0 : Int) ≤ (i : Int) from by omega, show (i : Int) < (l.length : Int) from by omega, show ¬ ((l[i].length : Int) > 4000) from by omega, if_true, if_false]
        exact hb
      · rw [List.drop_eq_getElem_cons hi']
        intro x hx
        rcases List.mem_cons.1 hx with rfl | hx
        · exact ⟨by omega, by simpa using (hB h).1⟩
        · exact (hB h).2 x hx

theorem over_ev (l : List (List ByteArray)) (hlen : l.length < 9223372036854775807) : ∃ b, Ev (fun k => ablautlaw01_over.f k l) b ∧ (b = false → ∀ x ∈ l, okRow x) := by
  obtain ⟨b, hb, hB⟩ := over_l0 l hlen l.length 0 0 (by omega)
  exact ⟨b, by simpa [ablautlaw01_over.f] using hb, by simpa using hB⟩

/-! ### the reference's loops -/
theorem anyLong_l (l : List ByteArray) (hlen : l.length ≤ 9223372036854775807) : ∀ (d j : Nat), l.length = j + d → Ev (fun k => ablautref01_anyLong.l0 k l (j : Int)) ((l.drop j).any isLong) := by
  intro d
  induction d with
  | zero =>
    intro j hj
    refine Ev.step (fun k => ablautref01_anyLong.l0.eq_2 _ _ _) ?_
    simp only [if_neg (show ¬ ((j : Int) < (l.length : Int)) by omega)]
    rw [List.drop_eq_nil_of_le (by omega)]
    exact Ev.now _
  | succ d ih =>
    intro j hj
    have hj' : j < l.length := by omega
    refine Ev.step (fun k => ablautref01_anyLong.l0.eq_2 _ _ _) ?_
    rw [rdOf_nat _ _ hj', wrap_succ (by omega), List.drop_eq_getElem_cons hj', List.any_cons]
    simp only [show ((j : Int) < (l.length : Int)) from by omega, show (0 : Int) ≤ (j : Int) from by omega, if_true]
    by_cases h : (l[j].size : Int) > 16
    · simp only [h, if_true, isLong, decide_true, Bool.true_or]
      exact Ev.now _
    · simp only [h, if_false, isLong, decide_false, Bool.false_or]
      exact ih (j + 1) (by omega)
theorem anyLong_ev (l : List ByteArray) (hlen : l.length ≤ 9223372036854775807) : Ev (fun k => ablautref01_anyLong.f k l) (l.any isLong) := by
  simpa [ablautref01_anyLong.f] using anyLong_l l hlen l.length 0 (by omega)

theorem IsSymbol_l (s : ByteArray) (hs : s.size ≤ 9223372036854775807) : ∀ (d j : Nat), s.toList.length = j + d →
    Ev (fun k => ablautref01_IsSymbol.l0 k s (j : Int)) ((s.toList.drop j).all okB && (!s.toList.isEmpty && !isLong s)) := by
  intro d
  have hl := sz_toList s
  induction d with
  | zero =>
    intro j hj
    refine Ev.step (fun k => ablautref01_IsSymbol.l0.eq_2 _ _ _) ?_
    simp only [if_neg (show ¬ ((j : Int) < (s.size : Int)) by omega)]
    rw [List.drop_eq_nil_of_le (by omega)]
    by_cases h1 : (s.size : Int) ≥ 1
    · simp only [h1, if_true]
      refine ev_cast (Ev.now _) ?_
      cases hh : s.toList with
      | nil => rw [hh] at hl; simp at hl; omega
      | cons =>
        simp only [List.all_nil, List.isEmpty_cons, Bool.not_false, Bool.true_and, isLong]
        by_cases h16 : (s.size : Int) ≤ 16
        · simp [h16]
        · simp [h16, show (16 : Int) < s.size from by omega]
    · simp only [h1, if_false]
      refine ev_cast (Ev.now _) ?_
      cases hh : s.toList with
      | nil => rfl
      | cons => rw [hh] at hl; simp at hl; omega
  | succ d ih =>
    intro j hj
    have hj' : j < s.toList.length := by omega
    refine Ev.step (fun k => ablautref01_IsSymbol.l0.eq_2 _ _ _) ?_
    rw [List.drop_eq_getElem_cons hj', List.all_cons, bt_nat s hj', wrap_succ (by omega)]
    have ih' := ih (j + 1) (by omega)
    simp only [okB]
    generalize (s.toList[j].toNat : Int) = b
    simp only [show ((j : Int) < (s.size : Int)) from by omega, show (0 : Int) ≤ j from by omega, if_true]
    by_cases h1 : b < 33
    · simp [h1, show ¬ 33 ≤ b by omega]; exact Ev.now _
    by_cases h2 : b > 126
    · simp [h1, h2, show ¬ b ≤ 126 by omega]; exact Ev.now _
    by_cases h3 : b = 60
    · simp [h3]; exact Ev.now _
    by_cases h4 : b = 62
    · simp [h4]; exact Ev.now _
    · simp only [h1, h2, h3, h4, if_false]
      simp [show 33 ≤ b by omega, show b ≤ 126 by omega, h3, h4]
      simpa using ih'
theorem IsSymbol_any (s : ByteArray) (hs : s.size ≤ 9223372036854775807) : Ev (fun k => ablautref01_IsSymbol.f k s) (isSym s && !isLong s) := by
  simpa [isSym, ablautref01_IsSymbol.f, Bool.and_assoc] using IsSymbol_l s hs s.toList.length 0 (by omega)
theorem IsSymbol_ev (s : ByteArray) (hs : s.size ≤ 16) : Ev (fun k => ablautref01_IsSymbol.f k s) (isSym s) := by
  refine ev_cast (IsSymbol_any s (by omega)) ?_
  simp [isLong]; omega

theorem allSymbols_l (l : List ByteArray) (hlen : l.length ≤ 9223372036854775807) (hs : ∀ s ∈ l, s.size ≤ 16) : ∀ (d j : Nat), l.length = j + d → Ev (fun k => ablautref01_allSymbols.l0 k l (j : Int)) ((l.drop j).all isSym) := by
  intro d
  induction d with
  | zero =>
    intro j hj
    refine Ev.step (fun k => ablautref01_allSymbols.l0.eq_2 _ _ _) ?_
    simp only [if_neg (show ¬ ((j : Int) < (l.length : Int)) by omega)]
    rw [List.drop_eq_nil_of_le (by omega)]
    exact Ev.now _
  | succ d ih =>
    intro j hj
    have hj' : j < l.length := by omega
    refine Ev.step (fun k => ablautref01_allSymbols.l0.eq_2 _ _ _) ?_
    rw [rdOf_nat _ _ hj', wrap_succ (by omega), List.drop_eq_getElem_cons hj', List.all_cons]
    simp only [show ((j : Int) < (l.length : Int)) from by omega, show (0 : Int) ≤ (j : Int) from by omega, if_true]
    refine Ev.bind (IsSymbol_ev l[j] (hs _ (List.getElem_mem hj'))) ?_
    cases isSym l[j] with
    | true => simpa using ih (j + 1) (by omega)
    | false => simpa using Ev.now _
theorem allSymbols_ev (l : List ByteArray) (hlen : l.length ≤ 9223372036854775807) (hs : ∀ s ∈ l, s.size ≤ 16) : Ev (fun k => ablautref01_allSymbols.f k l) (l.all isSym) := by
  simpa [ablautref01_allSymbols.f] using allSymbols_l l hlen hs l.length 0 (by omega)

theorem isSet_drop (l : List ByteArray) {j : Nat} (h : j + 1 < l.length) : isSet (l.drop j) = (lt l[j] l[j + 1] && isSet (l.drop (j + 1))) := by
  rw [List.drop_eq_getElem_cons (show j < l.length by omega), List.drop_eq_getElem_cons h, isSet]
theorem isSet_last (l : List ByteArray) {j : Nat} (h : l.length ≤ j + 1) : isSet (l.drop j) = true := by
  rcases Nat.lt_or_ge j l.length with h2 | h2
  · rw [List.drop_eq_getElem_cons h2, List.drop_eq_nil_of_le h]; rfl
  · rw [List.drop_eq_nil_of_le h2]; rfl

theorem IsSet_l (l : List ByteArray) (hlen : l.length ≤ 9223372036854775807) : ∀ (d j : Nat), 1 ≤ j → l.length ≤ j + d → Ev (fun k => ablautref01_IsSet.l0 k l (j : Int)) (isSet (l.drop (j - 1))) := by
  intro d
  induction d with
  | zero =>
    intro j h1 hj
    refine Ev.step (fun k => ablautref01_IsSet.l0.eq_2 _ _ _) ?_
    simp only [if_neg (show ¬ ((j : Int) < (l.length : Int)) by omega)]
    exact ev_cast (Ev.now _) (isSet_last l (by omega)).symm
  | succ d ih =>
    intro j h1 hj
    refine Ev.step (fun k => ablautref01_IsSet.l0.eq_2 _ _ _) ?_
    rcases Nat.lt_or_ge j l.length with hj' | hj'
    · rw [wrap_pred h1 (by omega), wrap_succ (by omega), rdOf_nat _ _ hj', rdOf_nat _ _ (show j - 1 < l.length by omega)]
      simp only [show ((j : Int) < (l.length : Int)) from by omega, show (0 : Int) ≤ (j : Int) from by omega, show (0 : Int) ≤ ((j - 1 : Nat) : Int) from by omega, show (((j - 1 : Nat) : Int) < (l.length : Int)) from by omega, if_true]
      have e := isSet_drop l (show j - 1 + 1 < l.length by omega)
      simp only [show j - 1 + 1 = j by omega] at e
      rw [e]
      have ih' := ih (j + 1) (by omega) (by omega)
      simp only [Nat.add_sub_cancel] at ih'
      show Ev (fun k => if lt l[j - 1] l[j] = true then ablautref01_IsSet.l0 k l ((j + 1 : Nat) : Int) else some false) _
      cases lt l[j - 1] l[j] with
      | true => simpa using ih'
      | false => simpa using Ev.now _
    · simp only [if_neg (show ¬ ((j : Int) < (l.length : Int)) by omega)]
      exact ev_cast (Ev.now _) (isSet_last l (by omega)).symm
theorem IsSet_ev (l : List ByteArray) (hlen : l.length ≤ 9223372036854775807) : Ev (fun k => ablautref01_IsSet.f k l) (isSet l) := by
  simpa [ablautref01_IsSet.f] using IsSet_l l hlen l.length 1 (by omega) (by omega)

theorem short_of (l : List ByteArray) (h : l.any isLong = false) : ∀ s ∈ l, s.size ≤ 16 := by
  intro s hs
  have := List.any_eq_false.1 h s hs
  simp [isLong] at this
  omega

theorem ref_Validate_ev (l : List ByteArray) (hlen : l.length ≤ 9223372036854775807) : Ev (fun k => ablautref01_Validate.f k l) (vSigma l) := by
  unfold ablautref01_Validate.f vSigma
  by_cases h40 : 40 < l.length
  · simp only [show (l.length : Int) > 40 from by omega, if_true, h40]
    exact Ev.step (fun k => ablautref01_Validate.j0.eq_2 _ _ _) (by simpa using Ev.now _)
  · simp only [show ¬ ((l.length : Int) > 40) from by omega, if_false, h40]
    refine Ev.bind (anyLong_ev l hlen) ?_
    refine Ev.step (fun k => ablautref01_Validate.j0.eq_2 _ _ _) ?_
    cases hL : l.any isLong with
    | true => simpa using Ev.now _
    | false =>
      simp only [Bool.false_eq_true, if_false]
      refine Ev.bind (allSymbols_ev l hlen (short_of l hL)) ?_
      cases l.all isSym with
      | false => simpa using Ev.now _
      | true =>
        simp only [if_true]
        refine Ev.bind (IsSet_ev l hlen) ?_
        cases isSet l <;> simpa using Ev.now _

theorem Validate_l (l : List ByteArray) (hlen : l.length ≤ 9223372036854775807) (hs : ∀ s ∈ l, s.size ≤ 16) : ∀ (d j : Nat), l.length = j + d →
    Ev (fun k => syms_Validate.l0 k l l (l.length : Int) (j : Int)) (if (l.drop j).all isSym && isSet (l.drop (j - 1)) then 0 else 1) := by
  intro d
  induction d with
  | zero =>
    intro j hj
    refine Ev.step (fun k => syms_Validate.l0.eq_2 _ _ _ _ _) ?_
    simp only [if_neg (show ¬ ((j : Int) < (l.length : Int)) by omega)]
    refine ev_cast (Ev.now _) ?_
    rw [List.drop_eq_nil_of_le (by omega), isSet_last l (by omega)]
    rfl
  | succ d ih =>
    intro j hj
    have hj' : j < l.length := by omega
    have ih' := ih (j + 1) (by omega)
    rw [Nat.add_sub_cancel] at ih'
    refine Ev.step (fun k => syms_Validate.l0.eq_2 _ _ _ _ _) ?_
    rw [rdOf_nat _ _ hj', wrap_succ (by omega), List.drop_eq_getElem_cons hj', List.all_cons]
    simp only [show ((j : Int) < (l.length : Int)) from by omega, show (0 : Int) ≤ (j : Int) from by omega, if_true]
    refine Ev.bind (isSymbol_ev l[j] (by have := hs _ (List.getElem_mem hj'); omega)) ?_
    cases isSym l[j] with
    | false => simpa using Ev.now _
    | true =>
      simp only [if_true, Bool.true_and]
      rcases Nat.eq_zero_or_pos j with rfl | h1
      · simp only [show ¬ (((0 : Nat) : Int) > 0) from by omega, if_false]
        exact ih'
      · rw [wrap_pred h1 (by omega), rdOf_nat _ _ (show j - 1 < l.length by omega)]
        simp only [show ((j : Int) > 0) from by omega, show (0 : Int) ≤ ((j - 1 : Nat) : Int) from by omega, show (((j - 1 : Nat) : Int) < (l.length : Int)) from by omega, if_true]
        have e := isSet_drop l (show j - 1 + 1 < l.length by omega)
        simp only [show j - 1 + 1 = j by omega] at e
        rw [e]
        show Ev (fun k => if lt l[j - 1] l[j] = true then syms_Validate.l0 k l l (l.length : Int) ((j + 1 : Nat) : Int) else some 1) _
        cases lt l[j - 1] l[j] with
        | true => simpa using ih'
        | false => simpa using Ev.now _

theorem syms_Validate_ev (l : List ByteArray) (hlen : l.length ≤ 9223372036854775807) : Ev (fun k => syms_Validate.f k l) (vSigma l) := by
  unfold syms_Validate.f vSigma
  by_cases h40 : 40 < l.length
  · simp only [show (l.length : Int) > 40 from by omega, if_true, h40]
    exact Ev.step (fun k => syms_Validate.j0.eq_2 _ _ _) (by simpa using Ev.now _)
  · simp only [show ¬ ((l.length : Int) > 40) from by omega, if_false, h40]
    simp only [cf_isLong, Option.bind_some]
    refine Ev.step (fun k => syms_Validate.j0.eq_2 _ _ _) ?_
    cases hL : l.any isLong with
    | true => simpa using Ev.now _
    | false =>
      simp only [Bool.false_eq_true, if_false]
      refine ev_cast (Validate_l l hlen (short_of l hL) l.length 0 (by omega)) ?_
      simp only [List.drop_zero, Nat.zero_sub]
      cases l.all isSym <;> cases isSet l <;> rfl

theorem ref_ValidateWord_ev (l : List ByteArray) (hlen : l.length ≤ 9223372036854775807) : Ev (fun k => ablautref01_ValidateWord.f k l) (vWord l) := by
  unfold ablautref01_ValidateWord.f vWord
  by_cases h60 : 60 < l.length
  · simp only [show (l.length : Int) > 60 from by omega, if_true, h60]
    exact Ev.step (fun k => ablautref01_ValidateWord.j0.eq_2 _ _ _) (by simpa using Ev.now _)
  · simp only [show ¬ ((l.length : Int) > 60) from by omega, if_false, h60]
    refine Ev.bind (anyLong_ev l hlen) ?_
    refine Ev.step (fun k => ablautref01_ValidateWord.j0.eq_2 _ _ _) ?_
    cases hL : l.any isLong with
    | true => simpa using Ev.now _
    | false =>
      simp only [Bool.false_eq_true, if_false]
      refine Ev.bind (allSymbols_ev l hlen (short_of l hL)) ?_
      cases l.all isSym <;> simpa using Ev.now _

end Go.Proofs.Ytlncfkgodioocaa.P
