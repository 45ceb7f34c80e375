/- Whether texts are in a list: what the program's and the reference's functions come to. -/
import Derived.Test.YtlncfkgodioocaaS4
import Derived.Test.YtlncfkgodioocaaQ0g
import Derived.Test.YtlncfkgodioocaaQ0i
namespace Go.Proofs.Ytlncfkgodioocaa.P
open Go.RowKit Go.Proofs.YtlncfkgodioocaaW.PrintWords
set_option linter.unusedSimpArgs false

def isIn (x : ByteArray) (l : List ByteArray) : Bool := l.any fun y => decide (x = y)
theorem isIn_iff (x : ByteArray) (l : List ByteArray) : isIn x l = true ↔ x ∈ l := by
  simp [isIn]
theorem isIn_cons (x y : ByteArray) (l : List ByteArray) : isIn x (y :: l) = (decide (x = y) || isIn x l) := rfl
theorem toList_iff (a b : ByteArray) : a.toList = b.toList ↔ a = b := ⟨toList_inj, fun h => h ▸ rfl⟩

theorem Index_l (l : List ByteArray) (x : ByteArray) (hlen : l.length ≤ 9223372036854775807) : ∀ (d j : Nat), l.length = j + d → ∃ r, Ev (fun k => slices_Index_string_string.l0 k l x (l.length : Int) (j : Int)) r ∧ decide (r ≥ 0) = isIn x (l.drop j) := by
  intro d
  induction d with
  | zero =>
    intro j hj
    refine ⟨-1, Ev.step (fun k => slices_Index_string_string.l0.eq_2 _ _ _ _ _) ?_, ?_⟩
    · simp only [show ¬ ((j : Int) < (l.length : Int)) from by omega, if_false]; exact Ev.now _
    · rw [List.drop_eq_nil_of_le (by omega)]; rfl
  | succ d ih =>
    intro j hj
    have hj' : j < l.length := by omega
    rw [List.drop_eq_getElem_cons hj']
    by_cases h : x = l[j]
    · refine ⟨(j : Int), Ev.step (fun k => slices_Index_string_string.l0.eq_2 _ _ _ _ _) ?_, ?_⟩
      · rw [rdOf_nat _ _ hj']
        simp only [show ((j : Int) < (l.length : Int)) from by omega, show (0 : Int) ≤ (j : Int) from by omega, toList_iff, h, if_true]; exact Ev.now _
      · rw [isIn_cons, decide_eq_true h, Bool.true_or]; exact decide_eq_true (by omega)
    · obtain ⟨r, hr, hd⟩ := ih (j + 1) (by omega)
      refine ⟨r, Ev.step (fun k => slices_Index_string_string.l0.eq_2 _ _ _ _ _) ?_, ?_⟩
      · rw [rdOf_nat _ _ hj', wrap_succ (by omega)]
        simp only [show ((j : Int) < (l.length : Int)) from by omega, show (0 : Int) ≤ (j : Int) from by omega, toList_iff, h, if_true, if_false]; exact hr
      · rw [hd, isIn_cons, decide_eq_false h, Bool.false_or]
theorem Contains_ev (l : List ByteArray) (x : ByteArray) (hlen : l.length ≤ 9223372036854775807) : Ev (fun k => slices_Contains_string_string.f k l x) (isIn x l) := by
  obtain ⟨r, hr, hd⟩ := Index_l l x hlen l.length 0 (by omega)
  unfold slices_Contains_string_string.f
  refine Ev.bind (show Ev (fun k => slices_Index_string_string.f k l x) r from by simpa [slices_Index_string_string.f] using hr) ?_
  rw [hd, List.drop_zero]
  exact Ev.now _
theorem Is_l (w l : List ByteArray) (hw : w.length ≤ 9223372036854775807) (hlen : l.length ≤ 9223372036854775807) : ∀ (d j : Nat), w.length = j + d → Ev (fun k => syms_Is.l0 k l w (w.length : Int) (j : Int)) ((w.drop j).all fun x => isIn x l) := by
  intro d
  induction d with
  | zero =>
    intro j hj
    refine Ev.step (fun k => syms_Is.l0.eq_2 _ _ _ _ _) ?_
    simp only [show ¬ ((j : Int) < (w.length : Int)) from by omega, if_false]
    rw [List.drop_eq_nil_of_le (by omega)]
    exact Ev.now _
  | succ d ih =>
    intro j hj
    have hj' : j < w.length := by omega
    refine Ev.step (fun k => syms_Is.l0.eq_2 _ _ _ _ _) ?_
    rw [List.drop_eq_getElem_cons hj', List.all_cons, rdOf_nat _ _ hj', wrap_succ (by omega)]
    simp only [show ((j : Int) < (w.length : Int)) from by omega, show (0 : Int) ≤ (j : Int) from by omega, if_true]
    refine Ev.bind (Contains_ev l w[j] hlen) ?_
    cases isIn w[j] l with
    | true => simpa using ih (j + 1) (by omega)
    | false => simpa using Ev.now _
theorem syms_Is_ev (w l : List ByteArray) (hw : w.length ≤ 9223372036854775807) (hlen : l.length ≤ 9223372036854775807) : Ev (fun k => syms_Is.f k w l) (w.all fun x => isIn x l) := by
  simpa [syms_Is.f] using Is_l w l hw hlen w.length 0 (by omega)

theorem In_l (x : ByteArray) (l : List ByteArray) (hlen : l.length ≤ 9223372036854775807) : ∀ (d j : Nat), l.length = j + d → Ev (fun k => ablautref01_In.l0 k x l (j : Int)) (isIn x (l.drop j)) := by
  intro d
  induction d with
  | zero =>
    intro j hj
    refine Ev.step (fun k => ablautref01_In.l0.eq_2 _ _ _ _) ?_
    simp only [show ¬ ((j : Int) < (l.length : Int)) from by omega, if_false]
    rw [List.drop_eq_nil_of_le (by omega)]
    exact Ev.now _
  | succ d ih =>
    intro j hj
    have hj' : j < l.length := by omega
    refine Ev.step (fun k => ablautref01_In.l0.eq_2 _ _ _ _) ?_
    rw [List.drop_eq_getElem_cons hj', rdOf_nat _ _ hj', wrap_succ (by omega)]
    simp only [show ((j : Int) < (l.length : Int)) from by omega, show (0 : Int) ≤ (j : Int) from by omega, toList_iff, if_true]
    by_cases h : l[j] = x
    · simp only [h, if_true]
      refine ev_cast (Ev.now _) ?_
      rw [isIn_cons, decide_eq_true rfl, Bool.true_or]
    · simp only [h, if_false]
      refine ev_cast (ih (j + 1) (by omega)) ?_
      rw [isIn_cons, decide_eq_false (show ¬ (x = l[j]) from fun e => h e.symm), Bool.false_or]
theorem In_ev (x : ByteArray) (l : List ByteArray) (hlen : l.length ≤ 9223372036854775807) : Ev (fun k => ablautref01_In.f k x l) (isIn x l) := by
  simpa [ablautref01_In.f] using In_l x l hlen l.length 0 (by omega)
theorem rIs_l (w l : List ByteArray) (hw : w.length ≤ 9223372036854775807) (hlen : l.length ≤ 9223372036854775807) : ∀ (d j : Nat), w.length = j + d → Ev (fun k => ablautref01_Is.l0 k w l (j : Int)) ((w.drop j).all fun x => isIn x l) := by
  intro d
  induction d with
  | zero =>
    intro j hj
    refine Ev.step (fun k => ablautref01_Is.l0.eq_2 _ _ _ _) ?_
    simp only [show ¬ ((j : Int) < (w.length : Int)) from by omega, if_false]
    rw [List.drop_eq_nil_of_le (by omega)]
    exact Ev.now _
  | succ d ih =>
    intro j hj
    have hj' : j < w.length := by omega
    refine Ev.step (fun k => ablautref01_Is.l0.eq_2 _ _ _ _) ?_
    rw [List.drop_eq_getElem_cons hj', List.all_cons, rdOf_nat _ _ hj', wrap_succ (by omega)]
    simp only [show ((j : Int) < (w.length : Int)) from by omega, show (0 : Int) ≤ (j : Int) from by omega, if_true]
    refine Ev.bind (In_ev w[j] l hlen) ?_
    cases isIn w[j] l with
    | true => simpa using ih (j + 1) (by omega)
    | false => simpa using Ev.now _
theorem ref_Is_ev (w l : List ByteArray) (hw : w.length ≤ 9223372036854775807) (hlen : l.length ≤ 9223372036854775807) : Ev (fun k => ablautref01_Is.f k w l) (w.all fun x => isIn x l) := by
  simpa [ablautref01_Is.f] using rIs_l w l hw hlen w.length 0 (by omega)

end Go.Proofs.Ytlncfkgodioocaa.P
