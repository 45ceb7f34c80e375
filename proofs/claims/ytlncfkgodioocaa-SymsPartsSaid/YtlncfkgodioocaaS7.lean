/- How a text is cut by an alphabet, in plain words; what the program's and the reference's functions come to. -/
import Derived.Test.YtlncfkgodioocaaS6
import Derived.Test.YtlncfkgodioocaaQ1a
import Derived.Test.YtlncfkgodioocaaQ1a
import Derived.Test.YtlncfkgodioocaaQ0b
import Derived.Test.YtlncfkgodioocaaQ0c
namespace Go.Proofs.Ytlncfkgodioocaa.P
open Go.RowKit Go.Proofs.YtlncfkgodioocaaW.PrintWords Go.Proofs.YtlncfkgodioocaaW.PrintLast Go.Proofs.YtlncfkgodioocaaW.PrintMore
set_option linter.unusedVariables false
set_option linter.unusedSimpArgs false

/-- A text begins with a symbol. -/
def pref (x : ByteArray) (r : List UInt8) : Bool := r.take x.size == x.toList
theorem pref_le {x : ByteArray} {r : List UInt8} (h : pref x r = true) : x.size ≤ r.length := by
  have := congrArg List.length (beq_iff_eq.1 h)
  rw [List.length_take, sz_toList] at this
  omega
theorem pref_eq {x : ByteArray} {r : List UInt8} (h : pref x r = true) : r = x.toList ++ r.drop x.size := by
  have := beq_iff_eq.1 h
  conv => lhs; rw [← List.take_append_drop x.size r, this]

theorem hasPrefix_eq (s x : ByteArray) (j : Nat) : strings_HasPrefix.f (s.extract j s.size) x = some (pref x (s.toList.drop j)) := by
  have hl : (s.extract j s.size).size = (s.toList.drop j).length := by rw [← sz_toList, ext_to_end]
  unfold strings_HasPrefix.f stringslite_HasPrefix.f
  by_cases h : (x.size : Int) ≤ ((s.extract j s.size).size : Int)
  · simp only [ge_iff_le, h, show (0 : Int) ≤ (x.size : Int) from by omega, if_true, Option.bind_some, Int.toNat_natCast]
    rw [sub_toList, ext_to_end, List.drop_zero, Nat.sub_zero]
    rfl
  · simp only [ge_iff_le, h, if_false, Option.bind_some, Option.some.injEq]
    cases hp : pref x (s.toList.drop j) with
    | false => rfl
    | true => have := pref_le hp; omega
theorem fits_eq (s x : ByteArray) (j : Nat) (hj : j ≤ s.size) (hs : s.size ≤ 400) : ablautref01_fits.f s (j : Int) x = some (pref x (s.toList.drop j)) := by
  have hl := sz_toList s
  have hdl : (s.toList.drop j).length = s.size - j := by rw [List.length_drop, hl]
  unfold ablautref01_fits.f
  have h0 : wrap64 ((s.size : Int) - (j : Int)) = ((s.size - j : Nat) : Int) := wrap_of (by omega) (by omega)
  rw [h0]
  clear h0
  by_cases h : x.size ≤ s.size - j
  · have h1 : wrap64 ((j : Int) + (x.size : Int)) = ((j + x.size : Nat) : Int) := wrap_of (by omega) (by omega)
    rw [h1]
    clear h1
    simp only [show (x.size : Int) ≤ ((s.size - j : Nat) : Int) from by omega, show (0 : Int) ≤ (j : Int) from by omega, show (j : Int) ≤ ((j + x.size : Nat) : Int) from by omega, show ((j + x.size : Nat) : Int) ≤ (s.size : Int) from by omega, if_true, Int.toNat_natCast]
    rw [sub_toList, Nat.add_sub_cancel_left]
    rfl
  · simp only [show ¬ ((x.size : Int) ≤ ((s.size - j : Nat) : Int)) from by omega, if_false, Option.some.injEq]
    cases hp : pref x (s.toList.drop j) with
    | false => rfl
    | true => have := pref_le hp; omega

/-! ### the longest symbols -/
def best (r : List UInt8) : ByteArray → List ByteArray → ByteArray
  | b, [] => b
  | b, x :: l => if b.size < x.size && pref x r then best r x l else best r b l
def splitR (sigma : List ByteArray) : Nat → Nat → List UInt8 → List ByteArray → List ByteArray × Int × Int
  | 0, j, _, acc => ([], 0, 0)
  | n + 1, j, [], acc => if 60 < acc.length then ([], 0, 3) else (acc, 0, 0)
  | n + 1, j, c :: t, acc =>
    if (best (c :: t) ⟨#[]⟩ sigma).toList = [] then ([], (j : Int), 4)
    else splitR sigma n (j + (best (c :: t) ⟨#[]⟩ sigma).size) ((c :: t).drop (best (c :: t) ⟨#[]⟩ sigma).size) (acc ++ [best (c :: t) ⟨#[]⟩ sigma])
def splitW (s : ByteArray) (sigma : List ByteArray) : List ByteArray × Int × Int :=
  if vSigma sigma = 0 then (if 400 < s.size then ([], 0, 3) else splitR sigma (s.size + 1) 0 s.toList []) else ([], 0, vSigma sigma)

theorem best_pref (r : List UInt8) : ∀ (l : List ByteArray) (b : ByteArray), pref b r = true → pref (best r b l) r = true
  | [], _, h => h
  | x :: l, b, h => by
    rw [best]
    split
    · rename_i hx
      rw [Bool.and_eq_true] at hx
      exact best_pref r l x hx.2
    · exact best_pref r l b h
theorem pref_nil (r : List UInt8) : pref ⟨#[]⟩ r = true := by simp [pref, Lib.toList_data, mw_size_mk]

theorem Split_l1 (s : ByteArray) (sigma acc : List ByteArray) (j : Nat) (hj : j ≤ s.size) (hs : s.size ≤ 400) (hg : sigma.length ≤ 40) (ha : acc.length ≤ j) (R : List ByteArray × Int × Int)
    (hend : ∀ b, b = best (s.toList.drop j) ⟨#[]⟩ sigma → b.toList ≠ [] → Ev (fun k => syms_Split.l0 k s sigma (acc ++ [b]) ((j + b.size : Nat) : Int)) R)
    (hnil : (best (s.toList.drop j) ⟨#[]⟩ sigma).toList = [] → R = ([], (j : Int), 4)) :
    ∀ (d i : Nat) (b : ByteArray), sigma.length = i + d → best (s.toList.drop j) b (sigma.drop i) = best (s.toList.drop j) ⟨#[]⟩ sigma →
      Ev (fun k => syms_Split.l1 k s sigma acc (j : Int) b sigma (sigma.length : Int) (i : Int)) R := by
  intro d
  induction d with
  | zero =>
    intro i b hi hb
    rw [List.drop_eq_nil_of_le (show sigma.length ≤ i by omega), best] at hb
    refine Ev.step (fun k => syms_Split.l1.eq_2 _ _ _ _ _ _ _ _ _) ?_
    simp only [show ¬ ((i : Int) < (sigma.length : Int)) from by omega, if_false]
    by_cases hn : b.toList = []
    · simp only [hn, if_true]
      rw [hnil (by rw [← hb]; exact hn)]
      exact Ev.now _
    · simp only [hn, if_false, show acc.length < 8796093022208 from by omega, if_true]
      have hble : b.size ≤ s.size - j := by
        have := pref_le (best_pref (s.toList.drop j) sigma ⟨#[]⟩ (pref_nil _))
        rw [← hb, List.length_drop, sz_toList] at this
        exact this
      have hw : wrap64 ((j : Int) + (b.size : Int)) = ((j + b.size : Nat) : Int) := wrap_of (by omega) (by omega)
      rw [hw]
      exact hend b hb hn
  | succ d ih =>
    intro i b hi hb
    have hi' : i < sigma.length := by omega
    rw [List.drop_eq_getElem_cons hi', best] at hb
    refine Ev.step (fun k => syms_Split.l1.eq_2 _ _ _ _ _ _ _ _ _) ?_
    rw [rdOf_nat _ _ hi', wrap_succ (by omega)]
    simp only [show ((i : Int) < (sigma.length : Int)) from by omega, show (0 : Int) ≤ (i : Int) from by omega, show (0 : Int) ≤ (j : Int) from by omega, show (j : Int) ≤ (s.size : Int) from by omega, Int.toNat_natCast, hasPrefix_eq, Option.bind_some, if_true]
    by_cases hlt : b.size < sigma[i].size
    · simp only [show (sigma[i].size : Int) > (b.size : Int) from by omega, if_true]
      cases hp : pref sigma[i] (s.toList.drop j) with
      | true =>
        rw [hp] at hb
        simp only [hlt, decide_true, Bool.and_self, if_true] at hb
        simp only [if_true]
        exact ih (i + 1) _ (by omega) hb
      | false =>
        rw [hp] at hb
        simp only [Bool.and_false, Bool.false_eq_true, if_false] at hb
        simp only [Bool.false_eq_true, if_false]
        exact ih (i + 1) _ (by omega) hb
    · simp only [show ¬ ((sigma[i].size : Int) > (b.size : Int)) from by omega, if_false]
      simp only [hlt, decide_false, Bool.false_and, Bool.false_eq_true, if_false] at hb
      exact ih (i + 1) _ (by omega) hb
theorem Split_l (s : ByteArray) (sigma : List ByteArray) (hs : s.size ≤ 400) (hg : sigma.length ≤ 40) : ∀ (n j : Nat) (acc : List ByteArray), s.size ≤ j + n → j ≤ s.size → acc.length ≤ j →
    Ev (fun k => syms_Split.l0 k s sigma acc (j : Int)) (splitR sigma (n + 1) j (s.toList.drop j) acc) := by
  have hl := sz_toList s
  intro n
  induction n with
  | zero =>
    intro j acc hj hj2 ha
    refine Ev.step (fun k => syms_Split.l0.eq_2 _ _ _ _ _) ?_
    simp only [show ¬ ((j : Int) < (s.size : Int)) from by omega, if_false]
    rw [List.drop_eq_nil_of_le (by omega), splitR]
    by_cases h : 60 < acc.length
    · simp only [h, show (acc.length : Int) > 60 from by omega, if_true]; exact Ev.now _
    · simp only [h, show ¬ ((acc.length : Int) > 60) from by omega, if_false]; exact Ev.now _
  | succ n ih =>
    intro j acc hj hj2 ha
    refine Ev.step (fun k => syms_Split.l0.eq_2 _ _ _ _ _) ?_
    rcases Nat.lt_or_ge j s.size with hj' | hj'
    · simp only [show ((j : Int) < (s.size : Int)) from by omega, if_true]
      have hjt : j < s.toList.length := by omega
      refine Split_l1 s sigma acc j hj2 hs hg ha _ ?_ ?_ sigma.length 0 ⟨#[]⟩ (by omega) (by rw [List.drop_zero])
      · intro b hb hn
        have hpos : 0 < b.size := by rw [← sz_toList]; exact List.length_pos_iff.2 hn
        have hble : b.size ≤ s.size - j := by
          have := pref_le (best_pref (s.toList.drop j) sigma ⟨#[]⟩ (pref_nil _))
          rw [← hb, List.length_drop, sz_toList] at this
          exact this
        have := ih (j + b.size) (acc ++ [b]) (by omega) (by omega) (by simp; omega)
        refine ev_cast this ?_
        conv => rhs; rw [List.drop_eq_getElem_cons hjt, splitR, ← List.drop_eq_getElem_cons hjt, ← hb, if_neg hn, List.drop_drop]
      · intro hn
        rw [List.drop_eq_getElem_cons hjt, splitR, ← List.drop_eq_getElem_cons hjt, if_pos hn]
    · simp only [show ¬ ((j : Int) < (s.size : Int)) from by omega, if_false]
      rw [List.drop_eq_nil_of_le (by omega), splitR]
      by_cases h : 60 < acc.length
      · simp only [h, show (acc.length : Int) > 60 from by omega, if_true]; exact Ev.now _
      · simp only [h, show ¬ ((acc.length : Int) > 60) from by omega, if_false]; exact Ev.now _
theorem vSigma_ok {l : List ByteArray} (hv : vSigma l = 0) : l.length ≤ 40 ∧ l.any isLong = false ∧ l.all isSym = true ∧ isSet l = true := by
  unfold vSigma at hv
  by_cases h : 40 < l.length
  · simp [h] at hv
  · rw [if_neg h] at hv
    cases hL : l.any isLong with
    | true => rw [hL] at hv; simp at hv
    | false =>
      rw [hL] at hv
      cases hA : l.all isSym with
      | false => rw [hA] at hv; simp at hv
      | true =>
        rw [hA] at hv
        cases hS : isSet l with
        | false => rw [hS] at hv; simp at hv
        | true => exact ⟨by omega, rfl, rfl, rfl⟩
theorem syms_Split_ev (s : ByteArray) (sigma : List ByteArray) (hlen : sigma.length ≤ 9223372036854775807) : Ev (fun k => syms_Split.f k s sigma) (splitW s sigma) := by
  unfold syms_Split.f splitW
  refine Ev.bind (syms_Validate_ev sigma hlen) ?_
  by_cases hv : vSigma sigma = 0
  · simp only [hv, if_true]
    by_cases h : 400 < s.size
    · simp only [h, show (s.size : Int) > 400 from by omega, if_true]; exact Ev.now _
    · simp only [h, show ¬ ((s.size : Int) > 400) from by omega, if_false]
      simpa using Split_l s sigma (by omega) (vSigma_ok hv).1 s.size 0 [] (by omega) (by omega) (by simp)
  · simp only [hv, if_false]; exact Ev.now _

theorem rSplit_l1 (s : ByteArray) (sigma acc : List ByteArray) (j : Nat) (hj : j ≤ s.size) (hs : s.size ≤ 400) (hg : sigma.length ≤ 40) (ha : acc.length ≤ j) (R : List ByteArray × Int × Int)
    (hend : ∀ b, b = best (s.toList.drop j) ⟨#[]⟩ sigma → b.toList ≠ [] → Ev (fun k => ablautref01_Split.l0 k s sigma (acc ++ [b]) ((j + b.size : Nat) : Int)) R)
    (hnil : (best (s.toList.drop j) ⟨#[]⟩ sigma).toList = [] → R = ([], (j : Int), 4)) :
    ∀ (d i : Nat) (b : ByteArray), sigma.length = i + d → best (s.toList.drop j) b (sigma.drop i) = best (s.toList.drop j) ⟨#[]⟩ sigma →
      Ev (fun k => ablautref01_Split.l1 k s sigma acc (j : Int) b (i : Int)) R := by
  intro d
  induction d with
  | zero =>
    intro i b hi hb
    rw [List.drop_eq_nil_of_le (show sigma.length ≤ i by omega), best] at hb
    refine Ev.step (fun k => ablautref01_Split.l1.eq_2 _ _ _ _ _ _ _) ?_
    simp only [show ¬ ((i : Int) < (sigma.length : Int)) from by omega, if_false]
    by_cases hn : b.toList = []
    · simp only [hn, if_true]
      rw [hnil (by rw [← hb]; exact hn)]
      exact Ev.now _
    · simp only [hn, if_false, show acc.length < 8796093022208 from by omega, if_true]
      have hble : b.size ≤ s.size - j := by
        have := pref_le (best_pref (s.toList.drop j) sigma ⟨#[]⟩ (pref_nil _))
        rw [← hb, List.length_drop, sz_toList] at this
        exact this
      have hw : wrap64 ((j : Int) + (b.size : Int)) = ((j + b.size : Nat) : Int) := wrap_of (by omega) (by omega)
      rw [hw]
      exact hend b hb hn
  | succ d ih =>
    intro i b hi hb
    have hi' : i < sigma.length := by omega
    rw [List.drop_eq_getElem_cons hi', best] at hb
    refine Ev.step (fun k => ablautref01_Split.l1.eq_2 _ _ _ _ _ _ _) ?_
    rw [rdOf_nat _ _ hi', wrap_succ (by omega)]
    simp only [show ((i : Int) < (sigma.length : Int)) from by omega, show (0 : Int) ≤ (i : Int) from by omega, show (0 : Int) ≤ (j : Int) from by omega, show (j : Int) ≤ (s.size : Int) from by omega, Int.toNat_natCast, fits_eq _ _ _ hj hs, Option.bind_some, if_true]
    by_cases hlt : b.size < sigma[i].size
    · simp only [show (sigma[i].size : Int) > (b.size : Int) from by omega, if_true]
      cases hp : pref sigma[i] (s.toList.drop j) with
      | true =>
        rw [hp] at hb
        simp only [hlt, decide_true, Bool.and_self, if_true] at hb
        simp only [if_true]
        exact ih (i + 1) _ (by omega) hb
      | false =>
        rw [hp] at hb
        simp only [Bool.and_false, Bool.false_eq_true, if_false] at hb
        simp only [Bool.false_eq_true, if_false]
        exact ih (i + 1) _ (by omega) hb
    · simp only [show ¬ ((sigma[i].size : Int) > (b.size : Int)) from by omega, if_false]
      simp only [hlt, decide_false, Bool.false_and, Bool.false_eq_true, if_false] at hb
      exact ih (i + 1) _ (by omega) hb
theorem rSplit_l (s : ByteArray) (sigma : List ByteArray) (hs : s.size ≤ 400) (hg : sigma.length ≤ 40) : ∀ (n j : Nat) (acc : List ByteArray), s.size ≤ j + n → j ≤ s.size → acc.length ≤ j →
    Ev (fun k => ablautref01_Split.l0 k s sigma acc (j : Int)) (splitR sigma (n + 1) j (s.toList.drop j) acc) := by
  have hl := sz_toList s
  intro n
  induction n with
  | zero =>
    intro j acc hj hj2 ha
    refine Ev.step (fun k => ablautref01_Split.l0.eq_2 _ _ _ _ _) ?_
    simp only [show ¬ ((j : Int) < (s.size : Int)) from by omega, if_false]
    rw [List.drop_eq_nil_of_le (by omega), splitR]
    by_cases h : 60 < acc.length
    · simp only [h, show (acc.length : Int) > 60 from by omega, if_true]; exact Ev.now _
    · simp only [h, show ¬ ((acc.length : Int) > 60) from by omega, if_false]; exact Ev.now _
  | succ n ih =>
    intro j acc hj hj2 ha
    refine Ev.step (fun k => ablautref01_Split.l0.eq_2 _ _ _ _ _) ?_
    rcases Nat.lt_or_ge j s.size with hj' | hj'
    · simp only [show ((j : Int) < (s.size : Int)) from by omega, if_true]
      have hjt : j < s.toList.length := by omega
      refine rSplit_l1 s sigma acc j hj2 hs hg ha _ ?_ ?_ sigma.length 0 ⟨#[]⟩ (by omega) (by rw [List.drop_zero])
      · intro b hb hn
        have hpos : 0 < b.size := by rw [← sz_toList]; exact List.length_pos_iff.2 hn
        have hble : b.size ≤ s.size - j := by
          have := pref_le (best_pref (s.toList.drop j) sigma ⟨#[]⟩ (pref_nil _))
          rw [← hb, List.length_drop, sz_toList] at this
          exact this
        have := ih (j + b.size) (acc ++ [b]) (by omega) (by omega) (by simp; omega)
        refine ev_cast this ?_
        conv => rhs; rw [List.drop_eq_getElem_cons hjt, splitR, ← List.drop_eq_getElem_cons hjt, ← hb, if_neg hn, List.drop_drop]
      · intro hn
        rw [List.drop_eq_getElem_cons hjt, splitR, ← List.drop_eq_getElem_cons hjt, if_pos hn]
    · simp only [show ¬ ((j : Int) < (s.size : Int)) from by omega, if_false]
      rw [List.drop_eq_nil_of_le (by omega), splitR]
      by_cases h : 60 < acc.length
      · simp only [h, show (acc.length : Int) > 60 from by omega, if_true]; exact Ev.now _
      · simp only [h, show ¬ ((acc.length : Int) > 60) from by omega, if_false]; exact Ev.now _
theorem ref_Split_ev (s : ByteArray) (sigma : List ByteArray) (hlen : sigma.length ≤ 9223372036854775807) : Ev (fun k => ablautref01_Split.f k s sigma) (splitW s sigma) := by
  unfold ablautref01_Split.f splitW
  refine Ev.bind (ref_Validate_ev sigma hlen) ?_
  by_cases hv : vSigma sigma = 0
  · simp only [hv, if_true]
    by_cases h : 400 < s.size
    · simp only [h, show (s.size : Int) > 400 from by omega, if_true]; exact Ev.now _
    · simp only [h, show ¬ ((s.size : Int) > 400) from by omega, if_false]
      simpa using rSplit_l s sigma (by omega) (vSigma_ok hv).1 s.size 0 [] (by omega) (by omega) (by simp)
  · simp only [hv, if_false]; exact Ev.now _

/-! ### in how many ways -/
def stepW (r : List UInt8) (v : List Int) (cur : Int) (x : ByteArray) : Int := if pref x r then mn (cur + v.getD (x.size - 1) 0) 1000000000 else cur
def vecW (sigma : List ByteArray) : List UInt8 → List Int
  | [] => [1]
  | c :: t => sigma.foldl (stepW (c :: t) (vecW sigma t)) 0 :: vecW sigma t
theorem vecW_len (sigma : List ByteArray) : ∀ r, (vecW sigma r).length = r.length + 1
  | [] => rfl
  | c :: t => by rw [vecW, List.length_cons, vecW_len sigma t, List.length_cons]
def goodV (v : List Int) : Prop := ∀ x ∈ v, 0 ≤ x ∧ x ≤ 1000000000
theorem getD_good {v : List Int} (h : goodV v) (i : Nat) : 0 ≤ v.getD i 0 ∧ v.getD i 0 ≤ 1000000000 := by
  rw [List.getD_eq_getElem?_getD]
  cases hi : v[i]? with
  | none => simp
  | some x => exact h x (List.mem_of_getElem? hi)
theorem stepW_good {r : List UInt8} {v : List Int} (hv : goodV v) {cur : Int} (hc : 0 ≤ cur ∧ cur ≤ 1000000000) (x : ByteArray) : 0 ≤ stepW r v cur x ∧ stepW r v cur x ≤ 1000000000 := by
  have := getD_good hv (x.size - 1)
  unfold stepW mn
  split
  · split <;> omega
  · exact hc
theorem foldW_good {r : List UInt8} {v : List Int} (hv : goodV v) : ∀ (l : List ByteArray) (cur : Int), 0 ≤ cur ∧ cur ≤ 1000000000 → 0 ≤ l.foldl (stepW r v) cur ∧ l.foldl (stepW r v) cur ≤ 1000000000
  | [], _, h => h
  | x :: l, cur, h => foldW_good hv l _ (stepW_good hv h x)
theorem vecW_good (sigma : List ByteArray) : ∀ r, goodV (vecW sigma r)
  | [] => by intro x hx; simp [vecW] at hx; omega
  | c :: t => by
    intro x hx
    rw [vecW] at hx
    rcases List.mem_cons.1 hx with rfl | hx
    · exact foldW_good (vecW_good sigma t) sigma 0 (by omega)
    · exact vecW_good sigma t x hx
def cutsW (s : ByteArray) (sigma : List ByteArray) : Int × Int :=
  if vSigma sigma = 0 then (if 400 < s.size then (0, 3) else ((vecW sigma s.toList).getD 0 0, 0)) else (0, vSigma sigma)

/-- The table while place j is worked on. -/
def tabW (j : Nat) (cur : Int) (v : List Int) : List Int := List.replicate j 0 ++ cur :: v
theorem tabW_len (j : Nat) (cur : Int) (v : List Int) : (tabW j cur v).length = j + 1 + v.length := by simp [tabW]; omega
theorem tabW_at (j : Nat) (cur : Int) (v : List Int) : rd (tabW j cur v) (j : Int) = cur := by
  simp [rd, tabW, List.getD_eq_getElem?_getD]
theorem tabW_behind (j m : Nat) (cur : Int) (v : List Int) (h : 1 ≤ m) : rd (tabW j cur v) ((j + m : Nat) : Int) = v.getD (m - 1) 0 := by
  obtain ⟨m, rfl⟩ : ∃ k, m = k + 1 := ⟨m - 1, by omega⟩
  simp only [rd, tabW, List.getD_eq_getElem?_getD, Int.toNat_natCast]
  rw [List.getElem?_append_right (by rw [List.length_replicate]; omega)]
  simp
theorem tabW_set (j : Nat) (cur x : Int) (v : List Int) : (tabW j cur v).set (j : Int).toNat x = tabW j x v := by
  simp [tabW, List.set_append]
theorem tabW_next (j : Nat) (cur : Int) (v : List Int) : tabW (j + 1) cur v = tabW j 0 (cur :: v) := by
  simp [tabW, List.replicate_succ', List.append_assoc]

theorem Cuts_l1 (s : ByteArray) (sigma : List ByteArray) (j : Nat) (hj : j < s.size) (hs : s.size ≤ 400) (hg : sigma.length ≤ 40) (hne : ∀ x ∈ sigma, 0 < x.size) (v : List Int) (hv : goodV v) (hvl : v.length = s.size - j) (R : Int × Int)
    (hend : ∀ cur, cur = sigma.foldl (stepW (s.toList.drop j) v) 0 → Ev (fun k => syms_Cuts.l0 k s sigma (tabW j cur v) ((j : Int) - 1)) R) :
    ∀ (d i : Nat) (cur : Int), sigma.length = i + d → 0 ≤ cur ∧ cur ≤ 1000000000 → (sigma.drop i).foldl (stepW (s.toList.drop j) v) cur = sigma.foldl (stepW (s.toList.drop j) v) 0 →
      Ev (fun k => syms_Cuts.l1 k s sigma (tabW j cur v) (j : Int) sigma (sigma.length : Int) (i : Int)) R := by
  intro d
  induction d with
  | zero =>
    intro i cur hi hc hb
    rw [List.drop_eq_nil_of_le (show sigma.length ≤ i by omega), List.foldl_nil] at hb
    refine Ev.step (fun k => syms_Cuts.l1.eq_2 _ _ _ _ _ _ _ _) ?_
    simp only [show ¬ ((i : Int) < (sigma.length : Int)) from by omega, if_false]
    have hw : wrap64 ((j : Int) - 1) = (j : Int) - 1 := IntWalk.wrap64_in _ ⟨by omega, by omega⟩
    rw [hw]
    exact hend cur hb
  | succ d ih =>
    intro i cur hi hc hb
    have hi' : i < sigma.length := by omega
    rw [List.drop_eq_getElem_cons hi', List.foldl_cons] at hb
    have hpos := hne _ (List.getElem_mem hi')
    refine Ev.step (fun k => syms_Cuts.l1.eq_2 _ _ _ _ _ _ _ _) ?_
    rw [rdOf_nat _ _ hi', wrap_succ (by omega)]
    have hcs := stepW_good (r := s.toList.drop j) hv hc sigma[i]
    have hgd := getD_good hv (sigma[i].size - 1)
    simp only [show ((i : Int) < (sigma.length : Int)) from by omega, show (0 : Int) ≤ (i : Int) from by omega, show (0 : Int) ≤ (j : Int) from by omega, show (j : Int) ≤ (s.size : Int) from by omega, Int.toNat_natCast, hasPrefix_eq, Option.bind_some, if_true]
    cases hp : pref sigma[i] (s.toList.drop j) with
    | false =>
      have hst : stepW (s.toList.drop j) v cur sigma[i] = cur := by rw [stepW, hp]; rfl
      rw [hst] at hb
      simp only [Bool.false_eq_true, if_false]
      exact ih (i + 1) cur (by omega) hc hb
    | true =>
      have hst : stepW (s.toList.drop j) v cur sigma[i] = mn (cur + v.getD (sigma[i].size - 1) 0) 1000000000 := by rw [stepW, hp]; rfl
      have hle := pref_le hp
      rw [List.length_drop, sz_toList] at hle
      have hw : wrap64 ((j : Int) + (sigma[i].size : Int)) = ((j + sigma[i].size : Nat) : Int) := wrap_of (by omega) (by omega)
      rw [hw]
      clear hw
      have htl : ((tabW j cur v).length : Int) = (s.size : Int) + 1 := by rw [tabW_len, hvl]; omega
      simp only [htl, show (j : Int) < (s.size : Int) + 1 from by omega, show (0 : Int) ≤ ((j + sigma[i].size : Nat) : Int) from by omega, show ((j + sigma[i].size : Nat) : Int) < (s.size : Int) + 1 from by omega, if_true]
      have hww : wrap64 (cur + v.getD (sigma[i].size - 1) 0) = cur + v.getD (sigma[i].size - 1) 0 := IntWalk.wrap64_in _ ⟨by omega, by omega⟩
      rw [tabW_at, tabW_behind j _ cur v hpos, hww, ← hst]
      have hset := tabW_set j cur (stepW (s.toList.drop j) v cur sigma[i]) v
      simp only [Int.toNat_natCast] at hset
      rw [hset]
      exact ih (i + 1) _ (by omega) hcs hb
theorem Cuts_l (s : ByteArray) (sigma : List ByteArray) (hs : s.size ≤ 400) (hg : sigma.length ≤ 40) (hne : ∀ x ∈ sigma, 0 < x.size) : ∀ (j : Nat), j ≤ s.size → ∀ tab, (∃ cur v, tab = tabW j cur v ∧ cur :: v = vecW sigma (s.toList.drop j)) →
    Ev (fun k => syms_Cuts.l0 k s sigma tab ((j : Int) - 1)) ((vecW sigma s.toList).getD 0 0, 0) := by
  have hl := sz_toList s
  intro j
  induction j with
  | zero =>
    rintro _ tab ⟨cur, v, rfl, hv⟩
    refine Ev.step (fun k => syms_Cuts.l0.eq_2 _ _ _ _ _) ?_
    have htl : 0 < ((tabW 0 cur v).length : Int) := by rw [tabW_len]; omega
    simp only [show ¬ (((0 : Nat) : Int) - 1 ≥ 0) from by omega, htl, if_false, if_true]
    refine ev_cast (Ev.now _) ?_
    rw [List.drop_zero] at hv
    rw [← hv]
    simp [rd, tabW]
  | succ j ih =>
    rintro hj tab ⟨cur, v, rfl, hv⟩
    have hjt : j < s.toList.length := by omega
    refine Ev.step (fun k => syms_Cuts.l0.eq_2 _ _ _ _ _) ?_
    have e : ((j + 1 : Nat) : Int) - 1 = (j : Int) := by omega
    rw [e]
    simp only [show (j : Int) ≥ 0 from by omega, if_true]
    rw [tabW_next]
    have hvl : (cur :: v).length = s.size - j := by rw [hv, vecW_len, List.length_drop]; omega
    have hgood : goodV (cur :: v) := by rw [hv]; exact vecW_good sigma _
    refine Cuts_l1 s sigma j (by omega) hs hg hne (cur :: v) hgood hvl _ ?_ sigma.length 0 0 (by omega) (by omega) (by rw [List.drop_zero])
    intro c hc
    refine ih (by omega) _ ⟨c, cur :: v, rfl, ?_⟩
    rw [List.drop_eq_getElem_cons hjt, vecW, ← List.drop_eq_getElem_cons hjt, ← hv, hc]
theorem sym_pos {l : List ByteArray} (h : l.all isSym = true) : ∀ x ∈ l, 0 < x.size := by
  intro x hx
  have := (isSym_parts (List.all_eq_true.1 h x hx)).2
  rw [← sz_toList]
  exact List.length_pos_iff.2 this
theorem Cuts_start (s : ByteArray) : ((List.replicate (s.size + 1) 0 : List Int).set ((s.size : Int) : Int).toNat 1) = tabW s.size 1 [] := by
  rw [List.replicate_succ', Int.toNat_natCast]
  simp [tabW, List.set_append]
theorem syms_Cuts_ev (s : ByteArray) (sigma : List ByteArray) (hlen : sigma.length ≤ 9223372036854775807) : Ev (fun k => syms_Cuts.f k s sigma) (cutsW s sigma) := by
  unfold syms_Cuts.f cutsW
  refine Ev.bind (syms_Validate_ev sigma hlen) ?_
  by_cases hv : vSigma sigma = 0
  · simp only [hv, if_true]
    by_cases h : 400 < s.size
    · simp only [h, show (s.size : Int) > 400 from by omega, if_true]; exact Ev.now _
    · have hw : wrap64 ((s.size : Int) + 1) = ((s.size + 1 : Nat) : Int) := wrap_of (by omega) (by omega)
      have hw2 : wrap64 ((s.size : Int) - 1) = (s.size : Int) - 1 := IntWalk.wrap64_in _ ⟨by omega, by omega⟩
      simp only [h, show ¬ ((s.size : Int) > 400) from by omega, if_false, hw, hw2]
      clear hw hw2
      simp only [show (0 : Int) ≤ ((s.size + 1 : Nat) : Int) from by omega, show s.size + 1 ≤ 35184372088832 from by omega, Int.toNat_natCast, Option.bind_some, List.length_replicate, show (0 : Int) ≤ (s.size : Int) from by omega, show (s.size : Int) < ((s.size + 1 : Nat) : Int) from by omega, if_true]
      have hst := Cuts_start s
      rw [Int.toNat_natCast] at hst
      rw [hst]
      obtain ⟨h40, _, hall, _⟩ := vSigma_ok hv
      exact Cuts_l s sigma (by omega) h40 (sym_pos hall) s.size (Nat.le_refl _) _ ⟨1, [], rfl, by rw [List.drop_eq_nil_of_le (by rw [sz_toList]; omega)]; rfl⟩
  · simp only [hv, if_false]; exact Ev.now _

theorem rCuts_l1 (s : ByteArray) (sigma : List ByteArray) (j : Nat) (hj : j < s.size) (hs : s.size ≤ 400) (hg : sigma.length ≤ 40) (hne : ∀ x ∈ sigma, 0 < x.size) (v : List Int) (hv : goodV v) (hvl : v.length = s.size - j) (R : Int × Int)
    (hend : ∀ cur, cur = sigma.foldl (stepW (s.toList.drop j) v) 0 → Ev (fun k => ablautref01_Cuts.l0 k s sigma (tabW j cur v) ((j : Int) - 1)) R) :
    ∀ (d i : Nat) (cur : Int), sigma.length = i + d → 0 ≤ cur ∧ cur ≤ 1000000000 → (sigma.drop i).foldl (stepW (s.toList.drop j) v) cur = sigma.foldl (stepW (s.toList.drop j) v) 0 →
      Ev (fun k => ablautref01_Cuts.l1 k s sigma (tabW j cur v) (j : Int) (i : Int)) R := by
  intro d
  induction d with
  | zero =>
    intro i cur hi hc hb
    rw [List.drop_eq_nil_of_le (show sigma.length ≤ i by omega), List.foldl_nil] at hb
    refine Ev.step (fun k => ablautref01_Cuts.l1.eq_2 _ _ _ _ _ _) ?_
    simp only [show ¬ ((i : Int) < (sigma.length : Int)) from by omega, if_false]
    have hw : wrap64 ((j : Int) - 1) = (j : Int) - 1 := IntWalk.wrap64_in _ ⟨by omega, by omega⟩
    rw [hw]
    exact hend cur hb
  | succ d ih =>
    intro i cur hi hc hb
    have hi' : i < sigma.length := by omega
    rw [List.drop_eq_getElem_cons hi', List.foldl_cons] at hb
    have hpos := hne _ (List.getElem_mem hi')
    refine Ev.step (fun k => ablautref01_Cuts.l1.eq_2 _ _ _ _ _ _) ?_
    rw [rdOf_nat _ _ hi', wrap_succ (by omega)]
    have hcs := stepW_good (r := s.toList.drop j) hv hc sigma[i]
    have hgd := getD_good hv (sigma[i].size - 1)
    simp only [show ((i : Int) < (sigma.length : Int)) from by omega, show (0 : Int) ≤ (i : Int) from by omega, show (0 : Int) ≤ (j : Int) from by omega, show (j : Int) ≤ (s.size : Int) from by omega, Int.toNat_natCast, fits_eq _ _ _ (show j ≤ s.size by omega) hs, Option.bind_some, if_true]
    cases hp : pref sigma[i] (s.toList.drop j) with
    | false =>
      have hst : stepW (s.toList.drop j) v cur sigma[i] = cur := by rw [stepW, hp]; rfl
      rw [hst] at hb
      simp only [Bool.false_eq_true, if_false]
      exact ih (i + 1) cur (by omega) hc hb
    | true =>
      have hst : stepW (s.toList.drop j) v cur sigma[i] = mn (cur + v.getD (sigma[i].size - 1) 0) 1000000000 := by rw [stepW, hp]; rfl
      have hle := pref_le hp
      rw [List.length_drop, sz_toList] at hle
      have hw : wrap64 ((j : Int) + (sigma[i].size : Int)) = ((j + sigma[i].size : Nat) : Int) := wrap_of (by omega) (by omega)
      rw [hw]
      clear hw
      have htl : ((tabW j cur v).length : Int) = (s.size : Int) + 1 := by rw [tabW_len, hvl]; omega
      simp only [htl, show (j : Int) < (s.size : Int) + 1 from by omega, show (0 : Int) ≤ ((j + sigma[i].size : Nat) : Int) from by omega, show ((j + sigma[i].size : Nat) : Int) < (s.size : Int) + 1 from by omega, if_true]
      have hww : wrap64 (cur + v.getD (sigma[i].size - 1) 0) = cur + v.getD (sigma[i].size - 1) 0 := IntWalk.wrap64_in _ ⟨by omega, by omega⟩
      rw [tabW_at, tabW_behind j _ cur v hpos, hww, ← hst]
      have hset := tabW_set j cur (stepW (s.toList.drop j) v cur sigma[i]) v
      simp only [Int.toNat_natCast] at hset
      rw [hset]
      exact ih (i + 1) _ (by omega) hcs hb
theorem rCuts_l (s : ByteArray) (sigma : List ByteArray) (hs : s.size ≤ 400) (hg : sigma.length ≤ 40) (hne : ∀ x ∈ sigma, 0 < x.size) : ∀ (j : Nat), j ≤ s.size → ∀ tab, (∃ cur v, tab = tabW j cur v ∧ cur :: v = vecW sigma (s.toList.drop j)) →
    Ev (fun k => ablautref01_Cuts.l0 k s sigma tab ((j : Int) - 1)) ((vecW sigma s.toList).getD 0 0, 0) := by
  have hl := sz_toList s
  intro j
  induction j with
  | zero =>
    rintro _ tab ⟨cur, v, rfl, hv⟩
    refine Ev.step (fun k => ablautref01_Cuts.l0.eq_2 _ _ _ _ _) ?_
    have htl : 0 < ((tabW 0 cur v).length : Int) := by rw [tabW_len]; omega
    simp only [show ¬ (((0 : Nat) : Int) - 1 ≥ 0) from by omega, htl, if_false, if_true]
    refine ev_cast (Ev.now _) ?_
    rw [List.drop_zero] at hv
    rw [← hv]
    simp [rd, tabW]
  | succ j ih =>
    rintro hj tab ⟨cur, v, rfl, hv⟩
    have hjt : j < s.toList.length := by omega
    refine Ev.step (fun k => ablautref01_Cuts.l0.eq_2 _ _ _ _ _) ?_
    have e : ((j + 1 : Nat) : Int) - 1 = (j : Int) := by omega
    rw [e]
    simp only [show (j : Int) ≥ 0 from by omega, if_true]
    rw [tabW_next]
    have hvl : (cur :: v).length = s.size - j := by rw [hv, vecW_len, List.length_drop]; omega
    have hgood : goodV (cur :: v) := by rw [hv]; exact vecW_good sigma _
    refine rCuts_l1 s sigma j (by omega) hs hg hne (cur :: v) hgood hvl _ ?_ sigma.length 0 0 (by omega) (by omega) (by rw [List.drop_zero])
    intro c hc
    refine ih (by omega) _ ⟨c, cur :: v, rfl, ?_⟩
    rw [List.drop_eq_getElem_cons hjt, vecW, ← List.drop_eq_getElem_cons hjt, ← hv, hc]
theorem ref_Cuts_ev (s : ByteArray) (sigma : List ByteArray) (hlen : sigma.length ≤ 9223372036854775807) : Ev (fun k => ablautref01_Cuts.f k s sigma) (cutsW s sigma) := by
  unfold ablautref01_Cuts.f cutsW
  refine Ev.bind (ref_Validate_ev sigma hlen) ?_
  by_cases hv : vSigma sigma = 0
  · simp only [hv, if_true]
    by_cases h : 400 < s.size
    · simp only [h, show (s.size : Int) > 400 from by omega, if_true]; exact Ev.now _
    · have hw : wrap64 ((s.size : Int) + 1) = ((s.size + 1 : Nat) : Int) := wrap_of (by omega) (by omega)
      have hw2 : wrap64 ((s.size : Int) - 1) = (s.size : Int) - 1 := IntWalk.wrap64_in _ ⟨by omega, by omega⟩
      simp only [h, show ¬ ((s.size : Int) > 400) from by omega, if_false, hw, hw2]
      clear hw hw2
      simp only [show (0 : Int) ≤ ((s.size + 1 : Nat) : Int) from by omega, show s.size + 1 ≤ 35184372088832 from by omega, Int.toNat_natCast, Option.bind_some, List.length_replicate, show (0 : Int) ≤ (s.size : Int) from by omega, show (s.size : Int) < ((s.size + 1 : Nat) : Int) from by omega, if_true]
      have hst := Cuts_start s
      rw [Int.toNat_natCast] at hst
      rw [hst]
      obtain ⟨h40, _, hall, _⟩ := vSigma_ok hv
      exact rCuts_l s sigma (by omega) h40 (sym_pos hall) s.size (Nat.le_refl _) _ ⟨1, [], rfl, by rw [List.drop_eq_nil_of_le (by rw [sz_toList]; omega)]; rfl⟩
  · simp only [hv, if_false]; exact Ev.now _

theorem splitR_len (sigma : List ByteArray) : ∀ (n j : Nat) (r : List UInt8) (acc : List ByteArray), (splitR sigma n j r acc).1.length ≤ 60
  | 0, _, _, _ => by simp [splitR]
  | n + 1, j, [], acc => by
    rw [splitR]
    split
    · simp
    · simp; omega
  | n + 1, j, c :: t, acc => by
    rw [splitR]
    split
    · simp
    · exact splitR_len sigma n _ _ _
theorem splitW_len (s : ByteArray) (sigma : List ByteArray) : (splitW s sigma).1.length ≤ 60 := by
  unfold splitW
  split
  · split
    · simp
    · exact splitR_len _ _ _ _ _
  · simp

end Go.Proofs.Ytlncfkgodioocaa.P
