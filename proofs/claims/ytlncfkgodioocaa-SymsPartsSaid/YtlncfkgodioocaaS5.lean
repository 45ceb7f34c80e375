/- The word of a text, in plain words; what the program's and the reference's readers come to. -/
import Derived.Test.YtlncfkgodioocaaS4
import Derived.Test.YtlncfkgodioocaaQ1a
import Derived.Test.YtlncfkgodioocaaQ0a
namespace Go.Proofs.Ytlncfkgodioocaa.P
open Go.RowKit Go.Proofs.YtlncfkgodioocaaW.PrintWords

/-- The bytes ahead of the first '>'. -/
def body (l : List UInt8) : List UInt8 := l.takeWhile (fun b => b != 62)
/-- Reading: 'n' bounds the symbols that are read. -/
def readL : Nat → List UInt8 → Option (List ByteArray)
  | 0, _ => some []
  | _ + 1, [] => some []
  | n + 1, c :: t =>
    if c = 60 then
      (if (body t).length = t.length then none else if (body t).length < 2 then none else if 16 < (body t).length then none else if (body t).all okB then (readL n (t.drop ((body t).length + 1))).map (fun w => ⟨(body t).toArray⟩ :: w) else none)
    else if okB c then (readL n t).map (fun w => ⟨[c].toArray⟩ :: w) else none
def readR (acc : List ByteArray) : Option (List ByteArray) → List ByteArray × Int
  | none => ([], 2)
  | some w => if 60 < (acc ++ w).length then ([], 3) else (acc ++ w, 0)
/-- syms.Read. -/
def readW (s : ByteArray) : List ByteArray × Int := if 400 < s.size then ([], 3) else readR [] (readL s.size s.toList)

theorem body_le (l : List UInt8) : (body l).length ≤ l.length := by
  unfold body
  induction l with
  | nil => simp
  | cons x l ih => rw [List.takeWhile_cons]; split <;> simp <;> omega
theorem body_take (l : List UInt8) : l.take (body l).length = body l := by
  unfold body
  induction l with
  | nil => rfl
  | cons x l ih => rw [List.takeWhile_cons]; split <;> simp [ih]
theorem body_no (l : List UInt8) : ∀ b ∈ body l, b ≠ 62 := by
  unfold body
  induction l with
  | nil => simp
  | cons x l ih =>
    intro b hb
    rw [List.takeWhile_cons] at hb
    by_cases hx : x = 62
    · simp [hx] at hb
    · simp only [show (x != 62) = true from bne_iff_ne.2 hx, if_true] at hb
      rcases List.mem_cons.1 hb with rfl | hb
      · exact hx
      · exact ih b hb
theorem body_at (l : List UInt8) (h : (body l).length < l.length) : l[(body l).length] = 62 := by
  induction l with
  | nil => simp at h
  | cons x l ih =>
    by_cases hx : x = 62
    · subst hx; simp [body]
    · have e : body (x :: l) = x :: body l := by simp [body, hx]
      simp only [e, List.length_cons] at h ⊢
      simpa using ih (by omega)
theorem index_body (l : List UInt8) : Lib.indexByte l 62 = if (body l).length = l.length then -1 else ((body l).length : Int) := by
  induction l with
  | nil => simp [body, Lib.indexByte]
  | cons x l ih =>
    rw [Lib.indexByte]
    by_cases hx : x = 62
    · subst hx; simp [body]
    · have e : body (x :: l) = x :: body l := by simp [body, hx]
      simp only [e, List.length_cons, ih, show (x == 62) = false from beq_eq_false_iff_ne.2 hx, Bool.false_eq_true, if_false]
      by_cases h : (body l).length = l.length
      · simp [h]
      · have h' : ¬ (body l).length + 1 = l.length + 1 := by omega
        have h2 : (((body l).length : Int) == -1) = false := beq_eq_false_iff_ne.2 (by omega)
        rw [if_neg h, h2, if_neg h']
        simp

theorem readL_more : ∀ (n m : Nat) (l : List UInt8), l.length ≤ n → n ≤ m → readL n l = readL m l
  | 0, m, l, h, _ => by
    have : l = [] := List.eq_nil_of_length_eq_zero (by omega)
    subst this
    cases m <;> rfl
  | n + 1, 0, _, _, hm => absurd hm (by omega)
  | n + 1, m + 1, [], _, _ => rfl
  | n + 1, m + 1, c :: t, h, hm => by
    rw [readL, readL, readL_more n m t (by simp at h; omega) (by omega), readL_more n m (t.drop ((body t).length + 1)) (by simp at h ⊢; omega) (by omega)]

theorem sub_eq (s : ByteArray) (a b : Nat) : s.extract a b = ⟨((s.toList.drop a).take (b - a)).toArray⟩ := by rw [Lib.toList_data]; exact Lib.extract_eq s a b
theorem sub_toList (s : ByteArray) (a b : Nat) : (s.extract a b).toList = (s.toList.drop a).take (b - a) := by rw [Lib.toList_data s]; exact Lib.extract_toList s a b
theorem isSym_one (c : UInt8) : isSym ⟨[c].toArray⟩ = okB c := by rw [isSym, toList_mk]; simp
theorem okB_angle {c : UInt8} (h : c = 60 ∨ c = 62) : okB c = false := by rcases h with rfl | rfl <;> decide

theorem ext_to_end (s : ByteArray) (j : Nat) : (s.extract j s.size).toList = s.toList.drop j := by
  rw [sub_toList, List.take_of_length_le]
  rw [List.length_drop, sz_toList]; omega

theorem Read_l (s : ByteArray) (hs : s.size ≤ 400) : ∀ (n j : Nat) (acc : List ByteArray), s.toList.length ≤ j + n → j ≤ s.toList.length → acc.length ≤ j →
    Ev (fun k => syms_Read.l0 k s acc (j : Int)) (readR acc (readL n (s.toList.drop j))) := by
  have hl := sz_toList s
  intro n
  induction n with
  | zero =>
    intro j acc hj hj2 ha
    refine Ev.step (fun k => syms_Read.l0.eq_2 _ _ _ _) ?_
    simp only [show ¬ ((j : Int) < (s.size : Int)) from by omega, if_false]
    rw [List.drop_eq_nil_of_le (by omega), readL, readR, List.append_nil]
    by_cases h : 60 < acc.length
    · simp only [h, show (acc.length : Int) > 60 from by omega, if_true]; exact Ev.now _
    · simp only [h, show ¬ ((acc.length : Int) > 60) from by omega, if_false]; exact Ev.now _
  | succ n ih =>
    intro j acc hj hj2 ha
    refine Ev.step (fun k => syms_Read.l0.eq_2 _ _ _ _) ?_
    rcases Nat.lt_or_ge j s.toList.length with hj' | hj'
    · rw [bt_nat s hj', wrap_succ (j := j) (by omega), List.drop_eq_getElem_cons hj', readL]
      simp only [show ((j : Int) < (s.size : Int)) from by omega, show (0 : Int) ≤ (j : Int) from by omega, show (j : Int) ≤ (s.size : Int) from by omega, Int.toNat_natCast, if_true]
      by_cases hc : s.toList[j] = 60
      · have hci : ((s.toList[j].toNat : Nat) : Int) = 60 := by rw [hc]; rfl
        rw [if_pos hc]
        simp only [hci, if_true]
        have hidx : strings_IndexByte.f (s.extract j s.size) 62 = some (if (body (s.toList.drop (j + 1))).length = (s.toList.drop (j + 1)).length then (-1 : Int) else (((body (s.toList.drop (j + 1))).length + 1 : Nat) : Int)) := by
          unfold strings_IndexByte.f
          rw [← Lib.toList_data, ext_to_end, List.drop_eq_getElem_cons hj', hc, Lib.indexByte]
          have := index_body (s.toList.drop (j + 1))
          rw [show ((62 : Int).toNat.toUInt8) = 62 from rfl, this]
          by_cases h : (body (s.toList.drop (j + 1))).length = (s.toList.drop (j + 1)).length
          · simp [h]
          · simp only [h, if_false]
            have : (((body (s.toList.drop (j + 1))).length : Int) == -1) = false := beq_eq_false_iff_ne.2 (by omega)
            simp [this]
        rw [hidx]
        simp only [Option.bind_some]
        have hble := body_le (s.toList.drop (j + 1))
        have hbt := body_take (s.toList.drop (j + 1))
        have hdl : (s.toList.drop (j + 1)).length = s.toList.length - (j + 1) := List.length_drop
        generalize hB : body (s.toList.drop (j + 1)) = B at *
        by_cases h1 : B.length = (s.toList.drop (j + 1)).length
        · simp only [h1, if_true, show ((-1 : Int) < 3) from by omega]
          exact Ev.now _
        · simp only [h1, if_false]
          by_cases h2 : B.length < 2
          · simp only [h2, show (((B.length + 1 : Nat) : Int) < 3) from by omega, if_true]; exact Ev.now _
          · simp only [h2, show ¬ (((B.length + 1 : Nat) : Int) < 3) from by omega, if_false]
            by_cases h3 : 16 < B.length
            · simp only [h3, show (((B.length + 1 : Nat) : Int) > 17) from by omega, if_true]; exact Ev.now _
            · obtain ⟨e1, e2, e3⟩ : wrap64 ((j : Int) + ((B.length + 1 : Nat) : Int)) = ((j + 1 + B.length : Nat) : Int) ∧ wrap64 (((B.length + 1 : Nat) : Int) + 1) = ((B.length + 2 : Nat) : Int) ∧ wrap64 ((j : Int) + ((B.length + 2 : Nat) : Int)) = ((j + 1 + (B.length + 1) : Nat) : Int) :=
                ⟨wrap_of (by omega) (by omega), wrap_of (by omega) (by omega), wrap_of (by omega) (by omega)⟩
              have f1 : ((j + 1 : Nat) : Int) ≤ ((j + 1 + B.length : Nat) : Int) := by clear e1 e2 e3; omega
              have f2 : ((j + 1 + B.length : Nat) : Int) ≤ (s.size : Int) := by clear e1 e2 e3; omega
              have f3 : ¬ (((B.length + 1 : Nat) : Int) > 17) := by clear e1 e2 e3; omega
              have f4 : (0 : Int) ≤ ((j + 1 : Nat) : Int) := by clear e1 e2 e3; omega
              simp only [h3, f3, if_false, e1, e2, e3, f4, f1, f2, if_true, Int.toNat_natCast]
              clear e1 e2 e3 f1 f2 f3 f4
              have hx : s.extract (j + 1) (j + 1 + B.length) = ⟨B.toArray⟩ := by rw [sub_eq, Nat.add_sub_cancel_left, hbt]
              rw [hx]
              refine Ev.bind (isSymbol_ev ⟨B.toArray⟩ (by rw [← sz_toList, toList_mk]; omega)) ?_
              have he : isSym ⟨B.toArray⟩ = B.all okB := by
                rw [isSym, toList_mk]
                cases B with
                | nil => simp at h2
                | cons => simp
              rw [he]
              cases B.all okB with
              | false => simp only [Bool.false_eq_true, if_false]; exact Ev.now _
              | true =>
                simp only [if_true, show acc.length < 8796093022208 from by omega]
                have := ih (j + 1 + (B.length + 1)) (acc ++ [⟨B.toArray⟩]) (by omega) (by omega) (by simp; omega)
                rw [List.drop_drop]
                refine ev_cast this ?_
                cases readL n (s.toList.drop (j + 1 + (B.length + 1))) with
                | none => rfl
                | some w => simp [readR]
      · have hci : ¬ ((s.toList[j].toNat : Nat) : Int) = 60 := by
          intro e
          exact hc (UInt8.toNat_inj.1 (by have : (60 : UInt8).toNat = 60 := rfl; omega))
        rw [if_neg hc]
        simp only [hci, if_false, show (j : Int) ≤ ((j + 1 : Nat) : Int) from by omega, show ((j + 1 : Nat) : Int) ≤ (s.size : Int) from by omega, if_true]
        have hx : s.extract j (j + 1) = ⟨[s.toList[j]].toArray⟩ := by
          rw [sub_eq, List.drop_eq_getElem_cons hj', Nat.add_sub_cancel_left, List.take_succ_cons, List.take_zero]
        rw [hx]
        refine Ev.bind (isSymbol_ev ⟨[s.toList[j]].toArray⟩ (by rw [← sz_toList, toList_mk]; exact Nat.le_trans (Nat.le_refl 1) (by omega))) ?_
        rw [isSym_one]
        cases okB s.toList[j] with
        | false => simp only [Bool.false_eq_true, if_false]; exact Ev.now _
        | true =>
          simp only [if_true, show acc.length < 8796093022208 from by omega]
          refine ev_cast (ih (j + 1) (acc ++ [⟨[s.toList[j]].toArray⟩]) (by omega) (by omega) (by simp; omega)) ?_
          cases readL n (s.toList.drop (j + 1)) with
          | none => rfl
          | some w => simp [readR]
    · simp only [show ¬ ((j : Int) < (s.size : Int)) from by omega, if_false]
      rw [List.drop_eq_nil_of_le (by omega), readL, readR, List.append_nil]
      by_cases h : 60 < acc.length
      · simp only [h, show (acc.length : Int) > 60 from by omega, if_true]; exact Ev.now _
      · simp only [h, show ¬ ((acc.length : Int) > 60) from by omega, if_false]; exact Ev.now _
theorem syms_Read_ev (s : ByteArray) : Ev (fun k => syms_Read.f k s) (readW s) := by
  unfold syms_Read.f readW
  by_cases h : 400 < s.size
  · simp only [h, show (s.size : Int) > 400 from by omega, if_true]; exact Ev.now _
  · simp only [h, show ¬ ((s.size : Int) > 400) from by omega, if_false]
    simpa using Read_l s (by omega) s.size 0 [] (by rw [sz_toList]; omega) (by omega) (by simp)

/-! ### the reference's reader -/
def cutR (acc : List ByteArray) : Option (List ByteArray) → List ByteArray × Bool
  | none => ([], false)
  | some w => (acc ++ w, true)

theorem body_ne (l : List UInt8) {m : Nat} (h : m < (body l).length) (h2 : m < l.length) : l[m] ≠ 62 := by
  have e : (l.take (body l).length)[m]'(by rw [List.length_take]; omega) = l[m] := List.getElem_take
  rw [← e]
  have := body_no l ((body l)[m]) (List.getElem_mem h)
  simpa only [body_take] using this

theorem Cut_l1 (s : ByteArray) (hs : s.size ≤ 400) (n j : Nat) (acc : List ByteArray) (hj : j < s.toList.length) (ha : acc.length ≤ j)
    (ih : ∀ (i : Nat) (acc : List ByteArray), j < i → i ≤ s.toList.length → acc.length ≤ i → Ev (fun k => ablautref01_Cut.l0 k s acc (i : Int)) (cutR acc (readL n (s.toList.drop i)))) :
    ∀ (d m : Nat), m + d = (body (s.toList.drop (j + 1))).length →
      Ev (fun k => ablautref01_Cut.l1 k s acc (j : Int) ((j + 1 + m : Nat) : Int)) (cutR acc (if (body (s.toList.drop (j + 1))).length = (s.toList.drop (j + 1)).length then none else if (body (s.toList.drop (j + 1))).length < 2 then none else if 16 < (body (s.toList.drop (j + 1))).length then none else if (body (s.toList.drop (j + 1))).all okB then (readL n ((s.toList.drop (j + 1)).drop ((body (s.toList.drop (j + 1))).length + 1))).map (fun w => ⟨(body (s.toList.drop (j + 1))).toArray⟩ :: w) else none)) := by
  have hl := sz_toList s
  have hble := body_le (s.toList.drop (j + 1))
  have hbt := body_take (s.toList.drop (j + 1))
  have hdl : (s.toList.drop (j + 1)).length = s.toList.length - (j + 1) := List.length_drop
  have hat := body_at (s.toList.drop (j + 1))
  have hne := @body_ne (s.toList.drop (j + 1))
  generalize hB : body (s.toList.drop (j + 1)) = B at *
  intro d
  induction d with
  | zero =>
    intro m hm
    refine Ev.step (fun k => ablautref01_Cut.l1.eq_2 _ _ _ _ _) ?_
    by_cases h1 : B.length = (s.toList.drop (j + 1)).length
    · simp only [h1, if_true, show (((j + 1 + m : Nat) : Int) = (s.size : Int)) from by omega, show ¬ ((s.size : Int) < (s.size : Int)) from by omega, if_false]
      exact Ev.now _
    · have hlt : j + 1 + m < s.toList.length := by omega
      have h62 : s.toList[j + 1 + m] = 62 := by
        have := hat (by omega)
        rw [List.getElem_drop] at this
        simpa only [show j + 1 + m = j + 1 + B.length by omega] using this
      have hw : wrap64 (((j + 1 + m : Nat) : Int) - (j : Int)) = ((m + 1 : Nat) : Int) ∧ wrap64 ((j : Int) + 1) = ((j + 1 : Nat) : Int) ∧ wrap64 (((j + 1 + m : Nat) : Int) + 1) = ((j + 1 + (B.length + 1) : Nat) : Int) := ⟨wrap_of (by omega) (by omega), wrap_of (by omega) (by omega), wrap_of (by omega) (by omega)⟩
      rw [bt_nat s hlt, h62]
      simp only [hw.1, hw.2.1, hw.2.2]
      clear hw
      simp only [show (((j + 1 + m : Nat) : Int) < (s.size : Int)) from by omega, show (0 : Int) ≤ ((j + 1 + m : Nat) : Int) from by omega, show (((62 : UInt8).toNat : Int) = 62) from rfl, show ¬ (((j + 1 + m : Nat) : Int) = (s.size : Int)) from by omega, if_true, if_false, h1]
      by_cases h2 : B.length < 2
      · simp only [h2, show (((m + 1 : Nat) : Int) < 3) from by omega, if_true]; exact Ev.now _
      · have hx : s.extract (j + 1) (j + 1 + m) = ⟨B.toArray⟩ := by rw [sub_eq, Nat.add_sub_cancel_left, show m = B.length by omega, hbt]
        simp only [h2, show ¬ (((m + 1 : Nat) : Int) < 3) from by omega, show (0 : Int) ≤ ((j + 1 : Nat) : Int) from by omega, show ((j + 1 : Nat) : Int) ≤ ((j + 1 + m : Nat) : Int) from by omega, show ((j + 1 + m : Nat) : Int) ≤ (s.size : Int) from by omega, if_true, if_false, Int.toNat_natCast, hx]
        have hbs : (⟨B.toArray⟩ : ByteArray).size = B.length := by rw [← sz_toList, toList_mk]
        refine Ev.bind (IsSymbol_any ⟨B.toArray⟩ (by omega)) ?_
        have he : (isSym ⟨B.toArray⟩ && !isLong ⟨B.toArray⟩) = (B.all okB && decide (B.length ≤ 16)) := by
          rw [isSym, toList_mk, isLong, hbs]
          have hne0 : B.isEmpty = false := by cases B with | nil => simp at h2 | cons => rfl
          rw [hne0]
          by_cases h16 : B.length ≤ 16
          · simp [h16, show ¬ ((16 : Int) < (B.length : Int)) from by omega]
          · simp [h16, show ((16 : Int) < (B.length : Int)) from by omega]
        rw [he]
        by_cases h3 : 16 < B.length
        · simp only [h3, if_true, show ¬ (B.length ≤ 16) from by omega, decide_false, Bool.and_false, Bool.false_eq_true, if_false]
          exact Ev.now _
        · simp only [h3, if_false, show (B.length ≤ 16) from by omega, decide_true, Bool.and_true]
          cases B.all okB with
          | false => simp only [Bool.false_eq_true, if_false]; exact Ev.now _
          | true =>
            simp only [if_true, show acc.length < 8796093022208 from by omega]
            have := ih (j + 1 + (B.length + 1)) (acc ++ [⟨B.toArray⟩]) (by omega) (by omega) (by simp; omega)
            rw [List.drop_drop]
            refine ev_cast this ?_
            cases readL n (s.toList.drop (j + 1 + (B.length + 1))) with
            | none => rfl
            | some w => simp [cutR]
  | succ d ihd =>
    intro m hm
    have hlt : j + 1 + m < s.toList.length := by omega
    have h62 : ¬ (((s.toList[j + 1 + m]).toNat : Nat) : Int) = 62 := by
      have := hne (m := m) (by omega) (by omega)
      rw [List.getElem_drop] at this
      intro e
      exact this (UInt8.toNat_inj.1 (by have : (62 : UInt8).toNat = 62 := rfl; omega))
    refine Ev.step (fun k => ablautref01_Cut.l1.eq_2 _ _ _ _ _) ?_
    have hw : wrap64 (((j + 1 + m : Nat) : Int) + 1) = ((j + 1 + (m + 1) : Nat) : Int) := wrap_of (by omega) (by omega)
    rw [bt_nat s hlt, hw]
    clear hw
    simp only [show (((j + 1 + m : Nat) : Int) < (s.size : Int)) from by omega, show (0 : Int) ≤ ((j + 1 + m : Nat) : Int) from by omega, if_true, h62, if_false]
    exact ihd (m + 1) (by omega)

theorem Cut_l (s : ByteArray) (hs : s.size ≤ 400) : ∀ (n j : Nat) (acc : List ByteArray), s.toList.length ≤ j + n → j ≤ s.toList.length → acc.length ≤ j →
    Ev (fun k => ablautref01_Cut.l0 k s acc (j : Int)) (cutR acc (readL n (s.toList.drop j))) := by
  have hl := sz_toList s
  intro n
  induction n with
  | zero =>
    intro j acc hj hj2 ha
    refine Ev.step (fun k => ablautref01_Cut.l0.eq_2 _ _ _ _) ?_
    simp only [show ¬ ((j : Int) < (s.size : Int)) from by omega, if_false]
    rw [List.drop_eq_nil_of_le (by omega), readL, cutR, List.append_nil]
    exact Ev.now _
  | succ n ih =>
    intro j acc hj hj2 ha
    refine Ev.step (fun k => ablautref01_Cut.l0.eq_2 _ _ _ _) ?_
    rcases Nat.lt_or_ge j s.toList.length with hj' | hj'
    · have hw : wrap64 ((j : Int) + 1) = ((j + 1 : Nat) : Int) := wrap_of (by omega) (by omega)
      rw [bt_nat s hj', List.drop_eq_getElem_cons hj', readL]
      simp only [show ((j : Int) < (s.size : Int)) from by omega, show (0 : Int) ≤ (j : Int) from by omega, if_true]
      have hj1 : Ev (fun k => ablautref01_Cut.j1 k s acc (j : Int) true) (cutR acc none) := Ev.step (fun k => ablautref01_Cut.j1.eq_2 _ _ _ _ _) (by simpa [cutR] using Ev.now _)
      by_cases hc : s.toList[j] = 60
      · have h60 : (((60 : UInt8).toNat : Nat) : Int) = 60 := rfl
        rw [if_pos hc]
        simp only [hc, h60, show ¬ ((60 : Int) < 33) from by decide, show ¬ ((60 : Int) > 126) from by decide, if_false]
        refine Ev.step (fun k => ablautref01_Cut.j1.eq_2 _ _ _ _ _) ?_
        rw [bt_nat s hj', hw, hc]
        clear hw
        simp only [h60, show ((60 : Int) == 62) = false from by decide, Bool.false_eq_true, show ((j : Int) < (s.size : Int)) from by omega, show (0 : Int) ≤ (j : Int) from by omega, if_true, if_false]
        exact Cut_l1 s hs n j acc hj' ha (fun i acc hi h2 h3 => ih i acc (by omega) h2 h3) (body (s.toList.drop (j + 1))).length 0 (by omega)
      · rw [if_neg hc]
        have hcn : ¬ ((s.toList[j].toNat : Nat) : Int) = 60 := by
          intro e
          exact hc (UInt8.toNat_inj.1 (by have : (60 : UInt8).toNat = 60 := rfl; omega))
        have hok : okB s.toList[j] = (decide (33 ≤ ((s.toList[j].toNat : Nat) : Int)) && decide (((s.toList[j].toNat : Nat) : Int) ≤ 126) && decide (((s.toList[j].toNat : Nat) : Int) ≠ 62)) := by
          unfold okB
          simp [hcn]
        have hx : s.extract j (j + 1) = ⟨[s.toList[j]].toArray⟩ := by
          rw [sub_eq, List.drop_eq_getElem_cons hj', Nat.add_sub_cancel_left, List.take_succ_cons, List.take_zero]
        rw [hok]
        have hgo : Ev (fun k => ablautref01_Cut.j1 k s acc (j : Int) false) (cutR acc ((readL n (s.toList.drop (j + 1))).map (fun w => ⟨[s.toList[j]].toArray⟩ :: w))) := by
          refine Ev.step (fun k => ablautref01_Cut.j1.eq_2 _ _ _ _ _) ?_
          rw [bt_nat s hj', hw]
          clear hw
          simp only [Bool.false_eq_true, hcn, show ((j : Int) < (s.size : Int)) from by omega, show (0 : Int) ≤ (j : Int) from by omega, show (j : Int) ≤ ((j + 1 : Nat) : Int) from by omega, show ((j + 1 : Nat) : Int) ≤ (s.size : Int) from by omega, show acc.length < 8796093022208 from by omega, if_true, if_false, Int.toNat_natCast, hx]
          refine ev_cast (ih (j + 1) (acc ++ [⟨[s.toList[j]].toArray⟩]) (by omega) (by omega) (by simp; omega)) ?_
          cases readL n (s.toList.drop (j + 1)) with
          | none => rfl
          | some w => simp [cutR]
        generalize ((s.toList[j].toNat : Nat) : Int) = b at *
        by_cases h1 : b < 33
        · simp only [h1, show ¬ (33 ≤ b) from by omega, decide_false, Bool.false_and, Bool.false_eq_true, if_true, if_false]; exact hj1
        · by_cases h2 : b > 126
          · simp only [h1, h2, show ¬ (b ≤ 126) from by omega, decide_false, Bool.and_false, Bool.false_and, Bool.false_eq_true, if_true, if_false]; exact hj1
          · by_cases h3 : b = 62
            · subst h3
              simp only [h1, h2, if_false, beq_self_eq_true]
              simp
              exact hj1
            · simp only [h1, h2, if_false, show (b == 62) = false from beq_eq_false_iff_ne.2 h3, show 33 ≤ b from by omega, show b ≤ 126 from by omega, h3, ne_eq, not_false_eq_true, decide_true, Bool.and_true, if_true]
              exact hgo
    · simp only [show ¬ ((j : Int) < (s.size : Int)) from by omega, if_false]
      rw [List.drop_eq_nil_of_le (by omega), readL, cutR, List.append_nil]
      exact Ev.now _

theorem ref_Read_ev (s : ByteArray) : Ev (fun k => ablautref01_Read.f k s) (readW s) := by
  unfold ablautref01_Read.f readW
  by_cases h : 400 < s.size
  · simp only [h, show (s.size : Int) > 400 from by omega, if_true]; exact Ev.now _
  · simp only [h, show ¬ ((s.size : Int) > 400) from by omega, if_false]
    have hc : Ev (fun k => ablautref01_Cut.f k s) (cutR [] (readL s.size s.toList)) := by
      simpa [ablautref01_Cut.f] using Cut_l s (by omega) s.size 0 [] (by rw [sz_toList]; omega) (by omega) (by simp)
    refine Ev.bind hc ?_
    cases readL s.size s.toList with
    | none => simp only [cutR, readR, Bool.false_eq_true, if_false]; exact Ev.now _
    | some w =>
      simp only [cutR, readR, if_true, List.nil_append]
      by_cases h6 : 60 < w.length
      · simp only [h6, show (w.length : Int) > 60 from by omega, if_true]; exact Ev.now _
      · simp only [h6, show ¬ ((w.length : Int) > 60) from by omega, if_false]; exact Ev.now _

end Go.Proofs.Ytlncfkgodioocaa.P
