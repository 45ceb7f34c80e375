/- For every text and every list SymsCuts answers true: a text that is cut is the raw text of its symbols, which are of the alphabet, and there is a way then; symbols of one byte are cut in just one way. -/
import Derived.Test.YtlncfkgodioocaaS7
import Derived.Test.YtlncfkgodioocaaS8
import Derived.Test.YtlncfkgodioocaaP9
namespace Go.Proofs.Ytlncfkgodioocaa.P
open Go.RowKit Go.Proofs.YtlncfkgodioocaaW.PrintWords Go.Proofs.YtlncfkgodioocaaW.PrintMore
set_option linter.unusedVariables false

theorem best_mem (r : List UInt8) : ∀ (l : List ByteArray) (b : ByteArray), best r b l = b ∨ best r b l ∈ l
  | [], _ => .inl rfl
  | x :: l, b => by
    rw [best]
    split
    · rcases best_mem r l x with h | h
      · rw [h]; exact .inr (by simp)
      · exact .inr (by simp [h])
    · rcases best_mem r l b with h | h
      · exact .inl h
      · exact .inr (by simp [h])
theorem best_none (r : List UInt8) : ∀ (l : List ByteArray) (b : ByteArray), (∀ x ∈ l, pref x r = false) → best r b l = b
  | [], _, _ => rfl
  | x :: l, b, h => by
    rw [best, h x (by simp), Bool.and_false]
    exact best_none r l b (fun y hy => h y (by simp [hy]))
theorem best_ge (r : List UInt8) : ∀ (l : List ByteArray) (b : ByteArray), b.size ≤ (best r b l).size ∧ ∀ x ∈ l, pref x r = true → x.size ≤ (best r b l).size
  | [], _ => ⟨Nat.le_refl _, by simp⟩
  | x :: l, b => by
    rw [best]
    by_cases hp : pref x r = true
    · by_cases hlt : b.size < x.size
      · rw [hp, if_pos (by simp [hlt])]
        obtain ⟨h1, h2⟩ := best_ge r l x
        refine ⟨by omega, fun y hy hpy => ?_⟩
        rcases List.mem_cons.1 hy with rfl | hy
        · exact h1
        · exact h2 y hy hpy
      · rw [if_neg (by simp [hlt])]
        obtain ⟨h1, h2⟩ := best_ge r l b
        refine ⟨h1, fun y hy hpy => ?_⟩
        rcases List.mem_cons.1 hy with rfl | hy
        · omega
        · exact h2 y hy hpy
    · rw [if_neg (by simp [hp])]
      obtain ⟨h1, h2⟩ := best_ge r l b
      refine ⟨h1, fun y hy hpy => ?_⟩
      rcases List.mem_cons.1 hy with rfl | hy
      · exact absurd hpy hp
      · exact h2 y hy hpy

/-! ### where a text is cut, there is a way -/
theorem vecW_drop (sigma : List ByteArray) : ∀ (m : Nat) (r : List UInt8), m ≤ r.length → (vecW sigma r).getD m 0 = (vecW sigma (r.drop m)).getD 0 0
  | 0, _, _ => by rw [List.drop_zero]
  | m + 1, [], h => by simp at h
  | m + 1, c :: t, h => by
    rw [vecW, List.drop_succ_cons, ← vecW_drop sigma m t (by simpa using h)]
    simp [List.getD_eq_getElem?_getD]
theorem foldW_keep {r : List UInt8} {v : List Int} (hv : goodV v) : ∀ (l : List ByteArray) (cur : Int), 1 ≤ cur → cur ≤ 1000000000 → 1 ≤ l.foldl (stepW r v) cur
  | [], _, h, _ => h
  | x :: l, cur, h, h2 => by
    have hg := getD_good hv (x.size - 1)
    refine foldW_keep hv l _ ?_ (stepW_good hv (by omega) x).2
    unfold stepW mn
    split
    · split <;> omega
    · exact h
theorem foldW_one {r : List UInt8} {v : List Int} (hv : goodV v) (b : ByteArray) (hp : pref b r = true) (h1 : 1 ≤ v.getD (b.size - 1) 0) : ∀ (l : List ByteArray) (cur : Int), b ∈ l → 0 ≤ cur ∧ cur ≤ 1000000000 → 1 ≤ l.foldl (stepW r v) cur
  | [], _, h, _ => by simp at h
  | x :: l, cur, h, hc => by
    rw [List.foldl_cons]
    rcases List.mem_cons.1 h with rfl | h
    · refine foldW_keep hv l _ ?_ (stepW_good hv hc b).2
      rw [stepW, if_pos hp]
      unfold mn
      split <;> omega
    · exact foldW_one hv b hp h1 l _ h (stepW_good hv hc x)

theorem splitR_ok (sigma : List ByteArray) (hpos : ∀ x ∈ sigma, 0 < x.size) : ∀ (n j : Nat) (r : List UInt8) (acc : List ByteArray), r.length < n → (splitR sigma n j r acc).2.2 = 0 →
    ∃ w, (splitR sigma n j r acc).1 = acc ++ w ∧ joined w = r ∧ (∀ x ∈ w, x ∈ sigma) ∧ (acc ++ w).length ≤ 60 ∧ 1 ≤ (vecW sigma r).getD 0 0
  | 0, _, _, _, h, _ => by omega
  | n + 1, j, [], acc, _, h => by
    rw [splitR] at h ⊢
    by_cases h6 : 60 < acc.length
    · rw [if_pos h6] at h; simp at h
    · rw [if_neg h6]
      exact ⟨[], by simp, rfl, by simp, by simp; omega, by simp [vecW]⟩
  | n + 1, j, c :: t, acc, hn, h => by
    rw [splitR] at h ⊢
    have hbp := best_pref (c :: t) sigma ⟨#[]⟩ (pref_nil _)
    have hbm := best_mem (c :: t) sigma ⟨#[]⟩
    generalize hb : best (c :: t) ⟨#[]⟩ sigma = b at *
    by_cases he : b.toList = []
    · rw [if_pos he] at h; simp at h
    · rw [if_neg he] at h ⊢
      have hmem : b ∈ sigma := by
        rcases hbm with h | h
        · exact absurd (by rw [h]; simp [Lib.toList_data]) he
        · exact h
      have hp := hpos b hmem
      have hle := pref_le hbp
      simp only [List.length_cons] at hn hle
      obtain ⟨w, e1, e2, e3, e4, e5⟩ := splitR_ok sigma hpos n _ _ _ (by rw [List.length_drop, List.length_cons]; omega) h
      refine ⟨b :: w, by rw [e1]; simp, ?_, ?_, by simpa using e4, ?_⟩
      · have : joined (b :: w) = b.toList ++ joined w := by simp [joined]
        rw [this, e2]
        exact (pref_eq hbp).symm
      · intro x hx
        rcases List.mem_cons.1 hx with rfl | hx
        · exact hmem
        · exact e3 x hx
      · rw [vecW]
        refine foldW_one (vecW_good sigma t) b hbp ?_ sigma 0 hmem (by omega)
        obtain ⟨m, hm⟩ : ∃ m, b.size = m + 1 := ⟨b.size - 1, by omega⟩
        rw [hm, List.drop_succ_cons] at e5
        rw [hm, Nat.add_sub_cancel, vecW_drop sigma m t (by omega)]
        exact e5

/-! ### symbols of one byte -/
theorem one_pref {x : ByteArray} (h : x.size = 1) (c : UInt8) (t : List UInt8) : pref x (c :: t) = true ↔ x.toList = [c] := by
  rw [pref, h, beq_iff_eq]
  simp only [List.take_succ_cons, List.take_zero]
  exact eq_comm
theorem isSet_lt : ∀ (l : List ByteArray) (x : ByteArray), isSet (x :: l) = true → ∀ y ∈ l, lt x y = true
  | [], _, _, y, hy => by simp at hy
  | z :: l, x, h, y, hy => by
    rw [isSet, Bool.and_eq_true] at h
    rcases List.mem_cons.1 hy with rfl | hy
    · exact h.1
    · exact lt_trans h.1 (isSet_lt l z h.2 y hy)
theorem isSet_tail {l : List ByteArray} {x : ByteArray} (h : isSet (x :: l) = true) : isSet l = true := by
  cases l with
  | nil => rfl
  | cons y l => rw [isSet, Bool.and_eq_true] at h; exact h.2
theorem foldW_same {r : List UInt8} {v : List Int} : ∀ (l : List ByteArray) (cur : Int), (∀ x ∈ l, pref x r = false) → l.foldl (stepW r v) cur = cur
  | [], _, _ => rfl
  | x :: l, cur, h => by
    rw [List.foldl_cons, stepW, h x (by simp)]
    exact foldW_same l cur (fun y hy => h y (by simp [hy]))
theorem foldW_unique {c : UInt8} {t : List UInt8} {v : List Int} (hv : v.getD 0 0 = 0 ∨ v.getD 0 0 = 1) : ∀ (l : List ByteArray), isSet l = true → (∀ x ∈ l, x.size = 1) →
    l.foldl (stepW (c :: t) v) 0 = if l.any (fun x => pref x (c :: t)) then v.getD 0 0 else 0
  | [], _, _ => rfl
  | x :: l, hs, h1 => by
    rw [List.foldl_cons, List.any_cons]
    cases hp : pref x (c :: t) with
    | true =>
      have hx1 := h1 x (by simp)
      have hno : ∀ y ∈ l, pref y (c :: t) = false := by
        intro y hy
        cases hpy : pref y (c :: t) with
        | false => rfl
        | true =>
          have e1 := (one_pref hx1 c t).1 hp
          have e2 := (one_pref (h1 y (by simp [hy])) c t).1 hpy
          exact absurd (toList_inj (e1.trans e2.symm)) (lt_ne (isSet_lt l x hs y hy))
      rw [foldW_same l _ hno, stepW, if_pos hp, hx1]
      simp only [Bool.true_or, if_true, Nat.sub_self]
      unfold mn
      rcases hv with h | h <;> rw [h] <;> rfl
    | false =>
      rw [stepW, hp]
      simp only [Bool.false_eq_true, if_false, Bool.false_or]
      exact foldW_unique hv l (isSet_tail hs) (fun y hy => h1 y (by simp [hy]))
theorem vecW_single (sigma : List ByteArray) (hs : isSet sigma = true) (h1 : ∀ x ∈ sigma, x.size = 1) : ∀ r, (vecW sigma r).getD 0 0 = 0 ∨ (vecW sigma r).getD 0 0 = 1
  | [] => .inr rfl
  | c :: t => by
    have ih := vecW_single sigma hs h1 t
    rw [vecW, List.getD_cons_zero, foldW_unique ih sigma hs h1]
    split
    · exact ih
    · exact .inl rfl
theorem splitR_single (sigma : List ByteArray) (hs : isSet sigma = true) (h1 : ∀ x ∈ sigma, x.size = 1) : ∀ (n j : Nat) (r : List UInt8) (acc : List ByteArray), r.length < n → (vecW sigma r).getD 0 0 = 0 → (splitR sigma n j r acc).2.2 = 4
  | 0, _, _, _, h, _ => by omega
  | n + 1, j, [], acc, _, h => by simp [vecW] at h
  | n + 1, j, c :: t, acc, hn, h => by
    rw [vecW, List.getD_cons_zero, foldW_unique (vecW_single sigma hs h1 t) sigma hs h1] at h
    rw [splitR]
    by_cases hany : sigma.any (fun x => pref x (c :: t)) = true
    · rw [if_pos hany] at h
      obtain ⟨x, hx, hpx⟩ := List.any_eq_true.1 hany
      have hge := (best_ge (c :: t) sigma ⟨#[]⟩).2 x hx hpx
      have hbm := best_mem (c :: t) sigma ⟨#[]⟩
      generalize best (c :: t) ⟨#[]⟩ sigma = b at *
      have hx1 := h1 x hx
      have hb1 : b.size = 1 := by
        rcases hbm with e | e
        · have h00 : x.size ≤ 0 := by rw [e] at hge; exact hge
          omega
        · exact h1 b e
      have hne : ¬ b.toList = [] := by
        intro e
        have := sz_toList b
        rw [e] at this
        simp at this; omega
      rw [if_neg hne, hb1]
      simp only [List.length_cons] at hn
      exact splitR_single sigma hs h1 n _ _ _ (by rw [List.drop_succ_cons, List.drop_zero]; omega) (by rw [List.drop_succ_cons, List.drop_zero]; exact h)
    · have hall : ∀ x ∈ sigma, pref x (c :: t) = false := by
        intro x hx
        cases hp : pref x (c :: t) with
        | false => rfl
        | true => exact absurd (List.any_eq_true.2 ⟨x, hx, hp⟩) hany
      rw [best_none (c :: t) sigma ⟨#[]⟩ hall, if_pos (by simp [Lib.toList_data])]

theorem Cuts_yes (s : ByteArray) (sigma : List ByteArray) (h : (splitW s sigma).2.2 = 0) :
    rawW (splitW s sigma).1 = (s, 0) ∧ ((splitW s sigma).1.all fun x => isIn x sigma) = true ∧ (cutsW s sigma).2 = 0 ∧ 1 ≤ (cutsW s sigma).1 := by
  unfold splitW at h ⊢
  by_cases hv : vSigma sigma = 0
  · rw [if_pos hv] at h ⊢
    by_cases h4 : 400 < s.size
    · rw [if_pos h4] at h; simp at h
    · rw [if_neg h4] at h ⊢
      obtain ⟨_, hlong, hall, hset⟩ := vSigma_ok hv
      obtain ⟨w, e1, e2, e3, e4, e5⟩ := splitR_ok sigma (sym_pos hall) _ _ _ _ (by rw [sz_toList]; omega) h
      rw [List.nil_append] at e1 e4
      rw [e1]
      have hw : vWord w = 0 := vWord_zero e4 (fun x hx => ⟨List.all_eq_true.1 hall x (e3 x hx), short_of sigma hlong x (e3 x hx)⟩)
      refine ⟨?_, List.all_eq_true.2 (fun x hx => (isIn_iff x sigma).2 (e3 x hx)), ?_, ?_⟩
      · rw [rawW, if_pos hw, e2, mk_toList]
      · unfold cutsW; rw [if_pos hv, if_neg h4]
      · unfold cutsW; rw [if_pos hv, if_neg h4]; exact e5
  · rw [if_neg hv] at h; exact absurd h hv
theorem Cuts_one (s : ByteArray) (sigma : List ByteArray) (h : (cutsW s sigma).2 = 0) (h1 : ∀ x ∈ sigma, x.size = 1) : (cutsW s sigma).1 = 1 ∨ ((cutsW s sigma).1 = 0 ∧ (splitW s sigma).2.2 = 4) := by
  unfold cutsW at h ⊢
  by_cases hv : vSigma sigma = 0
  · rw [if_pos hv] at h ⊢
    by_cases h4 : 400 < s.size
    · rw [if_pos h4] at h; simp at h
    · rw [if_neg h4]
      obtain ⟨_, _, _, hset⟩ := vSigma_ok hv
      rcases vecW_single sigma hset h1 s.toList with e | e
      · refine .inr ⟨e, ?_⟩
        unfold splitW
        rw [if_pos hv, if_neg h4]
        exact splitR_single sigma hset h1 _ _ _ _ (by rw [sz_toList]; omega) e
      · exact .inl e
  · rw [if_neg hv] at h; exact absurd h hv

theorem SymsCuts_l0 (l : List ByteArray) (hlen : l.length ≤ 9223372036854775807) (e n f : Int) (hf : ((∀ x ∈ l, x.size = 1) → n = 1 ∨ (n = 0 ∧ e = 4))) : ∀ (d j : Nat) (one : Bool), l.length = j + d → (one = true → ∀ x ∈ l.take j, x.size = 1) →
    (f ≠ 0 → one = false) → Ev (fun k => ablautlaw01_SymsCuts.l0 k l e n one (j : Int)) true := by
  intro d
  induction d with
  | zero =>
    intro j one hj h1 h2
    refine Ev.step (fun k => ablautlaw01_SymsCuts.l0.eq_2 _ _ _ _ _ _) ?_
    simp only [show ¬ ((j : Int) < (l.length : Int)) from by omega, if_false, known_true, Option.bind_some]
    cases one with
    | false => simpa using Ev.now _
    | true =>
      have hall := h1 rfl
      rw [List.take_of_length_le (by omega)] at hall
      simp only [if_true]
      rcases hf hall with h | ⟨h, h'⟩
      · simp only [h, if_true]; exact Ev.now _
      · simp only [h, h', show ¬ ((0 : Int) = 1) from by decide, if_true, if_false]; exact Ev.now _
  | succ d ih =>
    intro j one hj h1 h2
    have hj' : j < l.length := by omega
    refine Ev.step (fun k => ablautlaw01_SymsCuts.l0.eq_2 _ _ _ _ _ _) ?_
    rw [rdOf_nat _ _ hj', wrap_succ (by omega)]
    simp only [show ((j : Int) < (l.length : Int)) from by omega, show (0 : Int) ≤ (j : Int) from by omega, if_true, known_true, Option.bind_some]
    cases one with
    | false => simpa using Ev.now _
    | true =>
      simp only [if_true]
      refine ih (j + 1) _ (by omega) ?_ ?_
      · intro hb x hx
        rw [List.take_succ_eq_append_getElem hj', List.mem_append, List.mem_singleton] at hx
        rcases hx with hx | rfl
        · exact h1 rfl x hx
        · have := beq_iff_eq.1 hb; omega
      · intro hf0
        have := h2 hf0
        cases this

theorem SymsCuts_ev (s : ByteArray) (l : List ByteArray) (_ : s.size ≤ 140737488351232) (hlen : l.length ≤ 9223372036854775807) (_ : l.length * 16 ≤ 140737488351232 ∧ ∀ x ∈ l, x.size ≤ 140737488351232) : Ev (fun k => ablautlaw01_SymsCuts.f k s l) true := by
  unfold ablautlaw01_SymsCuts.f
  have hyes : Ev (fun k => ablautlaw01_SymsCuts.j0 k s l true) true := Ev.step (fun k => ablautlaw01_SymsCuts.j0.eq_2 _ _ _ _) (by simpa [known_true] using Ev.now _)
  have hend : Ev (fun k => ablautlaw01_SymsCuts.j1 k l (splitW s l).2.2 (cutsW s l).1 (cutsW s l).2) true := by
    refine Ev.step (fun k => ablautlaw01_SymsCuts.j1.eq_2 _ _ _ _ _) ?_
    by_cases h0 : (cutsW s l).2 = 0
    · exact SymsCuts_l0 l hlen _ _ 0 (fun h1 => Cuts_one s l h0 h1) l.length 0 _ (by omega) (by simp) (by simp)
    · have : ((cutsW s l).2 == 0) = false := beq_eq_false_iff_ne.2 h0
      rw [this]
      rcases Nat.eq_zero_or_pos l.length with hz | hz
      · refine Ev.step (fun k => ablautlaw01_SymsCuts.l0.eq_2 _ _ _ _ _ _) ?_
        simp only [show ¬ ((0 : Int) < (l.length : Int)) from by omega, Bool.false_eq_true, if_false, known_true, Option.bind_some]
        exact Ev.now _
      · refine Ev.step (fun k => ablautlaw01_SymsCuts.l0.eq_2 _ _ _ _ _ _) ?_
        simp only [show ((0 : Int) < (l.length : Int)) from by omega, Bool.false_eq_true, if_true, if_false, known_true, Option.bind_some]
        exact Ev.now _
  have hno : Ev (fun k => ablautlaw01_SymsCuts.j0 k s l false) true := by
    refine Ev.step (fun k => ablautlaw01_SymsCuts.j0.eq_2 _ _ _ _) ?_
    simp only [Bool.false_eq_true, if_false]
    refine Ev.bind (syms_Split_ev s l hlen) ?_
    refine Ev.bind (syms_Cuts_ev s l hlen) ?_
    by_cases h : (splitW s l).2.2 = 0
    · obtain ⟨e1, e2, e3, e4⟩ := Cuts_yes s l h
      have hl60 := splitW_len s l
      simp only [syms_Raw_eq, e1, Option.bind_some, if_true, if_pos h]
      refine Ev.bind (syms_Is_ev _ l (by omega) hlen) ?_
      rw [e2]
      simp only [if_true]
      simp only [if_pos e3, if_neg (show ¬ ((cutsW s l).1 < 1) by omega)]
      exact hend
    · simp only [if_neg h]
      exact hend
  by_cases h : (s.size : Int) > 4000
  · simp only [h, if_true]; exact hyes
  · simp only [h, if_false]
    obtain ⟨b, hb, _⟩ := over_ev [l] (by simp)
    refine Ev.bind hb ?_
    cases b with
    | true => exact hyes
    | false => exact hno

end Go.Proofs.Ytlncfkgodioocaa.P
