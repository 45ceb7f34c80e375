/- Plain laws. -/
import Derived.Test.YtepjlojlkionfaaRv4
import Derived.Test.YtepjlojlkionfaaRt2
set_option linter.all false
set_option maxHeartbeats 2000000
namespace Go.Proofs
open Go Go.AM
/-! The least rows: what is cheapest. -/
theorem stA_pw : ∀ (l : List Bs) (p : Option Bs), stA p l = true → (∀ a, p = some a → ∀ s ∈ l, ltB a s = true) ∧ l.Pairwise (fun a b => ltB a b = true)
  | [], _, _ => ⟨by simp, List.Pairwise.nil⟩
  | s :: l, p, h => by
    have hs : stA (some s) l = true := by
      cases p with
      | none => exact h
      | some a => simp only [stA, Bool.and_eq_true] at h; exact h.2
    obtain ⟨h1, h2⟩ := stA_pw l (some s) hs
    refine ⟨fun a ha x hx => ?_, List.Pairwise.cons (h1 s rfl) h2⟩
    subst ha
    simp only [stA, Bool.and_eq_true] at h
    rcases List.mem_cons.1 hx with rfl | hx
    · exact h.1
    · exact ltB_trans h.1 (h1 s rfl x hx)
theorem idN_at {G : List Bs} (h : ascN none G = true) {k : Nat} (hk : k < G.length) : inW G G[k] = true ∧ idN G G[k] = k := by
  rw [ascN_st, Bool.and_eq_true] at h
  have hp := (stA_pw G none h.2).2
  have hin : inW G G[k] = true := (inW_iff _ _).2 (List.getElem_mem hk)
  refine ⟨hin, ?_⟩
  rcases idx_cases G G[k] with ⟨q, _⟩ | ⟨_, _, q3, q4, _⟩
  · rw [hin] at q; cases q
  · apply Classical.byContradiction
    intro hne
    rw [List.pairwise_iff_getElem] at hp
    rcases Nat.lt_or_gt_of_ne hne with hlt | hlt
    · have := hp _ _ q3 hk hlt
      rw [q4, ltB_irrefl] at this; cases this
    · have := hp _ _ hk q3 hlt
      rw [q4, ltB_irrefl] at this; cases this
def UQ (t : TagT) (l : List Bs) (a : List Nat) : Prop := ∀ j (h : j < a.length), a[j] < t.1.length ∧ 0 ≤ at0 (costsF t (l.getD j [])) a[j]
theorem UQ_nil (t : TagT) (l : List Bs) : UQ t l [] := fun j h => by simp at h
theorem UQ_snoc {t : TagT} {l : List Bs} {p : List Nat} {k : Nat} : UQ t l (p ++ [k]) ↔ UQ t l p ∧ k < t.1.length ∧ 0 ≤ at0 (costsF t (l.getD p.length [])) k := by
  constructor
  · intro h
    refine ⟨fun j hj => ?_, ?_⟩
    · have := h j (by simp; omega)
      rwa [List.getElem_append_left hj] at this
    · have := h p.length (by simp)
      simpa using this
  · rintro ⟨h1, h2, h3⟩ j hj
    by_cases e : j < p.length
    · rw [List.getElem_append_left e]; exact h1 j e
    · have : j = p.length := by simp at hj; omega
      subst this
      simpa using ⟨h2, h3⟩
theorem VP_UQ {t : TagT} {l : List Bs} : ∀ {i : Nat} {a : List Nat}, VP t l i a → UQ t l a
  | 0, a, h => by simp only [VP] at h; subst h; exact UQ_nil t l
  | i + 1, a, h => by
    obtain ⟨p, k, rfl, hp, hk, h1, _⟩ := h
    have := VP_len hp
    exact UQ_snoc.2 ⟨VP_UQ hp, hk, by rw [this]; exact h1⟩
theorem rest_back {t : TagT} (ht : OkT t) {l : List Bs} {i : Nat} (hi : i + 1 < l.length) {k k' : Nat} (hk : k < t.1.length) (hk' : k' < t.1.length) (h0 : 0 ≤ at0 (costsF t (l.getD (i + 1) [])) k') (ih : 0 ≤ at0 (restAt t l (i + 1)) k') : 0 ≤ at0 (restAt t l i) k := by
  rw [restAt_prev hi hk]
  have hkp : k < t.2.2.2.1.length := by rw [ht.pl]; exact hk
  have hgp : t.2.2.2.1.getD k [] = t.2.2.2.1[k] := by simp [hkp]
  have hpk := ht.p _ (List.getElem_mem hkp)
  have hin := waysF_in (p := t.2.2.2.1.getD k []) (c := costsF t (l.getD (i + 1) [])) (r := restAt t l (i + 1)) k' (by rw [hgp, csB_len hpk]; exact hk') (by rw [csB_len (costsF_ok ht _)]; exact hk') (by rw [rest_len ht (by omega)]; exact hk') h0 ih
  obtain ⟨y, hy, _⟩ := (lstO_le _ none).1 _ hin
  unfold lstB
  rw [hy]
  simp only [Option.isSome_some, if_true, oI]
  rcases lstO_mem _ _ _ hy with e | e
  · cases e
  · obtain ⟨a, q1, b, q2, d, q3, q4, q5, rfl⟩ := waysF_mem e
    rw [hgp] at q1
    have := csB_rng hpk a q1
    omega
theorem rest_pos {t : TagT} (ht : OkT t) {l : List Bs} {a : List Nat} (ha : UQ t l a) {i : Nat} (hl : a.length = i + 1) (hi : i < l.length) (hr : 0 ≤ at0 (restAt t l i) (a[i]'(by omega))) : ∀ (d j : Nat) (h : j + d = i), 0 ≤ at0 (restAt t l j) (a[j]'(by omega))
  | 0, j, h => by
    have : j = i := by omega
    subst this; exact hr
  | d + 1, j, h => by
    have ih := rest_pos ht ha hl hi hr d (j + 1) (by omega)
    have h1 := ha (j + 1) (by omega)
    exact rest_back ht (by omega) (ha j (by omega)).1 h1.1 h1.2 ih
theorem VP_of {t : TagT} (ht : OkT t) {l : List Bs} {a : List Nat} (ha : UQ t l a) {i : Nat} (hl : a.length = i + 1) (hi : i < l.length) (hr : 0 ≤ at0 (restAt t l i) (a[i]'(by omega))) : VP t l (i + 1) a := by
  have key : ∀ j, j ≤ i + 1 → VP t l j (a.take j) := by
    intro j
    induction j with
    | zero => intro _; simp [VP]
    | succ j ih =>
      intro hj
      have h1 := ha j (by omega)
      exact ⟨a.take j, a[j], List.take_succ_eq_append_getElem (by omega), ih (by omega), h1.1, h1.2, rest_pos ht ha hl hi hr (i - j) j (by omega)⟩
  have := key (i + 1) (Nat.le_refl _)
  rwa [List.take_of_length_le (by omega)] at this
theorem VP_full {t : TagT} (ht : OkT t) {l : List Bs} {a : List Nat} (ha : UQ t l a) (hl : a.length = l.length) : VP t l l.length a := by
  cases hN : l.length with
  | zero => have : a = [] := List.length_eq_zero_iff.1 (by omega); subst this; simp [VP]
  | succ i =>
    refine VP_of ht ha (by omega) (by omega) ?_
    rw [restAt_last (by omega)]
    exact (csB_at ht.z (ha i (by omega)).1).1
theorem fin_all {t : TagT} {l : List Bs} {a : List Nat} (hl : a.length = l.length) : finP t l a = allP t l a := by
  unfold finP allP
  cases h : a.getLast? with
  | none =>
    rw [List.getLast?_eq_none_iff] at h
    subst h
    cases l <;> simp [costP, cstG]
  | some k =>
    have : 0 < a.length := by cases a with
      | nil => simp at h
      | cons x a => simp
    simp only
    rw [restAt_last (by omega)]
/-- The best one costs least. -/
theorem best_le {t : TagT} (ht : OkT t) {l : List Bs} (m : Nat) {a : List Nat} (ha : VP t l l.length a) : ∃ h r, sevP t l m l.length = h :: r ∧ allP t l h ≤ allP t l a ∧ VP t l l.length h := by
  have hf := sevP_first ht l m l.length (Nat.le_refl _)
  generalize sevP t l m l.length = L at hf
  have hle : ∀ {x y : List Nat}, cmpP (allP t l) x y < 0 → allP t l x ≤ allP t l y := fun h => by rcases cmpP_cases.1 h with h | h <;> omega
  cases L with
  | nil =>
    have := (hf.out a ha (by simp)).1
    simp at this
  | cons h r =>
    refine ⟨h, r, rfl, ?_, hf.mem h (by simp)⟩
    by_cases hm : a ∈ h :: r
    · rcases List.mem_cons.1 hm with rfl | hm
      · exact Int.le_refl _
      · exact hle ((List.pairwise_cons.1 hf.asc).1 a hm)
    · exact hle ((hf.out a ha hm).2 h (by simp))
/-! Beams. -/
theorem beamP_UQ {t : TagT} {l : List Bs} (w : Nat) : ∀ (i : Nat), ∀ a ∈ beamP t l w i, a.length = i ∧ UQ t l a
  | 0, a, ha => by
    simp only [beamP, List.mem_singleton] at ha
    subst ha
    exact ⟨rfl, UQ_nil t l⟩
  | i + 1, a, ha => by
    simp only [beamP] at ha
    have ha := List.mem_of_mem_take ha
    rw [srt_mem] at ha
    simp only [nxtP, List.mem_flatMap, List.mem_range] at ha
    obtain ⟨k, _, ha⟩ := ha
    have ha := bstP_mem ha
    unfold celP at ha
    split at ha
    · rename_i h
      obtain ⟨p, hp, rfl⟩ := List.mem_map.1 ha
      obtain ⟨h1, h2⟩ := beamP_UQ w i p hp
      exact ⟨by simp [h1], UQ_snoc.2 ⟨h2, h.1, by rw [h1]; exact h.2⟩⟩
    · cases ha
theorem beam_opt {t : TagT} (ht : OkT t) {l : List Bs} : ∀ (i : Nat), i ≤ l.length → ∀ a, a.length = i → UQ t l a → ∃ b ∈ beamP t l 16 i, b.getLast? = a.getLast? ∧ costP t l b ≤ costP t l a
  | 0, _, a, hl, _ => by
    have : a = [] := List.length_eq_zero_iff.1 hl
    subst this
    exact ⟨[], by simp [beamP], rfl, Int.le_refl _⟩
  | i + 1, hi, a, hl, ha => by
    obtain ⟨p, k, rfl⟩ : ∃ p k, a = p ++ [k] := by
      have hne : a ≠ [] := by intro h; rw [h] at hl; simp at hl
      exact ⟨a.dropLast, a.getLast hne, (List.dropLast_concat_getLast hne).symm⟩
    have hpl : p.length = i := by simpa using hl
    obtain ⟨h1, h2, h3⟩ := UQ_snoc.1 ha
    rw [hpl] at h3
    obtain ⟨b, hb, hbl, hbc⟩ := beam_opt ht i (by omega) p hpl h1
    have hbg := beamP_good ht 16 i (by omega) b hb
    have hc := celP_pos (t := t) (l := l) (i := i) (k := k) (P := beamP t l 16 i) (by omega) h2
    have hmem : b ++ [k] ∈ celP t l i k (beamP t l 16 i) := by rw [hc]; exact List.mem_map.2 ⟨b, hb, rfl⟩
    have hall : ∀ m ∈ celP t l i k (beamP t l 16 i), m.getLast? = some k := by
      rw [hc]; intro m hm; obtain ⟨q, _, rfl⟩ := List.mem_map.1 hm; simp
    have hk16 : k < 16 := Nat.lt_of_lt_of_le h2 ht.g
    have hnx : ∀ m ∈ bstP (cmpP (costP t l)) (celP t l i k (beamP t l 16 i)), m ∈ beamP t l 16 (i + 1) := by
      intro m hm
      simp only [beamP]
      rw [List.take_of_length_le (by rw [srt_len]; exact nxtP_len t l i _ 16), srt_mem]
      simp only [nxtP, List.mem_flatMap, List.mem_range]
      exact ⟨k, hk16, hm⟩
    generalize celP t l i k (beamP t l 16 i) = C at hmem hall hnx
    cases C with
    | nil => cases hmem
    | cons x r =>
      have hm := minL_mem (cmpP (costP t l)) r x
      have hmin := minL_min (linP (costP t l)) r x (b ++ [k]) hmem
      refine ⟨minL (cmpP (costP t l)) x r, hnx _ (by simp [bstP]), by rw [hall _ hm]; simp, ?_⟩
      have h5 : costP t l (minL (cmpP (costP t l)) x r) ≤ costP t l (b ++ [k]) := by
        apply Classical.byContradiction
        intro hlt
        exact hmin (cmpP_cases.2 (.inl (by omega)))
      have h6 := costP_snoc t l b k (by rw [hbg.len]; omega)
      have h7 := costP_snoc t l p k (by rw [hpl]; omega)
      rw [hbg.len, hbl] at h6
      rw [hpl] at h7
      omega
/-! The beam as a whole. -/
theorem beam_val {t : TagT} (ht : OkT t) {l : List Bs} (w : Nat) {x : List Nat} {r : List (List Nat)} (h : beamP t l w l.length = x :: r) : VP t l l.length (minL (cmpP (finP t l)) x r) ∧ finP t l (minL (cmpP (finP t l)) x r) = allP t l (minL (cmpP (finP t l)) x r) := by
  have hm := minL_mem (cmpP (finP t l)) r x
  rw [← h] at hm
  obtain ⟨h1, h2⟩ := beamP_UQ w l.length _ hm
  exact ⟨VP_full ht h2 h1, fin_all h1⟩
theorem beam_full {t : TagT} (ht : OkT t) {l : List Bs} {a : List Nat} (ha : VP t l l.length a) : ∃ x r, beamP t l 16 l.length = x :: r ∧ finP t l (minL (cmpP (finP t l)) x r) ≤ allP t l a := by
  obtain ⟨b, hb, hbl, hbc⟩ := beam_opt ht l.length (Nat.le_refl _) a (VP_len ha) (VP_UQ ha)
  have hbf : finP t l b ≤ finP t l a := by unfold finP; rw [hbl]; omega
  rw [fin_all (VP_len ha)] at hbf
  generalize beamP t l 16 l.length = L at hb
  cases L with
  | nil => cases hb
  | cons x r =>
    refine ⟨x, r, rfl, ?_⟩
    have hmin := minL_min (linP (finP t l)) r x b hb
    apply Classical.byContradiction
    intro hlt
    exact hmin (cmpP_cases.2 (.inl (by omega)))
/-! At. -/
theorem lstO_min {L : List Int} : (∀ x ∈ L, ∃ y, lstO none L = some y ∧ y ≤ x) ∧ ∀ y, lstO none L = some y → y ∈ L := by
  refine ⟨(lstO_le L none).1, fun y hy => ?_⟩
  rcases lstO_mem _ _ _ hy with e | e
  · cases e
  · exact e
theorem waysI_iff {t : TagT} {k : Nat} {prev : List Int} : ∀ {n : Nat} {x : Int}, x ∈ waysI t k prev n ↔ ∃ b, b < n ∧ 0 ≤ at0 prev b ∧ x = at0 prev b + pAt2 t b k
  | 0, x => by simp [waysI]
  | n + 1, x => by
    simp only [waysI, List.mem_append, waysI_iff]
    constructor
    · rintro (⟨b, h1, h2, h3⟩ | h)
      · exact ⟨b, by omega, h2, h3⟩
      · split at h
        · rename_i h2
          simp only [List.mem_singleton] at h
          exact ⟨n, by omega, h2, h⟩
        · cases h
    · rintro ⟨b, h1, h2, h3⟩
      by_cases e : b < n
      · exact .inl ⟨b, e, h2, h3⟩
      · have : b = n := by omega
        subst this
        rw [if_pos h2]
        exact .inr (by simp [h3])
theorem ahead_at (t : TagT) (l : List Bs) (p : Nat) {k : Nat} (hk : k < t.1.length) : at0 (aheadP t l (p + 1)) k = cellP t p (costsF t (l.getD p [])) (aheadP t l p) k := by
  simp [aheadP, nextP, at0, hk]
theorem ahead_sem {t : TagT} (ht : OkT t) {l : List Bs} : ∀ (i : Nat), i < l.length → ∀ k, k < t.1.length →
    (0 ≤ at0 (aheadP t l (i + 1)) k → ∃ p, p.length = i ∧ UQ t l (p ++ [k]) ∧ costP t l (p ++ [k]) = at0 (aheadP t l (i + 1)) k) ∧
    (∀ p, p.length = i → UQ t l (p ++ [k]) → 0 ≤ at0 (aheadP t l (i + 1)) k ∧ at0 (aheadP t l (i + 1)) k ≤ costP t l (p ++ [k]))
  | 0, hi, k, hk => by
    rw [ahead_at t l 0 hk]
    have hf := csB_at ht.f hk
    have hcs := costP_snoc t l [] k (by simpa using hi)
    have hc0 : costP t l [] = 0 := by cases l <;> simp [costP, cstG]
    simp only [List.nil_append, List.length_nil, List.getLast?_nil, stepF, hc0] at hcs
    unfold cellP
    by_cases q : at0 (costsF t (l.getD 0 [])) k < 0
    · rw [if_pos q]
      refine ⟨fun h => by omega, fun p hp hu => ?_⟩
      have : p = [] := List.length_eq_zero_iff.1 hp
      subst this
      have := (UQ_snoc.1 hu).2.2
      simp only [List.length_nil] at this
      omega
    · rw [if_neg q, if_pos rfl]
      refine ⟨fun _ => ⟨[], rfl, UQ_snoc.2 ⟨UQ_nil t l, hk, by simp only [List.length_nil]; omega⟩, by simp only [List.nil_append]; omega⟩, fun p hp hu => ?_⟩
      have : p = [] := List.length_eq_zero_iff.1 hp
      subst this
      simp only [List.nil_append]
      omega
  | i + 1, hi, k, hk => by
    have ih := ahead_sem ht (l := l) i (by omega)
    rw [ahead_at t l (i + 1) hk]
    have hplen : (aheadP t l (i + 1)).length = t.1.length := aheadP_len t l i
    have hpair : ∀ b, b < t.1.length → 0 ≤ pAt2 t b k := fun b hb => by
      have hbp : b < t.2.2.2.1.length := by rw [ht.pl]; exact hb
      unfold pAt2
      rw [List.getD_eq_getElem?_getD, List.getElem?_eq_getElem hbp, Option.getD_some]
      exact (csB_at (ht.p _ (List.getElem_mem hbp)) hk).1
    have hstep : ∀ (q : List Nat) (b : Nat), q.length = i → costP t l (q ++ [b] ++ [k]) = costP t l (q ++ [b]) + at0 (costsF t (l.getD (i + 1) [])) k + pAt2 t b k := fun q b hq => by
      rw [costP_snoc t l (q ++ [b]) k (by simp; omega)]
      simp [hq, stepF, pAt2]
    unfold cellP
    by_cases q : at0 (costsF t (l.getD (i + 1) [])) k < 0
    · rw [if_pos q]
      refine ⟨fun h => by omega, fun p hp hu => ?_⟩
      have := (UQ_snoc.1 hu).2.2
      rw [hp] at this
      omega
    · rw [if_neg q, if_neg (by omega), hplen]
      obtain ⟨m1, m2⟩ := lstO_min (L := waysI t k (aheadP t l (i + 1)) t.1.length)
      refine ⟨fun h => ?_, fun p hp hu => ?_⟩
      · split at h
        · rename_i hs
          rw [if_pos hs]
          obtain ⟨y, hy⟩ := Option.isSome_iff_exists.1 hs
          obtain ⟨b, hb, hb0, hbe⟩ := waysI_iff.1 (m2 y hy)
          obtain ⟨p, hp, hu, hc⟩ := (ih b hb).1 hb0
          refine ⟨p ++ [b], by simp [hp], UQ_snoc.2 ⟨hu, hk, by simp only [List.length_append, hp, List.length_singleton]; omega⟩, ?_⟩
          rw [hstep p b hp, hc, hy]
          simp only [oI]
          omega
        · omega
      · obtain ⟨hu1, _, hu3⟩ := UQ_snoc.1 hu
        obtain ⟨p', b, rfl⟩ : ∃ p' b, p = p' ++ [b] := by
          have hne : p ≠ [] := by intro h; rw [h] at hp; simp at hp
          exact ⟨p.dropLast, p.getLast hne, (List.dropLast_concat_getLast hne).symm⟩
        have hp' : p'.length = i := by simpa using hp
        have hbn := (UQ_snoc.1 hu1).2.1
        obtain ⟨g1, g2⟩ := (ih b hbn).2 p' hp' hu1
        obtain ⟨y, hy, hyl⟩ := m1 _ (waysI_iff.2 ⟨b, hbn, g1, rfl⟩)
        rw [hy]
        simp only [Option.isSome_some, if_true, oI]
        rw [hstep p' b hp']
        obtain ⟨b2, hb2, hb20, hb2e⟩ := waysI_iff.1 (m2 y hy)
        have := hpair b2 hb2
        omega
theorem all_prefix {t : TagT} (ht : OkT t) {l : List Bs} {a : List Nat} (ha : VP t l l.length a) : ∀ (d i : Nat), i + 1 + d = l.length → ∃ q, VP t l (i + 1) q ∧ allP t l q ≤ allP t l a
  | 0, i, h => ⟨a, by rw [show i + 1 = l.length by omega]; exact ha, Int.le_refl _⟩
  | d + 1, i, h => by
    obtain ⟨q, hq, hle⟩ := all_prefix ht ha d (i + 1) (by omega)
    obtain ⟨p, k, rfl, hp, hk, h1, h2⟩ := hq
    exact ⟨p, hp, Int.le_trans (all_mono ht (by omega) hp hk h1 h2) hle⟩
theorem all_on {t : TagT} (ht : OkT t) {l : List Bs} : ∀ (d i : Nat), i + 1 + d = l.length → ∀ q, VP t l (i + 1) q → ∃ a, VP t l l.length a ∧ allP t l a = allP t l q
  | 0, i, h, q, hq => ⟨q, by rw [show l.length = i + 1 by omega]; exact hq, rfl⟩
  | d + 1, i, h, q, hq => by
    obtain ⟨k, hk, h1, h2, he⟩ := best_ext ht (by omega) hq
    obtain ⟨a, ha, hae⟩ := all_on ht d (i + 1) (by omega) (q ++ [k]) ⟨q, k, rfl, hq, hk, h1, h2⟩
    exact ⟨a, ha, hae.trans he⟩
/-- What is told of a word's tags. -/
theorem atP_sem {t : TagT} (ht : OkT t) {l : List Bs} {i : Nat} (hi : i < l.length) : (∀ v ∈ atP t l i, 0 ≤ v → ∃ a, VP t l l.length a ∧ allP t l a = v) ∧ (∀ a, VP t l l.length a → ∃ v ∈ atP t l i, 0 ≤ v ∧ v ≤ allP t l a) := by
  constructor
  · intro v hv h0
    obtain ⟨k, hk, rfl⟩ := List.mem_map.1 hv
    rw [List.mem_range] at hk
    split at h0
    · omega
    · rename_i hn
      rw [if_neg hn]
      rw [not_or] at hn
      obtain ⟨p, hp, hu, hc⟩ := (ahead_sem ht i hi k hk).1 (by omega)
      have hvp := VP_of ht hu (by simp [hp]) hi (by simp [hp]; omega)
      obtain ⟨a, ha, hae⟩ := all_on ht (l.length - (i + 1)) i (by omega) _ hvp
      refine ⟨a, ha, ?_⟩
      rw [hae, allP_snoc, hp, hc]
  · intro a ha
    obtain ⟨q, hq, hle⟩ := all_prefix ht ha (l.length - (i + 1)) i (by omega)
    have hqu := VP_UQ hq
    obtain ⟨p, k, rfl, hp, hk, h1, h2⟩ := hq
    have hpl := VP_len hp
    obtain ⟨g1, g2⟩ := (ahead_sem ht i hi k hk).2 p hpl hqu
    refine ⟨_, List.mem_map.2 ⟨k, List.mem_range.2 hk, rfl⟩, ?_⟩
    rw [allP_snoc, hpl] at hle
    rw [if_neg (by omega)]
    omega

end Go.Proofs
