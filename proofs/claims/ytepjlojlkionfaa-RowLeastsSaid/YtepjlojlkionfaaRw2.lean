/- Plain laws. -/
import Derived.Test.YtepjlojlkionfaaRw1
set_option linter.all false
set_option maxHeartbeats 2000000
namespace Go.Proofs
open Go Go.AM
def SV (t : TagT) : List Bs → List Nat → Prop
  | w :: l, k :: ks => 0 ≤ at0 (costsF t w) k ∧ SV t l ks
  | _, _ => True
theorem UQ_cons {t : TagT} {w : Bs} {l : List Bs} {k : Nat} {ks : List Nat} : UQ t (w :: l) (k :: ks) ↔ (k < t.1.length ∧ 0 ≤ at0 (costsF t w) k) ∧ UQ t l ks := by
  constructor
  · intro h
    refine ⟨h 0 (by simp), fun j hj => ?_⟩
    have := h (j + 1) (by simpa using hj)
    simpa using this
  · rintro ⟨h1, h2⟩ j hj
    cases j with
    | zero => exact h1
    | succ j =>
      have := h2 j (by simpa using hj)
      simpa using this
theorem SV_UQ {t : TagT} : ∀ (l : List Bs) (ks : List Nat), ks.length = l.length → (∀ k ∈ ks, k < t.1.length) → (SV t l ks ↔ UQ t l ks)
  | [], ks, h, _ => by
    have : ks = [] := List.length_eq_zero_iff.1 h
    subst this
    exact ⟨fun _ => UQ_nil t [], fun _ => trivial⟩
  | w :: l, [], h, _ => by simp at h
  | w :: l, k :: ks, h, hk => by
    rw [UQ_cons, ← SV_UQ l ks (by simpa using h) (fun x hx => hk x (by simp [hx]))]
    simp only [SV]
    have := hk k (by simp)
    exact ⟨fun h => ⟨⟨this, h.1⟩, h.2⟩, fun h => ⟨h.1.2, h.2⟩⟩
def lstV (t : TagT) : Option Nat → List Nat → Int
  | some k, [] => at0 t.2.2.1 k
  | none, [] => 0
  | _, k :: ks => lstV t (some k) ks
theorem lstV_some (t : TagT) : ∀ (ks : List Nat) (b : Option Nat) (x : Nat), ks.getLast? = some x → lstV t b ks = at0 t.2.2.1 x
  | [], _, _, h => by simp at h
  | [k], b, x, h => by simp at h; subst h; cases b <;> rfl
  | k :: y :: ks, b, x, h => by
    rw [List.getLast?_cons_cons] at h
    have := lstV_some t (y :: ks) (some k) x h
    cases b <;> exact this
theorem goC_ok {t : TagT} : ∀ (l : List Bs) (ks : List Nat) (b : Option Nat) (n : Int), ks.length = l.length → SV t l ks → goC t l ks b n = (n + cstG t l ks b + lstV t b ks, true, 0)
  | [], ks, b, n, h, _ => by
    have : ks = [] := List.length_eq_zero_iff.1 h
    subst this
    cases b <;> simp [goC, cstG, lstV]
  | w :: l, [], b, n, h, _ => by simp at h
  | w :: l, k :: ks, b, n, h, hs => by
    have ih := goC_ok l ks (some k) (n + at0 (costsF t w) k + stepF t b k) (by simpa using h) hs.2
    have e : lstV t b (k :: ks) = lstV t (some k) ks := by cases b <;> rfl
    simp only [goC]
    rw [if_neg (by have := hs.1; omega), ih, e]
    simp only [cstG]
    have : n + at0 (costsF t w) k + stepF t b k + cstG t l ks (some k) + lstV t (some k) ks = n + (at0 (costsF t w) k + stepF t b k + cstG t l ks (some k)) + lstV t (some k) ks := by omega
    rw [this]
theorem goC_can {t : TagT} : ∀ (l : List Bs) (ks : List Nat) (b : Option Nat) (n : Int), ks.length = l.length → (goC t l ks b n).2.1 = true → SV t l ks
  | [], ks, b, n, h, _ => by
    have : ks = [] := List.length_eq_zero_iff.1 h
    subst this
    trivial
  | w :: l, [], b, n, h, _ => by simp at h
  | w :: l, k :: ks, b, n, h, hs => by
    simp only [goC] at hs
    split at hs
    · cases hs
    · exact ⟨by omega, goC_can l ks _ _ (by simpa using h) hs⟩
theorem goC_val {t : TagT} (ht : OkT t) {l : List Bs} {ks : List Nat} (hl : ks.length = l.length) (hu : UQ t l ks) : goC t l ks none 0 = (allP t l ks, true, 0) := by
  rw [goC_ok l ks none 0 hl ((SV_UQ l ks hl (fun k hk => by
    obtain ⟨j, hj, rfl⟩ := List.getElem_of_mem hk
    exact (hu j hj).1)).2 hu)]
  rw [← fin_all (t := t) hl]
  unfold finP costP
  cases h : ks.getLast? with
  | none => rw [List.getLast?_eq_none_iff] at h; subst h; simp [lstV]
  | some x => rw [lstV_some t ks none x h]; simp
theorem idN_lt {G : List Bs} {s : Bs} (h : inW G s = true) : idN G s < G.length := by
  rcases idx_cases G s with ⟨q, _⟩ | ⟨_, _, q, _⟩
  · rw [h] at q; cases q
  · exact q
/-- What is told of the cheapest row. -/
theorem best_val {t : TagT} {l : List Bs} (hc : chkF t l.length = 0) :
    (∃ h, VP t l l.length h ∧ bestF t l = (h.map (fun k => t.1.getD k []), allP t l h, true, 0) ∧ (∀ a, VP t l l.length a → allP t l h ≤ allP t l a) ∧ ∀ m, ∃ r, sevP t l m l.length = h :: r) ∨
    (bestF t l = ([], 0, false, 0) ∧ (∀ a, ¬ VP t l l.length a) ∧ ∀ m, sevP t l m l.length = []) := by
  obtain ⟨hT, hn⟩ := chkF_ok hc
  have hs : sevF t l 1 = ((sevP t l 1 l.length).take 1, decide (1 < (sevP t l 1 l.length).length), 0) := by
    unfold sevF
    rw [if_neg (by simpa using hc), if_neg (by omega)]
    rfl
  by_cases hV : ∃ a, VP t l l.length a
  · left
    obtain ⟨a, ha⟩ := hV
    obtain ⟨h, r, h1, h2, h3⟩ := best_le hT 1 ha
    have hmin : ∀ a, VP t l l.length a → allP t l h ≤ allP t l a := fun b hb => by
      obtain ⟨h', r', g1, g2, _⟩ := best_le hT 1 hb
      rw [h1] at g1
      injection g1 with e1 _
      subst e1; exact g2
    refine ⟨h, h3, ?_, hmin, fun m => ?_⟩
    · unfold bestF
      rw [hs, h1]
      simp
    · obtain ⟨h', r', g1, _, _⟩ := best_le hT m ha
      have u1 := (sevP_first hT l 1 l.length (Nat.le_refl _)).take (N := 1) (by omega)
      have u2 := (sevP_first hT l m l.length (Nat.le_refl _)).take (N := 1) (by omega)
      have u3 := u1.uniq (linP _) u2
      rw [h1, g1] at u3
      simp at u3
      subst u3
      exact ⟨r', g1⟩
  · right
    have hno : ∀ a, ¬ VP t l l.length a := fun a ha => hV ⟨a, ha⟩
    have hse : ∀ m, sevP t l m l.length = [] := fun m => by
      have hf := sevP_first hT l m l.length (Nat.le_refl _)
      cases e : sevP t l m l.length with
      | nil => rfl
      | cons x r => exact (hno x (hf.mem x (by rw [e]; simp))).elim
    refine ⟨?_, hno, hse⟩
    unfold bestF
    rw [hs, hse]
    simp
theorem cost_row {t : TagT} {l tags : List Bs} (h1 : (costF t l tags).2.2 = 0) (h2 : (costF t l tags).2.1 = true) : ∃ a, VP t l l.length a ∧ allP t l a = (costF t l tags).1 := by
  unfold costF at h1 h2 ⊢
  by_cases hc : chkF t l.length = 0
  case neg => rw [if_pos hc] at h2; cases h2
  obtain ⟨hT, hn⟩ := chkF_ok hc
  rw [if_neg (by simpa using hc)] at h1 h2 ⊢
  by_cases hl : tags.length = l.length
  case neg => rw [if_pos hl] at h2; cases h2
  rw [if_neg (by simpa using hl)] at h1 h2 ⊢
  by_cases ha : tags.all (inW t.1) = false
  · rw [if_pos ha] at h2; cases h2
  rw [if_neg ha] at h1 h2 ⊢
  have ha' : tags.all (inW t.1) = true := by simpa using ha
  rw [List.all_eq_true] at ha'
  have hkl : (tags.map (idN t.1)).length = l.length := by simpa using hl
  have hk : ∀ k ∈ tags.map (idN t.1), k < t.1.length := by
    intro k hk
    obtain ⟨s, hs, rfl⟩ := List.mem_map.1 hk
    exact idN_lt (ha' s hs)
  have hu := (SV_UQ l _ hkl hk).1 (goC_can l _ none 0 hkl h2)
  exact ⟨_, VP_full hT hu hkl, by rw [goC_val hT hkl hu]⟩
theorem cost_best {t : TagT} {l : List Bs} (hc : chkF t l.length = 0) {h : List Nat} (hv : VP t l l.length h) : costF t l (h.map fun k => t.1.getD k []) = (allP t l h, true, 0) := by
  obtain ⟨hT, hn⟩ := chkF_ok hc
  have hl := VP_len hv
  have hu := VP_UQ hv
  have hlt : ∀ k ∈ h, k < t.1.length := fun k hk => by
    obtain ⟨j, hj, rfl⟩ := List.getElem_of_mem hk
    exact (hu j hj).1
  have hid : (h.map fun k => t.1.getD k []).map (idN t.1) = h := by
    rw [List.map_map]
    conv => rhs; rw [← List.map_id h]
    refine List.map_congr_left fun k hk => ?_
    have := hlt k hk
    simp only [Function.comp_apply, id_eq]
    have e : t.1.getD k [] = t.1[k] := by simp [this]
    rw [e, (idN_at hT.ga this).2]
  have hall : (h.map fun k => t.1.getD k []).all (inW t.1) = true := by
    rw [List.all_eq_true]
    intro s hs
    obtain ⟨k, hk, rfl⟩ := List.mem_map.1 hs
    have := hlt k hk
    have e : t.1.getD k [] = t.1[k] := by simp [this]
    rw [e]; exact (idN_at hT.ga this).1
  unfold costF
  rw [if_neg (by simpa using hc), if_neg (by simpa using hl), if_neg (by rw [hall]; simp), hid, goC_val hT hl hu]
/-- What is told of a beam. -/
theorem beam_row {t : TagT} {l : List Bs} (hc : chkF t l.length = 0) {w : Int} (h1 : 1 ≤ w) (h2 : w ≤ 16) : (beamF t l w).2.2.2 = 0 ∧ ((beamF t l w).2.2.1 = true → ∃ a, VP t l l.length a ∧ allP t l a = (beamF t l w).2.1) ∧ ((beamF t l w).2.2.1 = false → (beamF t l w).2.1 = 0) ∧ (w = 16 → ∀ a, VP t l l.length a → (beamF t l w).2.2.1 = true ∧ (beamF t l w).2.1 ≤ allP t l a) := by
  obtain ⟨hT, hn⟩ := chkF_ok hc
  unfold beamF
  rw [if_neg (by simpa using hc), if_neg (by omega)]
  have hf := fun a ha => beam_full hT (l := l) (a := a) ha
  have hv := fun x r h => beam_val hT (l := l) w.toNat (x := x) (r := r) h
  cases e : beamP t l w.toNat l.length with
  | nil =>
    refine ⟨rfl, fun h => (by cases h), fun _ => rfl, fun hw a ha => ?_⟩
    subst hw
    obtain ⟨x, r, g1, _⟩ := hf a ha
    have e' : beamP t l 16 l.length = [] := e
    rw [g1] at e'; cases e'
  | cons x r =>
    obtain ⟨g1, g2⟩ := hv x r e
    refine ⟨rfl, fun _ => ⟨_, g1, g2.symm⟩, fun h => (by cases h), fun hw a ha => ⟨rfl, ?_⟩⟩
    subst hw
    obtain ⟨x', r', q1, q2⟩ := hf a ha
    have e' : beamP t l 16 l.length = x :: r := e
    rw [q1] at e'
    injection e' with e1 e2
    subst e1 e2
    exact q2
/-- The least of what is not less than nothing. -/
def lstI : List Int → Int → Int
  | [], m => m
  | v :: L, m => lstI L (if 0 ≤ v ∧ (m < 0 ∨ v < m) then v else m)
theorem lstI_val : ∀ (L : List Int) (m : Int), (lstI L m = m ∨ (lstI L m ∈ L ∧ 0 ≤ lstI L m)) ∧ (0 ≤ m → 0 ≤ lstI L m ∧ lstI L m ≤ m) ∧ ∀ v ∈ L, 0 ≤ v → 0 ≤ lstI L m ∧ lstI L m ≤ v
  | [], m => by simp [lstI]
  | v :: L, m => by
    simp only [lstI]
    obtain ⟨h1, h2, h3⟩ := lstI_val L (if 0 ≤ v ∧ (m < 0 ∨ v < m) then v else m)
    by_cases q : 0 ≤ v ∧ (m < 0 ∨ v < m)
    · rw [if_pos q] at h1 h2 h3 ⊢
      have h4 := h2 q.1
      refine ⟨.inr ?_, fun hm => ⟨h4.1, by omega⟩, fun x hx hx0 => ?_⟩
      · rcases h1 with h1 | h1
        · rw [h1]; exact ⟨by simp, q.1⟩
        · exact ⟨by simp [h1.1], h1.2⟩
      · rcases List.mem_cons.1 hx with rfl | hx
        · exact h4
        · exact h3 x hx hx0
    · rw [if_neg q] at h1 h2 h3 ⊢
      refine ⟨?_, h2, fun x hx hx0 => ?_⟩
      · rcases h1 with h1 | h1
        · exact .inl h1
        · exact .inr ⟨by simp [h1.1], h1.2⟩
      · rcases List.mem_cons.1 hx with rfl | hx
        · have hm : 0 ≤ m ∧ m ≤ x := by omega
          have := h2 hm.1
          omega
        · exact h3 x hx hx0
theorem lstI_best {t : TagT} (ht : OkT t) {l : List Bs} {i : Nat} (hi : i < l.length) :
    (∀ h, VP t l l.length h → (∀ a, VP t l l.length a → allP t l h ≤ allP t l a) → lstI (atP t l i) (-1) = allP t l h ∧ 0 ≤ lstI (atP t l i) (-1)) ∧ ((∀ a, ¬ VP t l l.length a) → lstI (atP t l i) (-1) = -1) := by
  obtain ⟨s1, s2⟩ := atP_sem ht hi
  obtain ⟨h1, _, h3⟩ := lstI_val (atP t l i) (-1)
  refine ⟨fun h hv hmin => ?_, fun hno => ?_⟩
  · obtain ⟨v, hv1, hv2, hv3⟩ := s2 h hv
    obtain ⟨g1, g2⟩ := h3 v hv1 hv2
    rcases h1 with h1 | ⟨h1, _⟩
    · omega
    · obtain ⟨a, ha, hae⟩ := s1 _ h1 g1
      have := hmin a ha
      omega
  · rcases h1 with h1 | ⟨h1, h0⟩
    · exact h1
    · obtain ⟨a, ha, _⟩ := s1 _ h1 h0
      exact (hno a ha).elim

end Go.Proofs
