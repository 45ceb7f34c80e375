/- Plain laws. -/
import Derived.Test.YtepjlojlkionfaaRq7
set_option linter.all false
set_option maxHeartbeats 2000000
namespace Go.Proofs
open Go Go.AM
/-! At: both ways are the same. -/
theorem lstO_snoc : ∀ (l : List Int) (b : Option Int) (x : Int), lstO b (l ++ [x]) = match lstO b l with | none => some x | some y => some (if x < y then x else y)
  | [], none, x => rfl
  | [], some b, x => rfl
  | y :: l, none, x => by simp only [List.cons_append, lstO]; exact lstO_snoc l _ x
  | y :: l, some b, x => by simp only [List.cons_append, lstO]; exact lstO_snoc l _ x
def RelA (n : Nat) (pP pR w : List Int) : Prop := ∀ m, m < n → (at0 pP m < 0 ∧ (at0 w m < 0 ∨ at0 pR m < 0)) ∨ (0 ≤ at0 w m ∧ 0 ≤ at0 pR m ∧ at0 pP m = at0 pR m + at0 w m)
theorem ways_mn {t : TagT} (ht : OkT t) {k : Nat} (hk : k < t.1.length) {pP pR w : List Int} (hr : RelA t.1.length pP pR w) : ∀ m, m ≤ t.1.length → lstO none (waysI t k pP m) = if mnI t k w pR m < 0 then none else some (mnI t k w pR m)
  | 0, _ => by simp [waysI, mnI, lstO]
  | m + 1, hm => by
    have ih := ways_mn ht hk hr m (by omega)
    have hmp : m < t.2.2.2.1.length := by rw [ht.pl]; omega
    have h1 : 0 ≤ pAt2 t m k := by
      unfold pAt2
      rw [List.getD_eq_getElem?_getD, List.getElem?_eq_getElem hmp, Option.getD_some]
      exact (csB_at (ht.p _ (List.getElem_mem hmp)) hk).1
    have hs : mnI t k w pR (m + 1) = if at0 w m < 0 ∨ at0 pR m < 0 then mnI t k w pR m else if mnI t k w pR m < 0 ∨ at0 pR m + at0 w m + pAt2 t m k < mnI t k w pR m then at0 pR m + at0 w m + pAt2 t m k else mnI t k w pR m := rfl
    have hw : waysI t k pP (m + 1) = waysI t k pP m ++ (if 0 ≤ at0 pP m then [at0 pP m + pAt2 t m k] else []) := rfl
    rw [hw]
    generalize mnI t k w pR (m + 1) = v1 at hs ⊢
    generalize mnI t k w pR m = v0 at hs ih
    generalize pAt2 t m k = q at h1 hs ⊢
    rcases hr m (by omega) with ⟨a, b⟩ | ⟨a, b, c⟩
    · rw [if_pos b] at hs
      subst hs
      rw [if_neg (by omega), List.append_nil]; exact ih
    · rw [if_neg (by omega)] at hs
      rw [if_pos (by omega), lstO_snoc, ih, c]
      by_cases hv : v0 < 0
      · rw [if_pos (.inl hv)] at hs
        subst hs
        rw [if_pos hv, if_neg (by omega)]
      · rw [if_neg hv]
        by_cases hlt : at0 pR m + at0 w m + q < v0
        · rw [if_pos (.inr hlt)] at hs
          subst hs
          rw [if_neg (by omega)]
          simp only [hlt, if_true]
        · rw [if_neg (by omega)] at hs
          subst hs
          rw [if_neg hv]
          simp only [hlt, if_false]
theorem rel_ahead {t : TagT} (ht : OkT t) (l : List Bs) : ∀ p, RelA t.1.length (aheadP t l (p + 1)) (aheadR t l (p + 1)) (costsF t (l.getD p []))
  | p => by
    intro k hk
    have hw := csB_at (costsF_ok ht (l.getD p [])) hk
    have hf := csB_at ht.f hk
    have eP : at0 (aheadP t l (p + 1)) k = cellP t p (costsF t (l.getD p [])) (aheadP t l p) k := by simp [aheadP, nextP, at0, hk]
    have eR : at0 (aheadR t l (p + 1)) k = cellR t p (costsF t (l.getD p [])) (costsF t (l.getD (p - 1) [])) (aheadR t l p) k := by simp [aheadR, at0, hk]
    rw [eP, eR]
    unfold cellP cellR
    generalize costsF t (l.getD p []) = w at hw ⊢
    by_cases q1 : at0 w k < 0
    · rw [if_pos q1, if_pos q1]; exact .inl ⟨q1, .inl q1⟩
    rw [if_neg q1, if_neg q1]
    by_cases q2 : p = 0
    · rw [if_pos q2, if_pos q2]; exact .inr ⟨by omega, by omega, by omega⟩
    rw [if_neg q2, if_neg q2]
    obtain ⟨p', rfl⟩ : ∃ p', p = p' + 1 := ⟨p - 1, by omega⟩
    have ih := rel_ahead ht l p'
    rw [show p' + 1 - 1 = p' by omega, aheadP_len]
    have hmn := ways_mn ht hk ih t.1.length (Nat.le_refl _)
    generalize lstO none (waysI t k (aheadP t l (p' + 1)) t.1.length) = x at hmn ⊢
    generalize mnI t k (costsF t (l.getD p' [])) (aheadR t l (p' + 1)) t.1.length = v at hmn ⊢
    by_cases hv : v < 0
    · rw [if_pos hv] at hmn
      subst hmn
      exact .inl ⟨by simp, .inr hv⟩
    · rw [if_neg hv] at hmn
      subst hmn
      exact .inr ⟨by omega, by omega, by simp [oI]; omega⟩
/-! The rows behind. -/
def RelB (b : List TlT) (c r : Int) : Prop := (b = [] ∧ (c < 0 ∨ r < 0)) ∨ ∃ tg, b = [(c + r, tg)] ∧ 0 ≤ c ∧ 0 ≤ r
def relL : List (List TlT) → List Int → List Int → Prop
  | [], [], [] => True
  | b :: B, c :: cs, r :: rs => RelB b c r ∧ relL B cs rs
  | _, _, _ => False
theorem relL_of : ∀ (B : List (List TlT)) (cs rs : List Int), B.length = cs.length → B.length = rs.length → (∀ k (h : k < B.length), RelB B[k] (at0 cs k) (at0 rs k)) → relL B cs rs
  | [], [], [], _, _, _ => trivial
  | [], _ :: _, _, h, _, _ => by simp at h
  | [], [], _ :: _, _, h, _ => by simp at h
  | _ :: _, [], _, h, _, _ => by simp at h
  | _ :: _, _ :: _, [], _, h, _ => by simp at h
  | b :: B, c :: cs, r :: rs, h1, h2, h => by
    refine ⟨h 0 (by simp), relL_of B cs rs (by simpa using h1) (by simpa using h2) fun k hk => ?_⟩
    have := h (k + 1) (by simpa using hk)
    simpa [at0] using this
theorem bst_lst : ∀ (B : List (List TlT)) (ps cs rs : List Int) (k : Nat) (b : Option (Nat × Int)), relL B cs rs → ps.length = B.length → (bstR B ps k b).map (·.2) = lstO (b.map (·.2)) (waysF ps cs rs)
  | [], ps, cs, rs, k, b, _, hp => by
    have : ps = [] := List.length_eq_zero_iff.1 (by simpa using hp)
    subst this
    cases b <;> simp [bstR, waysF, lstO]
  | x :: B, [], _, _, _, _, _, hp => by simp at hp
  | x :: B, p :: ps, [], rs, _, _, h, _ => by cases rs <;> simp [relL] at h
  | x :: B, p :: ps, c :: cs, [], _, _, h, _ => by simp [relL] at h
  | x :: B, p :: ps, c :: cs, r :: rs, k, b, h, hp => by
    obtain ⟨h1, h2⟩ := h
    have hp' : ps.length = B.length := by simpa using hp
    rcases h1 with ⟨rfl, h3⟩ | ⟨tg, rfl, h3, h4⟩
    · simp only [bstR, waysF]
      rw [if_neg (by omega)]
      exact bst_lst B ps cs rs (k + 1) b h2 hp'
    · simp only [bstR, waysF]
      rw [if_pos ⟨h3, h4⟩, bst_lst B ps cs rs (k + 1) _ h2 hp']
      have e : c + r + p = p + c + r := by omega
      cases b with
      | none => simp [lstO, e]
      | some b =>
        obtain ⟨j, v⟩ := b
        simp only [e, Option.map_some, lstO]
        congr 1
        split <;> simp_all
theorem bst_ok : ∀ (B : List (List TlT)) (ps : List Int) (k : Nat) (b : Option (Nat × Int)) (j : Nat) (v : Int), bstR B ps k b = some (j, v) → b = some (j, v) ∨ ∃ j' x r' p, j = k + j' ∧ B[j']? = some (x :: r') ∧ ps[j']? = some p ∧ v = x.1 + p
  | [], ps, k, b, j, v, h => by simp only [bstR] at h; exact .inl h
  | x :: B, [], k, b, j, v, h => by simp only [bstR] at h; exact .inl h
  | y :: B, p :: ps, k, b, j, v, h => by
    simp only [bstR] at h
    rcases bst_ok B ps (k + 1) _ j v h with e | ⟨j', x, r', p', h1, h2, h3, h4⟩
    · cases y with
      | nil => exact .inl e
      | cons x y =>
        cases b with
        | none =>
          simp only [Option.some.injEq, Prod.mk.injEq] at e
          exact .inr ⟨0, x, y, p, by omega, by simp, by simp, e.2.symm⟩
        | some b =>
          obtain ⟨j0, c0⟩ := b
          simp only at e
          split at e
          · simp only [Option.some.injEq, Prod.mk.injEq] at e
            exact .inr ⟨0, x, y, p, by omega, by simp, by simp, e.2.symm⟩
          · exact .inl e
    · exact .inr ⟨j' + 1, x, r', p', by omega, by simpa using h2, by simpa using h3, h4⟩
theorem mrg_one {B : List (List TlT)} {ps cs rs : List Int} (cost : Int) (k : Nat) (h : relL B cs rs) (hp : ps.length = B.length) (hps : ∀ p ∈ ps, 0 ≤ p) (hc : 0 ≤ cost) : RelB (mrg ps cost (some k) 1 B) cost (lstB (waysF ps cs rs)) := by
  have hl := bst_lst B ps cs rs 0 none h hp
  simp only [mrg]
  cases hb : bstR B ps 0 none with
  | none =>
    rw [hb] at hl
    refine .inl ⟨rfl, .inr ?_⟩
    have e : lstO none (waysF ps cs rs) = none := by simpa using hl.symm
    simp [lstB, e]
  | some jv =>
    obtain ⟨j, v⟩ := jv
    rw [hb] at hl
    have e : lstO none (waysF ps cs rs) = some v := by simpa using hl.symm
    rcases bst_ok B ps 0 none j v hb with h0 | ⟨j', x, r', p, h1, h2, h3, h4⟩
    · cases h0
    · have hj : j = j' := by omega
      subst hj
      have hv : 0 ≤ v := by
        rcases lstO_mem _ _ _ e with e1 | e1
        · cases e1
        · obtain ⟨a, q1, b, q2, d, q3, q4, q5, rfl⟩ := waysF_mem e1
          have := hps a q1
          omega
      right
      refine ⟨tgd (some k) x.2, ?_, hc, by simp [lstB, e, oI]; exact hv⟩
      simp only [List.getD_eq_getElem?_getD, h2, h3, Option.getD_some, lstB, e, oI, Option.isSome_some, if_true]
      rw [show cost + p + x.1 = cost + v by omega]
theorem rel_behind {t : TagT} (ht : OkT t) : ∀ (ws : List Bs) (w : Bs), ∀ k, k < t.1.length → RelB (((tlsF t 1 ((w :: ws).map (costsF t))).headD []).getD k []) (at0 (costsF t w) k) (at0 ((restF t (w :: ws)).headD []) k)
  | [], w, k, hk => by
    have hw := csB_at (costsF_ok ht w) hk
    have hz := csB_at ht.z hk
    have e : ((tlsF t 1 ([w].map (costsF t))).headD []).getD k [] = if at0 (costsF t w) k < 0 then [] else [(at0 (costsF t w) k + at0 t.2.2.1 k, [k])] := by simp [tlsF, lastT, hk]
    rw [e]
    simp only [restF, List.headD_cons]
    by_cases q : at0 (costsF t w) k < 0
    · rw [if_pos q]; exact .inl ⟨rfl, .inl q⟩
    · rw [if_neg q]; exact .inr ⟨[k], rfl, by omega, by omega⟩
  | v :: ws, w, k, hk => by
    have ih := rel_behind ht ws v
    have hw := csB_at (costsF_ok ht w) hk
    have hkp : k < t.2.2.2.1.length := by rw [ht.pl]; exact hk
    have e : ((tlsF t 1 ((w :: v :: ws).map (costsF t))).headD []).getD k [] = if at0 (costsF t w) k < 0 then [] else mrg (t.2.2.2.1.getD k []) (at0 (costsF t w) k) (some k) 1 ((tlsF t 1 ((v :: ws).map (costsF t))).headD []) := by simp [tlsF, nextT, hk]
    have e2 : at0 ((restF t (w :: v :: ws)).headD []) k = lstB (waysF (t.2.2.2.1.getD k []) (costsF t v) ((restF t (v :: ws)).headD [])) := by simp [restF, nextR, at0, hk]
    rw [e, e2]
    by_cases q : at0 (costsF t w) k < 0
    · rw [if_pos q]; exact .inl ⟨rfl, .inl q⟩
    rw [if_neg q]
    have hgood : GoodT t 1 ((v :: ws).map (costsF t)).length ((tlsF t 1 ((v :: ws).map (costsF t))).headD []) := by
      refine tlsF_good ht (Nat.le_refl _) _ (fun x hx => ?_) _ ?_
      · obtain ⟨y, _, rfl⟩ := List.mem_map.1 hx
        exact costsF_ok ht y
      · have := tlsF_cons t 1 ((v :: ws).map (costsF t)) (i := 0) (by simp)
        rw [List.drop_zero] at this
        rw [this]; simp
    have hrr := restF_rng ht (v :: ws) ((restF t (v :: ws)).headD []) (by
      have := restF_cons t (v :: ws) (i := 0) (by simp)
      rw [List.drop_zero] at this
      rw [this]; simp)
    have hlen := hgood.len
    generalize (tlsF t 1 ((v :: ws).map (costsF t))).headD [] = B at ih hlen ⊢
    generalize (restF t (v :: ws)).headD [] = r at ih hrr ⊢
    rw [List.getD_eq_getElem?_getD, List.getElem?_eq_getElem hkp, Option.getD_some]
    have hpk := ht.p _ (List.getElem_mem hkp)
    refine mrg_one _ k (relL_of B (costsF t v) r (by rw [hlen, csB_len (costsF_ok ht v)]) (by rw [hlen, hrr.1]) fun j hj => ?_) (by rw [csB_len hpk, hlen]) (fun p hp => (csB_rng hpk p hp).1) (by omega)
    have := ih j (by omega)
    rwa [List.getD_eq_getElem?_getD, List.getElem?_eq_getElem hj, Option.getD_some] at this
theorem at_same {t : TagT} (ht : OkT t) {l : List Bs} {i : Nat} (hi : i < l.length) : atP t l i = atR t l i := by
  unfold atP atR
  apply List.map_congr_left
  intro k hk
  rw [List.mem_range] at hk
  have h1 := rel_ahead ht l i k hk
  have h2 := rel_behind ht (l.drop (i + 1)) l[i] k hk
  have e1 : ((l[i] :: l.drop (i + 1)).map (costsF t)) = (l.map (costsF t)).drop i := by rw [← drop_at hi, List.map_drop]
  rw [e1, ← drop_at hi] at h2
  change RelB ((behR t l i).getD k []) _ (at0 (restAt t l i) k) at h2
  have e2 : l.getD i [] = l[i] := by simp [hi]
  rw [e2] at h1
  unfold outR
  generalize at0 (aheadP t l (i + 1)) k = a at h1 ⊢
  generalize at0 (aheadR t l (i + 1)) k = b at h1 ⊢
  generalize at0 (restAt t l i) k = r at h2 ⊢
  generalize (behR t l i).getD k [] = B at h2 ⊢
  generalize at0 (costsF t l[i]) k = w at h1 h2
  rcases h1 with ⟨q1, q2⟩ | ⟨q1, q2, q3⟩
  · rw [if_pos (.inl q1)]
    by_cases q3 : b < 0
    · rw [if_pos q3]
    · rw [if_neg q3]
      rcases h2 with ⟨rfl, _⟩ | ⟨tg, rfl, h3, _⟩
      · rfl
      · omega
  · rw [if_neg (show ¬ b < 0 by omega)]
    rcases h2 with ⟨rfl, h3⟩ | ⟨tg, rfl, h3, h4⟩
    · rw [if_pos (by omega)]
    · rw [if_neg (by omega)]
      simp only
      omega
theorem atF_same (t : TagT) (l : List Bs) (i : Int) : atFR t l i = atF t l i := by
  unfold atFR atF
  by_cases h1 : chkF t l.length = 0
  · have h1' : ¬ chkF t l.length ≠ 0 := by simpa using h1
    rw [if_neg h1', if_neg h1']
    by_cases h2 : i < 0 ∨ (l.length : Int) ≤ i
    · rw [if_pos h2, if_pos h2]
    · rw [if_neg h2, if_neg h2, at_same (chkF_ok h1).1 (show i.toNat < l.length by omega)]
  · rw [if_pos h1, if_pos h1]

end Go.Proofs
