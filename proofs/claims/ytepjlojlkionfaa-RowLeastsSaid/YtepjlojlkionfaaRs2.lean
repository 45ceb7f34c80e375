/- Plain laws. -/
import Derived.Test.YtepjlojlkionfaaRs1
set_option linter.all false
set_option maxHeartbeats 2000000
namespace Go.Proofs
open Go Go.AM
/-! Several: what is kept is the first of what can be gone on with. -/
theorem waysF_at : ∀ {p c r : List Int} {x : Int}, x ∈ waysF p c r → ∃ k, k < p.length ∧ k < c.length ∧ k < r.length ∧ 0 ≤ at0 c k ∧ 0 ≤ at0 r k ∧ x = at0 p k + at0 c k + at0 r k
  | [], _, _, _, h => by simp [waysF] at h
  | _ :: _, [], _, _, h => by simp [waysF] at h
  | _ :: _, _ :: _, [], _, h => by simp [waysF] at h
  | p :: ps, c :: cs, r :: rs, x, h => by
    simp only [waysF] at h
    have tail : x ∈ waysF ps cs rs → ∃ k, k < (p :: ps).length ∧ k < (c :: cs).length ∧ k < (r :: rs).length ∧ 0 ≤ at0 (c :: cs) k ∧ 0 ≤ at0 (r :: rs) k ∧ x = at0 (p :: ps) k + at0 (c :: cs) k + at0 (r :: rs) k := fun h => by
      obtain ⟨k, h1, h2, h3, h4, h5, h6⟩ := waysF_at h
      exact ⟨k + 1, by simpa using h1, by simpa using h2, by simpa using h3, by simpa [at0] using h4, by simpa [at0] using h5, by simpa [at0] using h6⟩
    split at h
    · rename_i hc
      rcases List.mem_cons.1 h with rfl | h
      · exact ⟨0, by simp, by simp, by simp, by simpa [at0] using hc.1, by simpa [at0] using hc.2, by simp [at0]⟩
      · exact tail h
    · exact tail h
theorem waysF_in : ∀ {p c r : List Int} (k : Nat), k < p.length → k < c.length → k < r.length → 0 ≤ at0 c k → 0 ≤ at0 r k → at0 p k + at0 c k + at0 r k ∈ waysF p c r
  | [], _, _, k, h, _, _, _, _ => by simp at h
  | _ :: _, [], _, k, _, h, _, _, _ => by simp at h
  | _ :: _, _ :: _, [], k, _, _, h, _, _ => by simp at h
  | p :: ps, c :: cs, r :: rs, 0, _, _, _, h1, h2 => by
    have h1 : 0 ≤ c := by simpa [at0] using h1
    have h2 : 0 ≤ r := by simpa [at0] using h2
    simp [waysF, h1, h2, at0]
  | p :: ps, c :: cs, r :: rs, k + 1, a1, a2, a3, h1, h2 => by
    have := waysF_in (p := ps) (c := cs) (r := rs) k (by simpa using a1) (by simpa using a2) (by simpa using a3) (by simpa [at0] using h1) (by simpa [at0] using h2)
    have e : at0 (p :: ps) (k + 1) + at0 (c :: cs) (k + 1) + at0 (r :: rs) (k + 1) = at0 ps k + at0 cs k + at0 rs k := by simp [at0]
    rw [e]
    simp only [waysF]
    split
    · exact List.mem_cons_of_mem _ this
    · exact this
theorem lstO_le : ∀ (l : List Int) (b : Option Int), (∀ x ∈ l, ∃ y, lstO b l = some y ∧ y ≤ x) ∧ ∀ v, b = some v → ∃ y, lstO b l = some y ∧ y ≤ v
  | [], b => ⟨by simp, fun v h => ⟨v, by subst h; rfl, Int.le_refl _⟩⟩
  | x :: l, none => by
    obtain ⟨h1, h2⟩ := lstO_le l (some x)
    refine ⟨fun y hy => ?_, by simp⟩
    rcases List.mem_cons.1 hy with rfl | hy
    · exact h2 y rfl
    · exact h1 y hy
  | x :: l, some b => by
    obtain ⟨h1, h2⟩ := lstO_le l (some (if x < b then x else b))
    obtain ⟨z, hz, hzl⟩ := h2 _ rfl
    refine ⟨fun y hy => ?_, fun v hv => ?_⟩
    · rcases List.mem_cons.1 hy with rfl | hy
      · exact ⟨z, hz, by split at hzl <;> omega⟩
      · exact h1 y hy
    · cases hv
      exact ⟨z, hz, by split at hzl <;> omega⟩
def VP (t : TagT) (l : List Bs) : Nat → List Nat → Prop
  | 0, a => a = []
  | i + 1, a => ∃ p k, a = p ++ [k] ∧ VP t l i p ∧ k < t.1.length ∧ 0 ≤ at0 (costsF t (l.getD i [])) k ∧ 0 ≤ at0 (restAt t l i) k
theorem VP_len {t : TagT} {l : List Bs} : ∀ {i : Nat} {a : List Nat}, VP t l i a → a.length = i
  | 0, a, h => by simp only [VP] at h; subst h; rfl
  | i + 1, a, h => by
    obtain ⟨p, k, rfl, h1, _⟩ := h
    simp [VP_len h1]
theorem ext_mem {t : TagT} {l : List Bs} {i : Nat} {p a : List Nat} : a ∈ extP t l i p ↔ ∃ k, k < t.1.length ∧ 0 ≤ at0 (costsF t (l.getD i [])) k ∧ 0 ≤ at0 (restAt t l i) k ∧ a = p ++ [k] := by
  simp only [extP, List.mem_flatMap, List.mem_range, ext1]
  constructor
  · rintro ⟨k, hk, h⟩
    split at h
    · cases h
    split at h
    · cases h
    rename_i h1 h2
    simp only [List.mem_singleton] at h
    exact ⟨k, hk, by omega, by omega, h⟩
  · rintro ⟨k, hk, h1, h2, rfl⟩
    refine ⟨k, hk, ?_⟩
    rw [if_neg (by omega), if_neg (by omega)]
    simp
theorem nd_flatMap {α β : Type} {f : α → List β} : ∀ {l : List α}, l.Nodup → (∀ x ∈ l, (f x).Nodup) → (∀ x ∈ l, ∀ y ∈ l, ∀ b, b ∈ f x → b ∈ f y → x = y) → (l.flatMap f).Nodup
  | [], _, _, _ => by simp
  | x :: l, hn, h1, h2 => by
    obtain ⟨hx, hn⟩ := List.nodup_cons.1 hn
    rw [List.flatMap_cons, List.nodup_append]
    refine ⟨h1 x (by simp), nd_flatMap hn (fun y hy => h1 y (by simp [hy])) (fun y hy z hz => h2 y (by simp [hy]) z (by simp [hz])), ?_⟩
    intro a ha b hb e
    subst e
    rw [List.mem_flatMap] at hb
    obtain ⟨y, hy, hb⟩ := hb
    have := h2 x (by simp) y (by simp [hy]) a ha hb
    subst this
    exact hx hy
theorem nd_map {α β : Type} {f : α → β} : ∀ {l : List α}, l.Nodup → (∀ x ∈ l, ∀ y ∈ l, f x = f y → x = y) → (l.map f).Nodup
  | [], _, _ => by simp
  | x :: l, hn, h => by
    obtain ⟨hx, hn⟩ := List.nodup_cons.1 hn
    rw [List.map_cons, List.nodup_cons]
    refine ⟨fun hm => ?_, nd_map hn fun y hy z hz => h y (by simp [hy]) z (by simp [hz])⟩
    obtain ⟨y, hy, e⟩ := List.mem_map.1 hm
    have := h x (by simp) y (by simp [hy]) e.symm
    subst this
    exact hx hy
theorem ext_nodup (t : TagT) (l : List Bs) (i : Nat) (p : List Nat) : (extP t l i p).Nodup := by
  refine nd_flatMap List.nodup_range (fun k _ => ?_) (fun x _ y _ b hx hy => ?_)
  · unfold ext1; split
    · simp
    · split <;> simp
  · unfold ext1 at hx hy
    split at hx
    · cases hx
    split at hx
    · cases hx
    split at hy
    · cases hy
    split at hy
    · cases hy
    simp only [List.mem_singleton] at hx hy
    rw [hx] at hy
    simpa using hy
theorem restAt_prev {t : TagT} {l : List Bs} {i : Nat} (hi : i + 1 < l.length) {x : Nat} (hx : x < t.1.length) : at0 (restAt t l i) x = lstB (waysF (t.2.2.2.1.getD x []) (costsF t (l.getD (i + 1) [])) (restAt t l (i + 1))) := by
  unfold restAt
  rw [drop_at (show i < l.length by omega), drop_at hi]
  have e : l.getD (i + 1) [] = l[i + 1] := by simp [hi]
  rw [e]
  simp [restF, nextR, at0, hx]
theorem rest_len {t : TagT} (ht : OkT t) {l : List Bs} {i : Nat} (hi : i < l.length) : (restAt t l i).length = t.1.length := (restF_rng ht (l.drop i) _ (by
  have := restF_cons t l hi
  unfold restAt
  rw [this]; simp)).1
/-- How the cost in all goes on. -/
theorem all_step {t : TagT} {l : List Bs} {q0 : List Nat} {x k : Nat} (hi : q0.length + 1 < l.length) : allP t l (q0 ++ [x] ++ [k]) = costP t l (q0 ++ [x]) + (at0 (t.2.2.2.1.getD x []) k + at0 (costsF t (l.getD (q0.length + 1) [])) k + at0 (restAt t l (q0.length + 1)) k) := by
  rw [allP_snoc, costP_snoc t l (q0 ++ [x]) k (by simpa using hi)]
  have e : (q0 ++ [x]).length = q0.length + 1 := by simp
  rw [e]
  have e2 : stepF t (q0 ++ [x]).getLast? k = at0 (t.2.2.2.1.getD x []) k := by simp [stepF]
  rw [e2]
  omega
theorem best_ext {t : TagT} (ht : OkT t) {l : List Bs} {i : Nat} (hi : i + 1 < l.length) {q : List Nat} (hq : VP t l (i + 1) q) : ∃ k, k < t.1.length ∧ 0 ≤ at0 (costsF t (l.getD (i + 1) [])) k ∧ 0 ≤ at0 (restAt t l (i + 1)) k ∧ allP t l (q ++ [k]) = allP t l q := by
  obtain ⟨p, x, rfl, h1, hx, h2, h3⟩ := hq
  have hl := VP_len h1
  rw [restAt_prev hi hx] at h3
  unfold lstB at h3
  split at h3
  · rename_i hs
    obtain ⟨y, hy⟩ := Option.isSome_iff_exists.1 hs
    rw [hy] at h3
    rcases lstO_mem _ _ _ hy with e | e
    · cases e
    · obtain ⟨k, k1, k2, k3, k4, k5, rfl⟩ := waysF_at e
      have hkn : k < t.1.length := by rw [csB_len (costsF_ok ht (l.getD (i + 1) []))] at k2; exact k2
      refine ⟨k, hkn, k4, k5, ?_⟩
      rw [all_step (by omega), allP_snoc, hl, restAt_prev hi hx]
      unfold lstB
      rw [hy]
      simp [oI]
  · omega
theorem all_mono {t : TagT} (ht : OkT t) {l : List Bs} {i : Nat} (hi : i + 1 < l.length) {q : List Nat} (hq : VP t l (i + 1) q) {k : Nat} (hk : k < t.1.length) (h1 : 0 ≤ at0 (costsF t (l.getD (i + 1) [])) k) (h2 : 0 ≤ at0 (restAt t l (i + 1)) k) : allP t l q ≤ allP t l (q ++ [k]) := by
  obtain ⟨p, x, rfl, g1, hx, g2, g3⟩ := hq
  have hl := VP_len g1
  have hxp : x < t.2.2.2.1.length := by rw [ht.pl]; exact hx
  have hkp : k < (t.2.2.2.1.getD x []).length := by
    rw [List.getD_eq_getElem?_getD, List.getElem?_eq_getElem hxp, Option.getD_some, csB_len (ht.p _ (List.getElem_mem hxp))]; exact hk
  have hin := waysF_in (p := t.2.2.2.1.getD x []) (c := costsF t (l.getD (i + 1) [])) (r := restAt t l (i + 1)) k hkp (by rw [csB_len (costsF_ok ht _)]; exact hk) (by rw [rest_len ht hi]; exact hk) h1 h2
  obtain ⟨y, hy, hle⟩ := (lstO_le _ none).1 _ hin
  rw [all_step (by omega), allP_snoc, hl, restAt_prev hi hx]
  unfold lstB
  rw [hy]
  simp only [Option.isSome_some, if_true, oI]
  omega
theorem cmpNs_snoc : ∀ {q p : List Nat} (a b : Nat), q.length = p.length → cmpNs q p < 0 → cmpNs (q ++ [a]) (p ++ [b]) < 0
  | [], [], a, b, _, h => by simp [cmpNs] at h
  | [], _ :: _, _, _, h, _ => by simp at h
  | _ :: _, [], _, _, h, _ => by simp at h
  | x :: q, y :: p, a, b, hl, h => by
    simp only [cmpNs, List.cons_append] at h ⊢
    by_cases e : cmpZ x y = 0
    · rw [if_pos e] at h ⊢
      exact cmpNs_snoc a b (by simpa using hl) h
    · rw [if_neg e] at h ⊢; exact h
theorem cmpP_cases {f : List Nat → Int} {a b : List Nat} : cmpP f a b < 0 ↔ f a < f b ∨ (f a = f b ∧ cmpNs a b < 0) := by
  unfold cmpP
  by_cases e : cmpZ (f a) (f b) = 0
  · rw [if_pos e]; rw [cmpZ_eq] at e; omega
  · rw [if_neg e, cmpZ_lt]; rw [cmpZ_eq] at e; omega
theorem sevP_first {t : TagT} (ht : OkT t) (l : List Bs) (m : Nat) : ∀ i, i ≤ l.length → FirstM (cmpP (allP t l)) (m + 1) (VP t l i) (sevP t l m i)
  | 0, _ => by
    refine ⟨by simp [sevP], fun x hx => by simpa [sevP, VP] using hx, by simp [sevP], fun v hv hn => ?_⟩
    simp only [VP] at hv
    subst hv
    simp [sevP] at hn
  | i + 1, hi => by
    have ih := sevP_first ht l m i (by omega)
    have hc := linP (allP t l)
    have hX : ((sevP t l m i).flatMap (extP t l i)).Nodup := by
      refine nd_flatMap (ih.nodup hc) (fun p _ => ext_nodup t l i p) (fun x _ y _ b hx hy => ?_)
      rw [ext_mem] at hx hy
      obtain ⟨k, _, _, _, rfl⟩ := hx
      obtain ⟨k', _, _, _, e⟩ := hy
      exact (List.append_inj' e rfl).1
    refine first_up hc (first_srt hc hX (m + 1)) (fun x hx => ?_) (fun v hv hvX => ?_)
    · rw [List.mem_flatMap] at hx
      obtain ⟨p, hp, hx⟩ := hx
      rw [ext_mem] at hx
      obtain ⟨k, h1, h2, h3, rfl⟩ := hx
      exact ⟨p, k, rfl, ih.mem p hp, h1, h2, h3⟩
    · obtain ⟨p, k, rfl, hp, hk, h2, h3⟩ := hv
      have hpn : p ∉ sevP t l m i := fun h => hvX (List.mem_flatMap.2 ⟨p, h, ext_mem.2 ⟨k, hk, h2, h3, rfl⟩⟩)
      obtain ⟨hf, hlt⟩ := ih.out p hp hpn
      rcases i with _ | i
      · simp only [VP] at hp
        subst hp
        simp [sevP] at hpn
      have hbe : ∀ q, ∃ k, q ∈ sevP t l m (i + 1) → k < t.1.length ∧ 0 ≤ at0 (costsF t (l.getD (i + 1) [])) k ∧ 0 ≤ at0 (restAt t l (i + 1)) k ∧ allP t l (q ++ [k]) = allP t l q := fun q => by
        by_cases hq : q ∈ sevP t l m (i + 1)
        · obtain ⟨k, h⟩ := best_ext ht (by omega) (ih.mem q hq)
          exact ⟨k, fun _ => h⟩
        · exact ⟨0, fun h => (hq h).elim⟩
      refine ⟨(sevP t l m (i + 1)).map fun q => q ++ [Classical.choose (hbe q)], ?_, by simpa using hf, ?_, ?_⟩
      · exact nd_map (ih.nodup hc) fun x _ y _ e => (List.append_inj' e rfl).1
      · intro q' hq'
        obtain ⟨q, hq, rfl⟩ := List.mem_map.1 hq'
        obtain ⟨a1, a2, a3, _⟩ := Classical.choose_spec (hbe q) hq
        exact List.mem_flatMap.2 ⟨q, hq, ext_mem.2 ⟨_, a1, a2, a3, rfl⟩⟩
      · intro q' hq'
        obtain ⟨q, hq, rfl⟩ := List.mem_map.1 hq'
        obtain ⟨_, _, _, a4⟩ := Classical.choose_spec (hbe q) hq
        have hmono := all_mono ht (by omega) hp hk h2 h3
        have hl1 := VP_len (ih.mem q hq)
        have hl2 := VP_len hp
        rw [cmpP_cases, a4]
        rcases cmpP_cases.1 (hlt q hq) with h | ⟨h, h'⟩
        · exact .inl (by omega)
        · by_cases e : allP t l p = allP t l (p ++ [k])
          · exact .inr ⟨by omega, cmpNs_snoc _ _ (by omega) h'⟩
          · exact .inl (by omega)

end Go.Proofs
