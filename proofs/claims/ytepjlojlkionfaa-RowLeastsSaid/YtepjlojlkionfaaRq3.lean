/- Plain laws. -/
import Derived.Test.YtepjlojlkionfaaRq2
set_option linter.all false
set_option maxHeartbeats 2000000
namespace Go.Proofs
open Go Go.AM
theorem mrg_mem {Q : TlT → Prop} (ps : List Int) (cost : Int) (tag : Option Nat) : ∀ (n : Nat) (R : List (List TlT)), (∀ r ∈ R, ∀ x ∈ r, Q x) → ∀ y ∈ mrg ps cost tag n R, ∃ p x, Q x ∧ (p ∈ ps ∨ p = 0) ∧ y = (cost + p + x.1, tgd tag x.2)
  | 0, R, _, y, h => by simp [mrg] at h
  | n + 1, R, hR, y, h => by
    simp only [mrg] at h
    split at h
    · cases h
    · rename_i j c hj
      split at h
      · cases h
      · rename_i x r hx
        have hm : R.getD j [] ∈ R := by
          rw [List.getD_eq_getElem?_getD] at hx ⊢
          cases hg : R[j]? with
          | none => rw [hg] at hx; cases hx
          | some q => exact List.mem_of_getElem? hg
        have hxs := hR _ hm
        rw [hx] at hxs
        rcases List.mem_cons.1 h with rfl | h
        · refine ⟨ps.getD j 0, x, hxs x (by simp), ?_, rfl⟩
          rw [List.getD_eq_getElem?_getD]
          cases hg : ps[j]? with
          | none => exact .inr rfl
          | some q => exact .inl (List.mem_of_getElem? hg)
        · refine mrg_mem ps cost tag n (R.set j r) (fun r' hr' x' hx' => ?_) y h
          rcases List.mem_or_eq_of_mem_set hr' with h1 | h1
          · exact hR r' h1 x' hx'
          · subst h1; exact hxs x' (by simp [hx'])
theorem mrg_len (ps : List Int) (cost : Int) (tag : Option Nat) : ∀ (n : Nat) (R : List (List TlT)), (mrg ps cost tag n R).length ≤ n
  | 0, R => by simp [mrg]
  | n + 1, R => by
    simp only [mrg]
    split
    · simp
    · split
      · simp
      · have := mrg_len ps cost tag n; simp; exact this _
def lastT (t : TagT) (w : List Int) : List (List TlT) := (List.range t.1.length).map fun k => if at0 w k < 0 then [] else [(at0 w k + at0 t.2.2.1 k, [k])]
def nextT (t : TagT) (m : Nat) (w : List Int) (r : List (List TlT)) : List (List TlT) := (List.range t.1.length).map fun k => if at0 w k < 0 then [] else mrg (t.2.2.2.1.getD k []) (at0 w k) (some k) m r
def tlsF (t : TagT) (m : Nat) : List (List Int) → List (List (List TlT))
  | [] => []
  | [w] => [lastT t w]
  | w :: v :: W => nextT t m w ((tlsF t m (v :: W)).headD []) :: tlsF t m (v :: W)
theorem tlsF_len (t : TagT) (m : Nat) : ∀ l, (tlsF t m l).length = l.length
  | [] => rfl
  | [_] => rfl
  | _ :: w :: l => by simp [tlsF, tlsF_len t m (w :: l)]
theorem tlsF_tail (t : TagT) (m : Nat) : ∀ (w : List Int) (l : List (List Int)), (tlsF t m (w :: l)).tail = tlsF t m l
  | _, [] => rfl
  | _, _ :: _ => rfl
theorem tlsF_drop (t : TagT) (m : Nat) : ∀ (i : Nat) (l : List (List Int)), (tlsF t m l).drop i = tlsF t m (l.drop i)
  | 0, l => by simp
  | i + 1, [] => by simp [tlsF]
  | i + 1, w :: l => by
    rw [List.drop_succ_cons, ← tlsF_drop t m i l, ← tlsF_tail t m w l, List.drop_tail]
theorem tlsF_cons (t : TagT) (m : Nat) (l : List (List Int)) {i : Nat} (h : i < l.length) : tlsF t m (l.drop i) = (tlsF t m (l.drop i)).headD [] :: tlsF t m (l.drop (i + 1)) := by
  rw [drop_at h]
  have h1 := tlsF_tail t m l[i] (l.drop (i + 1))
  have hl := tlsF_len t m (l[i] :: l.drop (i + 1))
  cases hr : tlsF t m (l[i] :: l.drop (i + 1)) with
  | nil =>
    have h0 : (tlsF t m (l[i] :: l.drop (i + 1))).length = 0 := by rw [hr]; rfl
    rw [hl, List.length_cons] at h0
    omega
  | cons a b => rw [hr] at h1; simp at h1; simp [h1]
def rowT (r : List (List TlT)) : PV := .sl 1 (r.map tailsV)
def rowsT (t : TagT) (m : Nat) (W : List (List Int)) (I : Nat) : List PV := List.replicate I (.sl 1 []) ++ (tlsF t m (W.drop I)).map rowT
theorem rowsT_len (t : TagT) (m : Nat) (l : List (List Int)) {I : Nat} (h : I ≤ l.length) : (rowsT t m l I).length = l.length := by
  simp [rowsT, tlsF_len]; omega
theorem rowsT_set (t : TagT) (m : Nat) (l : List (List Int)) {i : Nat} (h : i < l.length) : (rowsT t m l (i + 1)).set i (rowT ((tlsF t m (l.drop i)).headD [])) = rowsT t m l i := by
  have e := tlsF_cons t m l h
  unfold rowsT
  conv => rhs; rw [e]
  rw [List.replicate_succ', List.append_assoc, List.set_append_right _ _ (by simp)]
  simp
theorem rowsT_at (t : TagT) (m : Nat) (l : List (List Int)) {I o : Nat} (h1 : I ≤ o) (h2 : o < l.length) : (rowsT t m l I)[o]? = some (rowT ((tlsF t m (l.drop o)).headD [])) := by
  unfold rowsT
  rw [List.getElem?_append_right (by simpa using h1), List.length_replicate, List.getElem?_map]
  have e : tlsF t m (l.drop o) = (tlsF t m (l.drop I)).drop (o - I) := by rw [tlsF_drop, List.drop_drop]; congr 2; omega
  have hc := tlsF_cons t m l h2
  have : (tlsF t m (l.drop I))[o - I]? = ((tlsF t m (l.drop I)).drop (o - I))[0]? := by simp
  rw [this, ← e, hc]
  simp
structure GoodT (t : TagT) (m N : Nat) (r : List (List TlT)) : Prop where
  len : r.length = t.1.length
  q : ∀ q ∈ r, q.length ≤ m ∧ ∀ x ∈ q, 0 ≤ x.1 ∧ x.1 ≤ N * 200000000 ∧ x.2.length ≤ N
theorem tlsF_good {t : TagT} (ht : OkT t) {m : Nat} (hm : 1 ≤ m) : ∀ (W : List (List Int)), (∀ w ∈ W, csB t.1.length (-1) w = true) → ∀ r ∈ tlsF t m W, GoodT t m W.length r
  | [], _, r, h => by simp [tlsF] at h
  | [w], hW, r, h => by
    simp only [tlsF, List.mem_singleton] at h
    subst h
    refine ⟨by simp [lastT], fun q hq => ?_⟩
    simp only [lastT, List.mem_map, List.mem_range] at hq
    obtain ⟨k, hk, rfl⟩ := hq
    have h1 := csB_at (hW w (by simp)) hk
    have h2 := csB_at ht.z hk
    split
    · simp
    · refine ⟨by simpa using hm, fun x hx => ?_⟩
      simp only [List.mem_singleton] at hx
      subst hx
      simp only [List.length_cons, List.length_nil]
      omega
  | w :: v :: W, hW, r, h => by
    have ih := tlsF_good ht hm (v :: W) (fun x hx => hW x (by simp [hx]))
    simp only [tlsF] at h
    rcases List.mem_cons.1 h with rfl | h
    · refine ⟨by simp [nextT], fun q hq => ?_⟩
      simp only [nextT, List.mem_map, List.mem_range] at hq
      obtain ⟨k, hk, rfl⟩ := hq
      have h1 := csB_at (hW w (by simp)) hk
      have hkp : k < t.2.2.2.1.length := by rw [ht.pl]; exact hk
      have hpr := csB_rng (ht.p _ (List.getElem_mem hkp))
      have hl := tlsF_len t m (v :: W)
      have hmem : (tlsF t m (v :: W)).headD [] ∈ tlsF t m (v :: W) := by
        cases hrr : tlsF t m (v :: W) with
        | nil => rw [hrr] at hl; simp at hl
        | cons a b => simp
      have hg := ih _ hmem
      split
      · simp
      · refine ⟨mrg_len _ _ _ _ _, fun y hy => ?_⟩
        obtain ⟨p, x, hx, hp, rfl⟩ := mrg_mem (Q := fun x => 0 ≤ x.1 ∧ x.1 ≤ (v :: W).length * 200000000 ∧ x.2.length ≤ (v :: W).length) _ _ _ _ _ (fun r hr x hx => (hg.q r hr).2 x hx) y hy
        have hpb : 0 ≤ p ∧ p ≤ 100000000 := by
          rcases hp with hp | hp
          · rw [List.getD_eq_getElem?_getD, List.getElem?_eq_getElem hkp, Option.getD_some] at hp
            exact hpr p hp
          · omega
        simp only [List.length_cons, tgd] at hx ⊢
        omega
    · have := ih r h
      refine ⟨this.len, fun q hq => ⟨(this.q q hq).1, fun x hx => ?_⟩⟩
      have := (this.q q hq).2 x hx
      simp only [List.length_cons] at this ⊢
      omega

end Go.Proofs
