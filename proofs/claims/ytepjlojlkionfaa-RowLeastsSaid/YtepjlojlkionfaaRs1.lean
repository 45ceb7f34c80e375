/- Plain laws. -/
import Derived.Test.YtepjlojlkionfaaRq9
set_option linter.all false
set_option maxHeartbeats 2000000
namespace Go.Proofs
open Go Go.AM
/-! The first of what is so, in order. -/
structure FirstM {α : Type} (c : α → α → Int) (M : Nat) (V : α → Prop) (L : List α) : Prop where
  asc : L.Pairwise (fun a b => c a b < 0)
  mem : ∀ x ∈ L, V x
  len : L.length ≤ M
  out : ∀ v, V v → v ∉ L → L.length = M ∧ ∀ x ∈ L, c x v < 0
section first
variable {α : Type} {c : α → α → Int} {M : Nat} {V : α → Prop} {L L' X R : List α}
theorem FirstM.nodup (hc : Lin c) (h : FirstM c M V L) : L.Nodup := h.asc.imp fun {a b} hab e => by subst e; exact hc.irr _ hab
theorem sub_perm : ∀ {A B : List α}, A.Nodup → (∀ x ∈ A, x ∈ B) → ∃ C, B.Perm (A ++ C)
  | [], B, _, _ => ⟨B, by simp⟩
  | a :: A, B, hn, h => by
    obtain ⟨ha, hA⟩ := List.nodup_cons.1 hn
    obtain ⟨s, t, rfl⟩ := List.append_of_mem (h a (by simp))
    obtain ⟨C, hC⟩ := sub_perm (B := s ++ t) hA fun x hx => by
      have := h x (by simp [hx])
      simp only [List.mem_append, List.mem_cons] at this ⊢
      rcases this with q | rfl | q
      · exact .inl q
      · exact (ha hx).elim
      · exact .inr q
    exact ⟨C, List.perm_middle.trans (by simpa using hC)⟩
theorem sub_len {A B : List α} (hA : A.Nodup) (h : ∀ x ∈ A, x ∈ B) : A.length ≤ B.length := by
  obtain ⟨C, hC⟩ := sub_perm hA h
  have := hC.length_eq
  simp at this; omega
theorem sub_all {A B : List α} (hA : A.Nodup) (h : ∀ x ∈ A, x ∈ B) (hl : B.length ≤ A.length) : ∀ x ∈ B, x ∈ A := by
  obtain ⟨C, hC⟩ := sub_perm hA h
  have := hC.length_eq
  simp at this
  have hC0 : C = [] := List.length_eq_zero_iff.1 (by omega)
  subst hC0
  intro x hx
  simpa using hC.mem_iff.1 hx
theorem FirstM.sub (hc : Lin c) (h : FirstM c M V L) (h' : FirstM c M V L') : ∀ x ∈ L, x ∈ L' := by
  intro x hx
  apply Classical.byContradiction
  intro hn
  obtain ⟨f, a⟩ := h'.out x (h.mem x hx) hn
  by_cases hall : ∀ y ∈ L', y ∈ L
  · have h1 : (x :: L').Nodup := List.nodup_cons.2 ⟨hn, h'.nodup hc⟩
    have h2 := sub_len (B := L) h1 (fun y hy => by
      rcases List.mem_cons.1 hy with rfl | hy
      · exact hx
      · exact hall y hy)
    have := h.len
    simp only [List.length_cons] at h2
    omega
  · simp only [Classical.not_forall] at hall
    obtain ⟨y, hy, hyn⟩ := hall
    have h1 := (h.out y (h'.mem y hy) hyn).2 x hx
    have h2 := a y hy
    exact hc.asy h1 h2
theorem FirstM.uniq (hc : Lin c) (h : FirstM c M V L) (h' : FirstM c M V L') : L = L' :=
  asc_one hc h.asc h'.asc fun x => ⟨h.sub hc h' x, h'.sub hc h x⟩
theorem FirstM.congr {V' : α → Prop} (h : FirstM c M V L) (hV : ∀ x, V x ↔ V' x) : FirstM c M V' L :=
  ⟨h.asc, fun x hx => (hV x).1 (h.mem x hx), h.len, fun v hv hn => h.out v ((hV v).2 hv) hn⟩
theorem first_srt (hc : Lin c) (hX : X.Nodup) (M : Nat) : FirstM c M (· ∈ X) ((srt c X).take M) := by
  have hn : (srt c X).Nodup := (srt_perm X).nodup_iff.2 hX
  have hp : (srt c X).Pairwise (fun a b => c a b < 0) := by
    refine ((srt_pw hc X).and hn).imp fun {a b} h => ?_
    by_cases e : c a b = 0
    · exact absurd (hc.zero e) h.2
    · by_cases h2 : c a b < 0
      · exact h2
      · exact absurd (hc.pos.1 (by omega)) h.1
  refine ⟨hp.sublist (List.take_sublist _ _), fun x hx => (srt_mem X x).1 (List.mem_of_mem_take hx), by simp; omega, fun v hv hn2 => ?_⟩
  have hv2 : v ∈ srt c X := (srt_mem X v).2 hv
  rw [← List.take_append_drop M (srt c X)] at hv2 hp
  have hd : v ∈ (srt c X).drop M := (List.mem_append.1 hv2).resolve_left hn2
  have hl : M < (srt c X).length := by
    have := List.length_pos_of_mem hd
    simp at this; omega
  exact ⟨by simp; omega, fun x hx => (List.pairwise_append.1 hp).2.2 x hx v hd⟩
theorem first_full (hc : Lin c) (h : FirstM c M (· ∈ X) R) {Q : List α} {v : α} (hQ : Q.Nodup) (hl : Q.length = M) (hX : ∀ q ∈ Q, q ∈ X) (hv : ∀ q ∈ Q, c q v < 0) : R.length = M ∧ ∀ x ∈ R, c x v < 0 := by
  by_cases hall : ∀ q ∈ Q, q ∈ R
  · have h1 := sub_len hQ hall
    have h2 := h.len
    refine ⟨by omega, fun x hx => ?_⟩
    exact hv x (sub_all hQ hall (by omega) x hx)
  · simp only [Classical.not_forall] at hall
    obtain ⟨q, hq, hqn⟩ := hall
    obtain ⟨h1, h2⟩ := h.out q (hX q hq) hqn
    exact ⟨h1, fun x hx => hc.tr (h2 x hx) (hv q hq)⟩
/-- From the first of a list to the first of all: what is out of the list has enough of the list ahead of it. -/
theorem first_up (hc : Lin c) (h : FirstM c M (· ∈ X) R) (hX : ∀ x ∈ X, V x) (hup : ∀ v, V v → v ∉ X → ∃ Q : List α, Q.Nodup ∧ Q.length = M ∧ (∀ q ∈ Q, q ∈ X) ∧ ∀ q ∈ Q, c q v < 0) : FirstM c M V R := by
  refine ⟨h.asc, fun x hx => hX x (h.mem x hx), h.len, fun v hv hn => ?_⟩
  by_cases hvX : v ∈ X
  · exact h.out v hvX hn
  · obtain ⟨Q, q1, q2, q3, q4⟩ := hup v hv hvX
    exact first_full hc h q1 q2 q3 q4
theorem FirstM.take (h : FirstM c M V L) {N : Nat} (hN : N ≤ M) : FirstM c N V (L.take N) := by
  refine ⟨h.asc.sublist (List.take_sublist _ _), fun x hx => h.mem x (List.mem_of_mem_take hx), by simp; omega, fun v hv hn => ?_⟩
  have hp := h.asc
  rw [← List.take_append_drop N L] at hp
  by_cases hvL : v ∈ L
  · rw [← List.take_append_drop N L] at hvL
    have hd : v ∈ L.drop N := (List.mem_append.1 hvL).resolve_left hn
    have := List.length_pos_of_mem hd
    simp at this
    exact ⟨by simp; omega, fun x hx => (List.pairwise_append.1 hp).2.2 x hx v hd⟩
  · obtain ⟨h1, h2⟩ := h.out v hv hvL
    exact ⟨by simp; omega, fun x hx => h2 x (List.mem_of_mem_take hx)⟩
end first

end Go.Proofs
