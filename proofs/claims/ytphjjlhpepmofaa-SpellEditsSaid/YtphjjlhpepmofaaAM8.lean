/- Lists laid over lists. -/
import Derived.Test.YtphjjlhpepmofaaAM7
set_option linter.all false
namespace Go.AM
open Go

theorem lay_get {c : List Value} {k : Nat} {news : List Value} (h : k + news.length ≤ c.length) (j : Nat) :
    (lay c k news)[j]? = if j < k then c[j]? else if j < k + news.length then news[j - k]? else c[j]? := by
  simp only [lay, List.getElem?_append, List.length_append, List.length_take, List.getElem?_take, List.getElem?_drop]
  have e1 : min k c.length = k := by omega
  rw [e1]
  by_cases h1 : j < k
  · rw [if_pos (by omega), if_pos h1, if_pos h1, if_pos h1]
  · by_cases h2 : j < k + news.length
    · rw [if_pos h2, if_neg h1, if_neg h1, if_pos h2]
    · rw [if_neg h2, if_neg h1, if_neg h2]; congr 1; omega

theorem drop_lay {c : List Value} {k m : Nat} {news : List Value} (h : k + news.length ≤ c.length) (hm : m ≤ k) : (lay c k news).drop m = lay (c.drop m) (k - m) news := by
  apply List.ext_getElem?
  intro j
  rw [List.getElem?_drop, lay_get h, lay_get (by simp; omega), List.getElem?_drop]
  by_cases h1 : m + j < k
  · rw [if_pos h1, if_pos (show j < k - m by omega)]
  · rw [if_neg h1, if_neg (show ¬ j < k - m by omega)]
    by_cases h2 : m + j < k + news.length
    · rw [if_pos h2, if_pos (show j < k - m + news.length by omega)]; congr 1; omega
    · rw [if_neg h2, if_neg (show ¬ j < k - m + news.length by omega)]

theorem take_lay {c : List Value} {k m : Nat} {news : List Value} (h : k + news.length ≤ c.length) (hm : k + news.length ≤ m) : (lay c k news).take m = lay (c.take m) k news := by
  apply List.ext_getElem?
  intro j
  rw [List.getElem?_take, lay_get h, lay_get (by simp; omega), List.getElem?_take]
  by_cases h0 : j < m
  · simp only [if_pos h0]
  · simp only [if_neg h0, if_neg (show ¬ j < k by omega), if_neg (show ¬ j < k + news.length by omega)]

theorem lay_seg {vs : List Value} {p sz off : Nat} {news : List Value} (h : off + news.length ≤ sz) (hv : p + sz ≤ vs.length) :
    lay vs (p + off) news = vs.take p ++ lay ((vs.drop p).take sz) off news ++ vs.drop (p + sz) := by
  have hl : ((vs.drop p).take sz).length = sz := by simp; omega
  apply List.ext_getElem?
  intro j
  rw [lay_get (by omega)]
  rw [List.getElem?_append, List.getElem?_append, List.length_append, lay_length (by rw [hl]; exact h), hl, lay_get (by rw [hl]; exact h)]
  have e1 : (vs.take p).length = p := by simp; omega
  rw [e1, List.getElem?_take, List.getElem?_take, List.getElem?_drop, List.getElem?_drop]
  by_cases h1 : j < p
  · rw [if_pos (show j < p + off by omega), if_pos (show j < p + sz by omega), if_pos h1, if_pos h1]
  · by_cases h2 : j < p + sz
    · rw [if_pos h2, if_neg h1]
      by_cases h3 : j < p + off
      · rw [if_pos h3, if_pos (show j - p < off by omega), if_pos (show j - p < sz by omega)]; congr 1; omega
      · rw [if_neg h3, if_neg (show ¬ j - p < off by omega)]
        by_cases h4 : j < p + off + news.length
        · rw [if_pos h4, if_pos (show j - p < off + news.length by omega)]; congr 1; omega
        · rw [if_neg h4, if_neg (show ¬ j - p < off + news.length by omega), if_pos (show j - p < sz by omega)]; congr 1; omega
    · rw [if_neg (show ¬ j < p + off by omega), if_neg (show ¬ j < p + off + news.length by omega), if_neg h2]; congr 1; omega

theorem RepL.lay {W : World} {ok : Nat → Prop} {cs ns : List PV} {vs us : List Value} {off : Nat} (r : RepL W ok 1 cs vs) (r' : RepL W ok 1 ns us) : RepL W ok 1 (layP cs off ns) (lay vs off us) := by
  have h1 := r.take off
  have h2 := r.drop (off + ns.length)
  have h3 := r'.length
  simp only [Nat.mul_one] at h1 h2 h3
  unfold layP AM.lay
  rw [h3]
  exact (h1.append r').append h2

theorem layP_length {α : Type} {c : List α} {o : Nat} {news : List α} (h : o + news.length ≤ c.length) : (layP c o news).length = c.length := by
  simp [layP]; omega

theorem layP_mem {cs ns : List PV} {off : Nat} (h1 : ∀ p ∈ cs, p.isSt = false) (h2 : ∀ p ∈ ns, p.isSt = false) : ∀ p ∈ layP cs off ns, p.isSt = false := by
  intro p hp
  simp only [layP, List.mem_append] at hp
  rcases hp with (hp | hp) | hp
  · exact h1 p (List.mem_of_mem_take hp)
  · exact h2 p hp
  · exact h1 p (List.mem_of_mem_drop hp)

/-- A part of an element is written anew. -/
theorem RepC.layEl {W : World} {ok : Nat → Prop} {q p : PV} {vs us : List Value} {off : Nat} (r : RepC W ok q vs) (r' : RepC W ok p us) (h : off + p.cells.length ≤ q.cells.length) :
    RepC W ok (mkEl q (layP q.cells off p.cells)) (lay vs off us) := by
  obtain ⟨h1, h2⟩ := r.cells
  obtain ⟨h3, h4⟩ := r'.cells
  have h5 := h1.lay (off := off) h3
  have h6 := layP_mem (off := off) h2 h4
  unfold mkEl
  by_cases hq : q.isSt = true
  · rw [if_pos hq]; exact .st h6 h5
  · rw [if_neg hq]
    have hl : (layP q.cells off p.cells).length = 1 := by
      rw [layP_length h]; cases q <;> simp at *
    match hx : layP q.cells off p.cells, hl with
    | [x], _ =>
      rw [hx] at h5
      generalize AM.lay vs off us = ws at h5
      cases h5 with
      | cons g1 g2 g3 => cases g3; simpa using g2

/-- The fold that fills. -/
theorem fold_lay (off : Nat) : ∀ (us : List Value) (k : Nat) (cells : Array Value), off + k + us.length ≤ cells.size →
    ((us.zipIdx k).foldl (fun cs (x : Value × Nat) => cs.setIfInBounds (off + x.2) x.1) cells).toList = lay cells.toList (off + k) us
  | [], k, cells, _ => by simp [lay_nil]
  | v :: us, k, cells, h => by
    simp only [List.length_cons] at h
    rw [List.zipIdx_cons, List.foldl_cons, fold_lay off us (k + 1) _ (by simp; omega), lay_cons (by simp; omega)]
    simp [Nat.add_assoc]

theorem fold_lay' (off : Nat) (us : Array Value) (cells : Array Value) (h : off + us.size ≤ cells.size) :
    (us.zipIdx.foldl (fun cs (x : Value × Nat) => cs.setIfInBounds (off + x.2) x.1) cells).toList = lay cells.toList off us.toList := by
  have := fold_lay off us.toList 0 cells (by simpa using h)
  rw [← Array.foldl_toList]
  simpa using this

end Go.AM
