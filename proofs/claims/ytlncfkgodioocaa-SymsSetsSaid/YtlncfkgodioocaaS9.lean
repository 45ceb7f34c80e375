/- Sets of texts: what is sorted and compact, and what the reference takes out one by one, is the one strictly ascending list of the same texts; what is sifted is filtered. -/
import Derived.Test.YtlncfkgodioocaaS8
import Derived.Test.YtlncfkgodioocaaQ1d
import Derived.Test.YtlncfkgodioocaaQ0i
import Derived.Test.YtlncfkgodioocaaSlS
import Derived.Test.YtlncfkgodioocaaQ1d
import Derived.Test.YtlncfkgodioocaaQ1d
import Derived.Test.YtlncfkgodioocaaQ0i
import Derived.Test.YtlncfkgodioocaaQ0i
namespace Go.Proofs.Ytlncfkgodioocaa.P
open Go.RowKit Go.Proofs.YtlncfkgodioocaaW.PrintWords
set_option linter.unusedSimpArgs false
set_option linter.unusedVariables false

/-- Of an alphabet: few symbols, short, in order. -/
theorem vSigma_okS {l : List ByteArray} (hv : vSigma l = 0) : l.length ≤ 40 ∧ l.any isLong = false ∧ l.all isSym = true ∧ isSet l = true := by
  unfold vSigma at hv
  by_cases h : 40 < l.length
  · simp [h] at hv
  · rw [if_neg h] at hv
    cases hL : l.any isLong with
    | true => rw [hL] at hv; simp at hv
    | false =>
      rw [hL] at hv
      cases hA : l.all isSym with
      | false => rw [hA] at hv; simp at hv
      | true =>
        rw [hA] at hv
        cases hS : isSet l with
        | false => rw [hS] at hv; simp at hv
        | true => exact ⟨by omega, rfl, rfl, rfl⟩

abbrev Asc (l : List ByteArray) : Prop := l.Pairwise fun a b => lt a b = true

theorem asc_unique : ∀ (l m : List ByteArray), Asc l → Asc m → (∀ x, x ∈ l ↔ x ∈ m) → l = m
  | [], [], _, _, _ => rfl
  | [], y :: m, _, _, h => by have := (h y).2 (by simp); simp at this
  | x :: l, [], _, _, h => by have := (h x).1 (by simp); simp at this
  | x :: l, y :: m, hl, hm, h => by
    obtain ⟨h1, h2⟩ := List.pairwise_cons.1 hl
    obtain ⟨h3, h4⟩ := List.pairwise_cons.1 hm
    have hxy : x = y := by
      rcases List.mem_cons.1 ((h x).1 (by simp)) with e | e
      · exact e
      · rcases List.mem_cons.1 ((h y).2 (by simp)) with e2 | e2
        · exact e2.symm
        · have := lt_asymm (h3 x e); rw [h1 y e2] at this; cases this
    subst hxy
    congr 1
    refine asc_unique l m h2 h4 fun z => ⟨fun hz => ?_, fun hz => ?_⟩
    · rcases List.mem_cons.1 ((h z).1 (by simp [hz])) with e | e
      · subst e; have := lt_irrefl z; rw [h1 z hz] at this; cases this
      · exact e
    · rcases List.mem_cons.1 ((h z).2 (by simp [hz])) with e | e
      · subst e; have := lt_irrefl z; rw [h3 z hz] at this; cases this
      · exact e

theorem asc_of_isSet : ∀ (l : List ByteArray), isSet l = true → Asc l
  | [], _ => .nil
  | [x], _ => by simp [Asc]
  | x :: y :: l, h => by
    rw [isSet, Bool.and_eq_true] at h
    have ih := asc_of_isSet (y :: l) h.2
    refine List.pairwise_cons.2 ⟨fun z hz => ?_, ih⟩
    rcases List.mem_cons.1 hz with rfl | hz
    · exact h.1
    · exact lt_trans h.1 ((List.pairwise_cons.1 ih).1 z hz)
theorem isSet_of_asc : ∀ (l : List ByteArray), Asc l → isSet l = true
  | [], _ => rfl
  | [x], _ => rfl
  | x :: y :: l, h => by
    obtain ⟨h1, h2⟩ := List.pairwise_cons.1 h
    rw [isSet, h1 y (by simp), isSet_of_asc _ h2]; rfl

/-! ### sorted, and compact -/
theorem less_lt : ∀ a b : List UInt8, Op.bytesLess a b = decide (a < b)
  | _, [] => by simp [Op.bytesLess]
  | [], _ :: _ => by simp [Op.bytesLess]
  | x :: a, y :: b => by
    rw [Op.bytesLess, less_lt a b]
    rw [Bool.eq_iff_iff]
    simp only [Bool.or_eq_true, Bool.and_eq_true, decide_eq_true_eq, beq_iff_eq, List.cons_lt_cons_iff]
theorem le_less (a b : List UInt8) : decide (a ≤ b) = !Op.bytesLess b a := by
  rw [less_lt, Bool.eq_iff_iff]
  simp only [decide_eq_true_eq, Bool.not_eq_true', decide_eq_false_iff_not]
  exact Iff.rfl
theorem less_total (a b : List UInt8) : Op.bytesLess a b = false → Op.bytesLess b a = false → a = b := by
  intro h k
  have := @lt_eq ⟨a.toArray⟩ ⟨b.toArray⟩ (by simpa [lt, toList_mk] using h) (by simpa [lt, toList_mk] using k)
  have h2 := congrArg ByteArray.toList this
  simpa [toList_mk] using h2
theorem le_trans' (a b c : List UInt8) (h : (!Op.bytesLess b a) = true) (k : (!Op.bytesLess c b) = true) : (!Op.bytesLess c a) = true := by
  simp only [Bool.not_eq_true'] at *
  cases h1 : Op.bytesLess c a with
  | false => rfl
  | true =>
    cases h2 : Op.bytesLess a b with
    | true => rw [less_trans _ _ _ h1 h2] at k; cases k
    | false =>
      have := less_total _ _ h2 h
      subst this
      rw [h1] at k; cases k

theorem sort_le (l : List (List UInt8)) : (l.mergeSort fun x y => decide (x ≤ y)).Pairwise fun x y => Op.bytesLess y x = false := by
  have h := List.pairwise_mergeSort (le := fun x y => decide (x ≤ y)) (by
    intro a b c h k
    rw [le_less] at *
    exact le_trans' a b c h k) (by
    intro a b
    rw [le_less, le_less]
    cases h1 : Op.bytesLess b a with
    | false => simp
    | true =>
      cases h2 : Op.bytesLess a b with
      | false => simp
      | true => have := less_trans _ _ _ h1 h2; rw [less_irrefl] at this; cases this) l
  refine h.imp ?_
  intro a b hab
  rw [le_less] at hab
  simpa using hab
theorem sort_mem (l : List (List UInt8)) (x : List UInt8) : x ∈ (l.mergeSort fun x y => decide (x ≤ y)) ↔ x ∈ l := (List.mergeSort_perm l _).mem_iff

theorem compact_upTo (zs : List (List UInt8)) (hs : zs.Pairwise fun x y => Op.bytesLess y x = false) : ∀ m, m ≤ zs.length →
    (Lib.compactUpTo zs.toArray m).Pairwise (fun x y => Op.bytesLess x y = true) ∧ ∀ x, x ∈ Lib.compactUpTo zs.toArray m ↔ x ∈ zs.take m
  | 0, _ => by simp [Lib.compactUpTo]
  | m + 1, hm => by
    obtain ⟨h1, h2⟩ := compact_upTo zs hs m (by omega)
    have hm' : m < zs.length := by omega
    have hget : zs.toArray[m]! = zs[m] := by simp [hm']
    have htake : zs.take (m + 1) = zs.take m ++ [zs[m]] := by rw [List.take_succ_eq_append_getElem hm']
    rw [Lib.compactUpTo_succ, htake, hget]
    have hle : ∀ x ∈ zs.take m, Op.bytesLess zs[m] x = false := by
      intro x hx
      obtain ⟨j, hj, rfl⟩ := List.getElem_of_mem hx
      have hj2 : j < m := by have := hj; simp at this; omega
      have := List.pairwise_iff_getElem.1 hs j m (by omega) hm' hj2
      simpa using this
    cases hk : Lib.keeps zs.toArray m with
    | false =>
      simp only [Bool.false_eq_true, if_false, List.append_nil]
      refine ⟨h1, fun x => ?_⟩
      rw [h2, List.mem_append, List.mem_singleton]
      refine ⟨.inl, fun h => h.elim id fun e => ?_⟩
      subst e
      have h3 : ¬ (m = 0 ∨ zs.toArray[m]! ≠ zs.toArray[m - 1]!) := by simpa [Lib.keeps] using hk
      have h4 : m ≠ 0 := fun e => h3 (.inl e)
      have h5 : zs.toArray[m]! = zs.toArray[m - 1]! := Classical.byContradiction fun e => h3 (.inr e)
      have hm1 : m - 1 < zs.length := by omega
      rw [hget, show zs.toArray[m - 1]! = zs[m - 1] by simp [hm1]] at h5
      rw [h5]
      exact List.mem_iff_getElem.2 ⟨m - 1, by simp; omega, by simp⟩
    | true =>
      simp only [if_true]
      refine ⟨List.pairwise_append.2 ⟨h1, by simp, fun x hx y hy => ?_⟩, fun x => by rw [List.mem_append, List.mem_append, h2]⟩
      rw [List.mem_singleton.1 hy]
      have hx2 := (h2 x).1 hx
      cases hlt : Op.bytesLess x zs[m] with
      | true => rfl
      | false =>
        have heq := less_total _ _ hlt (hle x hx2)
        subst heq
        have h3 : m = 0 ∨ zs.toArray[m]! ≠ zs.toArray[m - 1]! := by simpa [Lib.keeps] using hk
        rcases h3 with h3 | h3
        · subst h3; simp at hx2
        · exfalso
          apply h3
          have hm0 : m ≠ 0 := by rintro rfl; simp at hx2
          have hm1 : m - 1 < zs.length := by omega
          rw [hget, show zs.toArray[m - 1]! = zs[m - 1] by simp [hm1]]
          obtain ⟨j, hj, ej⟩ := List.getElem_of_mem hx2
          have hj2 : j < m := by have := hj; simp at this; omega
          have ej2 : zs[j]'(by omega) = zs[m] := by simpa using ej
          apply less_total
          · cases hc : Op.bytesLess zs[m] zs[m - 1] with
            | false => rfl
            | true =>
              have := List.pairwise_iff_getElem.1 hs (m - 1) m hm1 hm' (by omega)
              rw [hc] at this; cases this
          · rcases Nat.lt_or_ge j (m - 1) with h | h
            · have := List.pairwise_iff_getElem.1 hs j (m - 1) (by omega) hm1 h
              rw [ej2] at this; exact this
            · have : j = m - 1 := by omega
              subst this
              rw [ej2]; exact less_irrefl _

theorem sets_asc (l : List ByteArray) : Asc (compactB (sortB l)) ∧ ∀ x, x ∈ compactB (sortB l) ↔ x ∈ l := by
  have e : (sortB l).map (·.data.toList) = (l.map (·.data.toList)).mergeSort fun x y => decide (x ≤ y) := by
    unfold sortB
    rw [List.map_map]
    have : ((fun x : ByteArray => x.data.toList) ∘ ofL) = id := by funext x; exact ofL_toList x
    rw [this, List.map_id]
  have h := compact_upTo _ (sort_le (l.map (·.data.toList))) _ (Nat.le_refl _)
  rw [List.take_length] at h
  unfold compactB Lib.compact
  rw [e]
  refine ⟨?_, fun x => ?_⟩
  · rw [Asc, List.pairwise_map]
    refine h.1.imp ?_
    intro a b hab
    simpa [lt, ofL, toList_mk] using hab
  · rw [List.mem_map]
    constructor
    · rintro ⟨y, hy, rfl⟩
      obtain ⟨z, hz, rfl⟩ := List.mem_map.1 ((sort_mem _ _).1 ((h.2 y).1 hy))
      rw [toL_of]; exact hz
    · intro hx
      exact ⟨x.data.toList, (h.2 _).2 ((sort_mem _ _).2 (List.mem_map.2 ⟨x, hx, rfl⟩)), toL_of x⟩

/-! ### the reference's set -/
/-- above the last of those that are out. -/
def above (o : List ByteArray) (s : ByteArray) : Bool := match o.getLast? with | none => true | some x => lt x s
def pick (o : List ByteArray) : List ByteArray → ByteArray → Bool → Option ByteArray
  | [], b, f => if f then some b else none
  | s :: l, b, f => if above o s && (!f || lt s b) then pick o l s true else pick o l b f
theorem pick_spec (o : List ByteArray) : ∀ (l : List ByteArray) (b : ByteArray) (f : Bool), (f = true → above o b = true) →
    match pick o l b f with
    | none => f = false ∧ ∀ s ∈ l, above o s = false
    | some r => above o r = true ∧ (r ∈ l ∨ f = true ∧ r = b) ∧ (∀ s ∈ l, above o s = true → lt s r = false) ∧ (f = true → lt b r = false)
  | [], b, f, hf => by
    unfold pick
    cases f with
    | false => simp
    | true => simpa [lt_irrefl] using hf rfl
  | s :: l, b, f, hf => by
    rw [pick]
    by_cases hc : (above o s && (!f || lt s b)) = true
    · rw [if_pos hc]
      obtain ⟨h1, h2⟩ := Bool.and_eq_true_iff.1 hc
      have ih := pick_spec o l s true (fun _ => h1)
      split
      · rename_i hp; rw [hp] at ih; simp at ih
      · rename_i r hp
        rw [hp] at ih
        obtain ⟨i1, i2, i3, i4⟩ := ih
        have i4 := i4 rfl
        refine ⟨i1, ?_, ?_, ?_⟩
        · rcases i2 with i2 | ⟨_, rfl⟩ <;> simp [*]
        · intro t ht hat
          rcases List.mem_cons.1 ht with rfl | ht
          · exact i4
          · exact i3 t ht hat
        · intro hft
          rw [hft] at h2
          simp only [Bool.not_true, Bool.false_or] at h2
          cases hbr : lt b r with
          | false => rfl
          | true => rw [lt_trans h2 hbr] at i4; cases i4
    · rw [if_neg hc]
      have ih := pick_spec o l b f hf
      split
      · rename_i hp
        rw [hp] at ih
        refine ⟨ih.1, fun t ht => ?_⟩
        rcases List.mem_cons.1 ht with rfl | ht
        · rw [ih.1] at hc; simpa using hc
        · exact ih.2 t ht
      · rename_i r hp
        rw [hp] at ih
        obtain ⟨i1, i2, i3, i4⟩ := ih
        refine ⟨i1, ?_, ?_, i4⟩
        · rcases i2 with i2 | i2
          · exact .inl (by simp [i2])
          · exact .inr i2
        · intro t ht hat
          rcases List.mem_cons.1 ht with rfl | ht
          · rw [hat, Bool.true_and] at hc
            cases f with
            | false => simp at hc
            | true =>
              simp only [Bool.not_true, Bool.false_or, Bool.not_eq_true] at hc
              have i4 := i4 rfl
              cases htr : lt t r with
              | false => rfl
              | true =>
                cases hbt : lt b t with
                | true => rw [lt_trans hbt htr] at i4; cases i4
                | false => have := lt_eq hc hbt; subst this; rw [htr] at i4; cases i4
          · exact i3 t ht hat

theorem last_rd (o : List ByteArray) (h : o ≠ []) : ∃ x, o.getLast? = some x ∧ rdOf ByteArray.empty o (((o.length - 1 : Nat)) : Int) = x := by
  have hl : 0 < o.length := List.length_pos_iff.2 h
  refine ⟨o[o.length - 1], ?_, rdOf_nat _ _ (by omega)⟩
  rw [List.getLast?_eq_getElem?, List.getElem?_eq_getElem (by omega)]

theorem Set_l1 (l o : List ByteArray) (hlen : l.length < 8796093022208) (ho : o.length < 8796093022208) (r : List ByteArray) :
    ∀ (d j : Nat) (b : ByteArray) (f : Bool), l.length = j + d →
    (match pick o (l.drop j) b f with | none => r = o | some x => Ev (fun k => ablautref01_Set.l0 k l (o ++ [x])) r) →
    Ev (fun k => ablautref01_Set.l1 k l o b f (j : Int)) r := by
  intro d
  induction d with
  | zero =>
    intro j b f hj h
    rw [List.drop_eq_nil_of_le (show l.length ≤ j by omega)] at h
    refine Ev.step (fun k => ablautref01_Set.l1.eq_2 _ _ _ _ _ _) ?_
    simp only [show ¬ ((j : Int) < (l.length : Int)) from by omega, if_false]
    cases f with
    | false => simp only [pick, Bool.false_eq_true, if_false] at h ⊢; subst h; exact Ev.now _
    | true => simp only [pick, if_true] at h ⊢; simp only [show o.length < 8796093022208 from ho, if_true]; exact h
  | succ d ih =>
    intro j b f hj h
    have hj' : j < l.length := by omega
    rw [List.drop_eq_getElem_cons hj', pick] at h
    refine Ev.step (fun k => ablautref01_Set.l1.eq_2 _ _ _ _ _ _) ?_
    have hw : wrap64 ((j : Int) + 1) = ((j + 1 : Nat) : Int) := wrap_succ (by omega)
    simp only [hw, rdOf_nat _ _ hj', show ((j : Int) < (l.length : Int)) from by omega, show (0 : Int) ≤ (j : Int) from by omega, if_true]
    clear hw
    have hgo : ∀ (x : ByteArray) (f' : Bool), (if (above o l[j] && (!f || lt l[j] b)) = true then (l[j], true) else (b, f)) = (x, f') → Ev (fun k => ablautref01_Set.l1 k l o x f' (((j + 1 : Nat)) : Int)) r := by
      intro x f' e
      refine ih (j + 1) x f' (by omega) ?_
      by_cases hc : (above o l[j] && (!f || lt l[j] b)) = true
      · rw [if_pos hc] at e h; obtain ⟨rfl, rfl⟩ := Prod.mk.inj e; exact h
      · rw [if_neg hc] at e h; obtain ⟨rfl, rfl⟩ := Prod.mk.inj e; exact h
    by_cases he : o = []
    · subst he
      have ha : above [] l[j] = true := rfl
      rw [ha, Bool.true_and] at hgo
      simp only [List.length_nil, Int.natCast_zero, if_true]
      cases f with
      | false => simp only [Bool.false_eq_true, if_false]; exact hgo _ _ (by simp)
      | true =>
        simp only [if_true]
        by_cases hb : Op.bytesLess l[j].toList b.toList = true
        · simp only [hb, if_true]; exact hgo _ _ (by simp [lt, hb])
        · simp only [hb, if_false]; exact hgo _ _ (by simp [lt, hb])
    · obtain ⟨x, hx1, hx2⟩ := last_rd o he
      have hol : 0 < o.length := List.length_pos_iff.2 he
      have ha : above o l[j] = lt x l[j] := by unfold above; rw [hx1]
      have hw2 : wrap64 ((o.length : Int) - 1) = ((o.length - 1 : Nat) : Int) := wrap_pred (by omega) (by omega)
      simp only [hw2, hx2, show ¬ ((o.length : Int) = 0) from by omega, show (0 : Int) ≤ ((o.length - 1 : Nat) : Int) from by omega, show ((o.length - 1 : Nat) : Int) < (o.length : Int) from by omega, if_true, if_false]
      rw [ha] at hgo
      by_cases hxl : Op.bytesLess x.toList l[j].toList = true
      · simp only [hxl, if_true]
        have hl2 : lt x l[j] = true := hxl
        rw [hl2, Bool.true_and] at hgo
        cases f with
        | false => simp only [Bool.false_eq_true, if_false]; exact hgo _ _ (by simp)
        | true =>
          simp only [if_true]
          by_cases hb : Op.bytesLess l[j].toList b.toList = true
          · simp only [hb, if_true]; exact hgo _ _ (by simp [lt, hb])
          · simp only [hb, if_false]; exact hgo _ _ (by simp [lt, hb])
      · simp only [hxl, if_false]
        have hl2 : lt x l[j] = false := by simpa [lt] using hxl
        rw [hl2, Bool.false_and] at hgo
        exact hgo _ _ (by simp)

theorem asc_snoc {o : List ByteArray} {x : ByteArray} (h : Asc o) (ha : above o x = true) : Asc (o ++ [x]) := by
  refine List.pairwise_append.2 ⟨h, by simp, fun a hao b hb => ?_⟩
  rw [List.mem_singleton.1 hb]
  have hne : o ≠ [] := fun e => by subst e; simp at hao
  obtain ⟨y, hy, _⟩ := last_rd o hne
  unfold above at ha
  rw [hy] at ha
  have hy2 : o = o.dropLast ++ [y] := by
    have := List.dropLast_concat_getLast hne
    rw [List.getLast?_eq_some_getLast hne] at hy
    injection hy with hy
    rw [← hy]; exact this.symm
  rw [hy2] at hao h
  rcases List.mem_append.1 hao with h2 | h2
  · exact lt_trans ((List.pairwise_append.1 h).2.2 a h2 y (by simp)) ha
  · rw [List.mem_singleton.1 h2]; exact ha
theorem above_snoc (o : List ByteArray) (x s : ByteArray) : above (o ++ [x]) s = lt x s := by simp [above]

theorem Set_l0 (l : List ByteArray) (hlen : l.length < 8796093022208) : ∀ (m : Nat) (o : List ByteArray), (l.filter (above o)).length ≤ m → Asc o → (∀ x ∈ o, x ∈ l) → (∀ s ∈ l, s ∈ o ∨ above o s = true) → o.length + (l.filter (above o)).length ≤ l.length →
    ∃ r, Ev (fun k => ablautref01_Set.l0 k l o) r ∧ Asc r ∧ ∀ x, x ∈ r ↔ x ∈ l := by
  intro m
  induction m with
  | zero =>
    intro o hm ha hs hc hn
    have hnil : l.filter (above o) = [] := List.eq_nil_of_length_eq_zero (by omega)
    have hp := pick_spec o l (⟨#[]⟩ : ByteArray) false (by simp)
    refine ⟨o, Ev.step (fun k => ablautref01_Set.l0.eq_2 _ _ _) (Set_l1 l o hlen (by omega) o l.length 0 _ false (by omega) ?_), ha, fun x => ⟨hs x, fun hx => ?_⟩⟩
    · rw [List.drop_zero]
      split
      · rfl
      · rename_i r hr
        rw [hr] at hp
        obtain ⟨p1, p2, _⟩ := hp
        simp at p2
        have : r ∈ l.filter (above o) := List.mem_filter.2 ⟨p2, p1⟩
        rw [hnil] at this; simp at this
    · rcases hc x hx with h | h
      · exact h
      · have : x ∈ l.filter (above o) := List.mem_filter.2 ⟨hx, h⟩
        rw [hnil] at this; simp at this
  | succ m ih =>
    intro o hm ha hs hc hn
    have hp := pick_spec o l (⟨#[]⟩ : ByteArray) false (by simp)
    cases hpk : pick o l (⟨#[]⟩ : ByteArray) false with
    | none =>
      rw [hpk] at hp
      refine ⟨o, Ev.step (fun k => ablautref01_Set.l0.eq_2 _ _ _) (Set_l1 l o hlen (by omega) o l.length 0 _ false (by omega) (by rw [List.drop_zero, hpk])), ha, fun x => ⟨hs x, fun hx => ?_⟩⟩
      rcases hc x hx with h | h
      · exact h
      · have := hp.2 x hx; rw [h] at this; cases this
    | some x =>
      rw [hpk] at hp
      obtain ⟨p1, p2, p3, _⟩ := hp
      have hxl : x ∈ l := by simpa using p2
      have hsub : ∀ s, above (o ++ [x]) s = true → above o s = true := by
        intro s h
        rw [above_snoc] at h
        cases he : o.getLast? with
        | none => simp [above, he]
        | some y =>
          simp only [above, he] at p1 ⊢
          exact lt_trans p1 h
      have hlt : (l.filter (above (o ++ [x]))).length < (l.filter (above o)).length := by
        have h1 : l.filter (above (o ++ [x])) = (l.filter (above o)).filter (above (o ++ [x])) := by
          rw [List.filter_filter]
          apply List.filter_congr
          intro s _
          cases h2 : above (o ++ [x]) s with
          | false => rfl
          | true => rw [hsub s h2]; rfl
        rw [h1]
        have hmem : x ∈ l.filter (above o) := List.mem_filter.2 ⟨hxl, p1⟩
        refine Nat.lt_of_le_of_ne (List.length_filter_le _ _) fun e => ?_
        have := List.filter_eq_self.1 ((List.filter_sublist).eq_of_length e) x hmem
        rw [above_snoc, lt_irrefl] at this; cases this
      obtain ⟨r, hr, hr2⟩ := ih (o ++ [x]) (by omega) (asc_snoc ha p1) (by
        intro s hs2
        rcases List.mem_append.1 hs2 with h | h
        · exact hs s h
        · rw [List.mem_singleton.1 h]; exact hxl) (by
        intro s hsl
        rcases hc s hsl with h | h
        · exact .inl (by simp [h])
        · have := p3 s hsl h
          cases hxs : lt x s with
          | true => exact .inr (by rw [above_snoc]; exact hxs)
          | false => exact .inl (by rw [lt_eq this hxs]; simp)) (by simp only [List.length_append, List.length_singleton]; omega)
      exact ⟨r, Ev.step (fun k => ablautref01_Set.l0.eq_2 _ _ _) (Set_l1 l o hlen (by omega) r l.length 0 _ false (by omega) (by rw [List.drop_zero, hpk]; exact hr)), hr2⟩

theorem Set_ev (l : List ByteArray) (hlen : l.length < 8796093022208) : Ev (fun k => ablautref01_Set.f k l) (compactB (sortB l)) := by
  obtain ⟨r, hr, ha, hm⟩ := Set_l0 l hlen (l.filter (above [])).length [] (Nat.le_refl _) .nil (by simp) (fun s _ => .inr rfl) (by simpa using List.length_filter_le _ _)
  obtain ⟨h1, h2⟩ := sets_asc l
  have : r = compactB (sortB l) := asc_unique _ _ ha h1 (fun x => by rw [hm, h2])
  subst this
  simpa [ablautref01_Set.f] using hr

/-! ### sifted -/
theorem sifted_l (a b : List ByteArray) (hlen : a.length < 8796093022208) (hb : b.length ≤ 9223372036854775807) : ∀ (d j : Nat) (o : List ByteArray), a.length = j + d → o.length ≤ j →
    Ev (fun k => syms_sifted_string_78_c79.l0 k o a (a.length : Int) (j : Int) b) (o ++ (a.drop j).filter fun s => isIn s b) := by
  intro d
  induction d with
  | zero =>
    intro j o hj _
    refine Ev.step (fun k => syms_sifted_string_78_c79.l0.eq_2 _ _ _ _ _ _) ?_
    simp only [show ¬ ((j : Int) < (a.length : Int)) from by omega, if_false]
    rw [List.drop_eq_nil_of_le (show a.length ≤ j by omega)]
    simpa using Ev.now _
  | succ d ih =>
    intro j o hj ho
    have hj' : j < a.length := by omega
    refine Ev.step (fun k => syms_sifted_string_78_c79.l0.eq_2 _ _ _ _ _ _) ?_
    have hw : wrap64 ((j : Int) + 1) = ((j + 1 : Nat) : Int) := wrap_succ (by omega)
    simp only [hw, rdOf_nat _ _ hj', show ((j : Int) < (a.length : Int)) from by omega, show (0 : Int) ≤ (j : Int) from by omega, if_true, show o.length < 8796093022208 from by omega]
    clear hw
    rw [List.drop_eq_getElem_cons hj', List.filter_cons]
    refine Ev.bind (show Ev (fun k => syms_Both_1_b.f k a[j] b) (isIn a[j] b) from by unfold syms_Both_1_b.f; refine Ev.bind (Contains_ev b a[j] hb) ?_; exact Ev.now _) ?_
    cases isIn a[j] b with
    | true => simpa using ih (j + 1) (o ++ [a[j]]) (by omega) (by simp; omega)
    | false => simpa using ih (j + 1) o (by omega) (by omega)
theorem siftedN_l (a b : List ByteArray) (hlen : a.length < 8796093022208) (hb : b.length ≤ 9223372036854775807) : ∀ (d j : Nat) (o : List ByteArray), a.length = j + d → o.length ≤ j →
    Ev (fun k => syms_sifted_string_78_c81.l0 k o a (a.length : Int) (j : Int) b) (o ++ (a.drop j).filter fun s => !isIn s b) := by
  intro d
  induction d with
  | zero =>
    intro j o hj _
    refine Ev.step (fun k => syms_sifted_string_78_c81.l0.eq_2 _ _ _ _ _ _) ?_
    simp only [show ¬ ((j : Int) < (a.length : Int)) from by omega, if_false]
    rw [List.drop_eq_nil_of_le (show a.length ≤ j by omega)]
    simpa using Ev.now _
  | succ d ih =>
    intro j o hj ho
    have hj' : j < a.length := by omega
    refine Ev.step (fun k => syms_sifted_string_78_c81.l0.eq_2 _ _ _ _ _ _) ?_
    have hw : wrap64 ((j : Int) + 1) = ((j + 1 : Nat) : Int) := wrap_succ (by omega)
    simp only [hw, rdOf_nat _ _ hj', show ((j : Int) < (a.length : Int)) from by omega, show (0 : Int) ≤ (j : Int) from by omega, if_true, show o.length < 8796093022208 from by omega]
    clear hw
    rw [List.drop_eq_getElem_cons hj', List.filter_cons]
    refine Ev.bind (show Ev (fun k => syms_Less_1_b.f k a[j] b) (!isIn a[j] b) from by unfold syms_Less_1_b.f; refine Ev.bind (Contains_ev b a[j] hb) ?_; exact Ev.now _) ?_
    cases isIn a[j] b with
    | false => simpa using ih (j + 1) (o ++ [a[j]]) (by omega) (by simp; omega)
    | true => simpa using ih (j + 1) o (by omega) (by omega)
theorem some_l (a b : List ByteArray) (c : Bool) (hlen : a.length < 8796093022208) (hb : b.length ≤ 9223372036854775807) : ∀ (d j : Nat) (o : List ByteArray), a.length = j + d → o.length ≤ j →
    Ev (fun k => ablautref01_some.l0 k a b c o (j : Int)) (o ++ (a.drop j).filter fun s => isIn s b == c) := by
  intro d
  induction d with
  | zero =>
    intro j o hj _
    refine Ev.step (fun k => ablautref01_some.l0.eq_2 _ _ _ _ _ _) ?_
    simp only [show ¬ ((j : Int) < (a.length : Int)) from by omega, if_false]
    rw [List.drop_eq_nil_of_le (show a.length ≤ j by omega)]
    simpa using Ev.now _
  | succ d ih =>
    intro j o hj ho
    have hj' : j < a.length := by omega
    refine Ev.step (fun k => ablautref01_some.l0.eq_2 _ _ _ _ _ _) ?_
    have hw : wrap64 ((j : Int) + 1) = ((j + 1 : Nat) : Int) := wrap_succ (by omega)
    simp only [hw, rdOf_nat _ _ hj', show ((j : Int) < (a.length : Int)) from by omega, show (0 : Int) ≤ (j : Int) from by omega, if_true, show o.length < 8796093022208 from by omega]
    clear hw
    rw [List.drop_eq_getElem_cons hj', List.filter_cons]
    refine Ev.bind (In_ev a[j] b hb) ?_
    cases (isIn a[j] b == c) with
    | true => simpa using ih (j + 1) (o ++ [a[j]]) (by omega) (by simp; omega)
    | false => simpa using ih (j + 1) o (by omega) (by omega)

/-! ### both alphabets -/
def vBoth (a b : List ByteArray) : Int := if vSigma a = 0 then vSigma b else vSigma a
theorem syms_both_ev (a b : List ByteArray) (ha : a.length ≤ 9223372036854775807) (hb : b.length ≤ 9223372036854775807) : Ev (fun k => syms_both.f k a b) (vBoth a b) := by
  unfold syms_both.f vBoth
  refine Ev.bind (syms_Validate_ev a ha) ?_
  by_cases h : vSigma a = 0
  · simp only [h, if_true]; refine Ev.bind (syms_Validate_ev b hb) ?_; exact Ev.now _
  · simp only [h, if_false]; exact Ev.now _
theorem ref_asked_ev (a b : List ByteArray) (ha : a.length ≤ 9223372036854775807) (hb : b.length ≤ 9223372036854775807) : Ev (fun k => ablautref01_asked.f k a b) (vBoth a b) := by
  unfold ablautref01_asked.f vBoth
  refine Ev.bind (ref_Validate_ev a ha) ?_
  by_cases h : vSigma a = 0
  · simp only [h, if_true]; refine Ev.bind (ref_Validate_ev b hb) ?_; exact Ev.now _
  · simp only [h, if_false]; exact Ev.now _
theorem vBoth_ok {a b : List ByteArray} (h : vBoth a b = 0) : vSigma a = 0 ∧ vSigma b = 0 := by
  unfold vBoth at h
  by_cases h0 : vSigma a = 0
  · rw [if_pos h0] at h; exact ⟨h0, h⟩
  · rw [if_neg h0] at h; exact absurd h h0

def eitherW (a b : List ByteArray) : List ByteArray × Int := if vBoth a b = 0 then (if (compactB (sortB (a ++ b))).length > 40 then ([], 3) else (compactB (sortB (a ++ b)), 0)) else ([], vBoth a b)
theorem syms_Either_ev (a b : List ByteArray) (ha : a.length ≤ 9223372036854775807) (hb : b.length ≤ 9223372036854775807) : Ev (fun k => syms_Either.f k a b) (eitherW a b) := by
  unfold syms_Either.f eitherW
  refine Ev.bind (syms_both_ev a b ha hb) ?_
  by_cases h : vBoth a b = 0
  · obtain ⟨h1, h2⟩ := vBoth_ok h
    have l1 := (vSigma_okS h1).1
    have l2 := (vSigma_okS h2).1
    simp only [h, if_true, slices_Clone_string_string.f, slices_Sort_string_string.f, slices_Compact_string_string.f, show a.length ≤ 8796093022208 from by omega, Option.bind_some, show a.length + b.length < 8796093022208 from by omega, List.length_append, show a.length + b.length < 4611686018427387904 from by omega]
    have hs : (sortB (a ++ b)).length = a.length + b.length := by simp [sortB]
    simp only [hs, show a.length + b.length < 4611686018427387904 from by omega, if_true, Option.bind_some]
    by_cases hc : (compactB (sortB (a ++ b))).length > 40
    · simp only [show ((compactB (sortB (a ++ b))).length : Int) > 40 from by omega, hc, if_true]; exact Ev.now _
    · simp only [show ¬ (((compactB (sortB (a ++ b))).length : Int) > 40) from by omega, hc, if_false]; exact Ev.now _
  · simp only [h, if_false]; exact Ev.now _
theorem ref_Either_ev (a b : List ByteArray) (ha : a.length ≤ 9223372036854775807) (hb : b.length ≤ 9223372036854775807) : Ev (fun k => ablautref01_Either.f k a b) (eitherW a b) := by
  unfold ablautref01_Either.f eitherW
  refine Ev.bind (ref_asked_ev a b ha hb) ?_
  by_cases h : vBoth a b = 0
  · obtain ⟨h1, h2⟩ := vBoth_ok h
    have l1 := (vSigma_okS h1).1
    have l2 := (vSigma_okS h2).1
    simp only [h, if_true, Option.bind_some, List.length_nil, Nat.zero_add, List.nil_append, show a.length < 8796093022208 from by omega, show a.length + b.length < 8796093022208 from by omega]
    refine Ev.bind (Set_ev (a ++ b) (by simp; omega)) ?_
    by_cases hc : (compactB (sortB (a ++ b))).length > 40
    · simp only [show ((compactB (sortB (a ++ b))).length : Int) > 40 from by omega, hc, if_true]; exact Ev.now _
    · simp only [show ¬ (((compactB (sortB (a ++ b))).length : Int) > 40) from by omega, hc, if_false]; exact Ev.now _
  · simp only [h, if_false]; exact Ev.now _

def bothW (a b : List ByteArray) : List ByteArray × Int := if vBoth a b = 0 then (a.filter (fun s => isIn s b), 0) else ([], vBoth a b)
def lessW (a b : List ByteArray) : List ByteArray × Int := if vBoth a b = 0 then (a.filter (fun s => !isIn s b), 0) else ([], vBoth a b)
theorem syms_Both_ev (a b : List ByteArray) (ha : a.length ≤ 9223372036854775807) (hb : b.length ≤ 9223372036854775807) : Ev (fun k => syms_Both.f k a b) (bothW a b) := by
  unfold syms_Both.f bothW
  refine Ev.bind (syms_both_ev a b ha hb) ?_
  by_cases h : vBoth a b = 0
  · have l1 := (vSigma_okS (vBoth_ok h).1).1
    simp only [h, if_true]
    refine Ev.bind (show Ev (fun k => syms_sifted_string_78_c79.f k a b) (a.filter (fun s => isIn s b)) from by simpa [syms_sifted_string_78_c79.f] using sifted_l a b (by omega) hb a.length 0 [] (by omega) (by simp)) ?_
    exact Ev.now _
  · simp only [h, if_false]; exact Ev.now _
theorem syms_Less_ev (a b : List ByteArray) (ha : a.length ≤ 9223372036854775807) (hb : b.length ≤ 9223372036854775807) : Ev (fun k => syms_Less.f k a b) (lessW a b) := by
  unfold syms_Less.f lessW
  refine Ev.bind (syms_both_ev a b ha hb) ?_
  by_cases h : vBoth a b = 0
  · have l1 := (vSigma_okS (vBoth_ok h).1).1
    simp only [h, if_true]
    refine Ev.bind (show Ev (fun k => syms_sifted_string_78_c81.f k a b) (a.filter (fun s => !isIn s b)) from by simpa [syms_sifted_string_78_c81.f] using siftedN_l a b (by omega) hb a.length 0 [] (by omega) (by simp)) ?_
    exact Ev.now _
  · simp only [h, if_false]; exact Ev.now _
theorem ref_Both_ev (a b : List ByteArray) (ha : a.length ≤ 9223372036854775807) (hb : b.length ≤ 9223372036854775807) : Ev (fun k => ablautref01_Both.f k a b) (bothW a b) := by
  unfold ablautref01_Both.f bothW
  refine Ev.bind (ref_asked_ev a b ha hb) ?_
  by_cases h : vBoth a b = 0
  · have l1 := (vSigma_okS (vBoth_ok h).1).1
    simp only [h, if_true]
    refine Ev.bind (show Ev (fun k => ablautref01_some.f k a b true) (a.filter (fun s => isIn s b)) from by simpa [ablautref01_some.f] using some_l a b true (by omega) hb a.length 0 [] (by omega) (by simp)) ?_
    exact Ev.now _
  · simp only [h, if_false]; exact Ev.now _
theorem ref_Less_ev (a b : List ByteArray) (ha : a.length ≤ 9223372036854775807) (hb : b.length ≤ 9223372036854775807) : Ev (fun k => ablautref01_Less.f k a b) (lessW a b) := by
  unfold ablautref01_Less.f lessW
  refine Ev.bind (ref_asked_ev a b ha hb) ?_
  by_cases h : vBoth a b = 0
  · have l1 := (vSigma_okS (vBoth_ok h).1).1
    simp only [h, if_true]
    refine Ev.bind (show Ev (fun k => ablautref01_some.f k a b false) (a.filter (fun s => !isIn s b)) from by simpa [ablautref01_some.f] using some_l a b false (by omega) hb a.length 0 [] (by omega) (by simp)) ?_
    exact Ev.now _
  · simp only [h, if_false]; exact Ev.now _

end Go.Proofs.Ytlncfkgodioocaa.P
