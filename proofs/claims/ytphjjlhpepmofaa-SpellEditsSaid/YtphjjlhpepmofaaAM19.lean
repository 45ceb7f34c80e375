/- A region, in its own order or in one that is drawn. -/
import Derived.Test.YtphjjlhpepmofaaAM18
set_option linter.all false
namespace Go.AM
open Go

/-- The operation i comes behind the operation j. -/
inductive Dp (ops : Array Oper) : Nat → Nat → Prop
  | one {i : Nat} {o : Oper} {e : Edge} : ops[i]? = some o → e ∈ o.after → Region.binds .any e = true → Dp ops i e.on
  | step {i k : Nat} {o : Oper} {e : Edge} : ops[i]? = some o → e ∈ o.after → Region.binds .any e = true → Dp ops e.on k → Dp ops i k

def mask (acc : List Nat) (o : Oper) : Nat := o.after.toList.foldl (fun m e => if Region.binds .any e = true then m ||| 2 ^ e.on ||| acc.getD e.on 0 else m) 0

def masks : List Nat → List Oper → List Nat
  | acc, [] => acc
  | acc, o :: os => masks (acc ++ [mask acc o]) os

/-- The program's orders are taken as they are checked. -/
def drawB (ops : Array Oper) (L : List MO) : Bool :=
  let ms := masks [] ops.toList
  ops.toList.zipIdx.all (fun p => p.1.after.toList.all fun e => !Region.binds .any e || decide (e.on < p.2)) &&
  L.zipIdx.all fun p => L.zipIdx.all fun r =>
    (match r.1.dst with
     | some t => !(p.1.reads.contains t) || (if r.2 < p.2 then (ms.getD p.2 0).testBit r.2 else if p.2 < r.2 then (ms.getD r.2 0).testBit p.2 else false)
     | none => true) &&
    (!p.1.loud || (if r.2 < p.2 then (ms.getD p.2 0).testBit r.2 else if p.2 < r.2 then (ms.getD r.2 0).testBit p.2 else true))

def distinctB (L : List MO) : Bool := decide (L.filterMap MO.dst).Nodup

section masks
variable {ops : Array Oper}

theorem mask_fold (acc : List Nat) (i : Nat) (o : Oper) (hi : ops[i]? = some o) (hacc : ∀ k j, (acc.getD k 0).testBit j = true → Dp ops k j) :
    ∀ (es : List Edge) (m : Nat), (∀ e ∈ es, e ∈ o.after) → (∀ j, m.testBit j = true → Dp ops i j) →
      ∀ j, (es.foldl (fun m e => if Region.binds .any e = true then m ||| 2 ^ e.on ||| acc.getD e.on 0 else m) m).testBit j = true → Dp ops i j
  | [], m, _, hm, j, h => hm j h
  | e :: es, m, he, hm, j, h => by
    simp only [List.foldl_cons] at h
    refine mask_fold acc i o hi hacc es _ (fun e' h' => he e' (by simp [h'])) ?_ j h
    intro k hk
    split at hk
    · rename_i hb
      rw [Nat.testBit_or, Nat.testBit_or, Bool.or_eq_true, Bool.or_eq_true] at hk
      rcases hk with (hk | hk) | hk
      · exact hm k hk
      · rw [Nat.testBit_two_pow] at hk
        simp at hk
        subst hk
        exact .one hi (he e (by simp)) hb
      · exact .step hi (he e (by simp)) hb (hacc _ _ hk)
    · exact hm k hk

theorem masks_ok : ∀ (os : List Oper) (acc : List Nat), (∀ k j, (acc.getD k 0).testBit j = true → Dp ops k j) → (∀ i o, os[i]? = some o → ops[acc.length + i]? = some o) →
    ∀ k j, ((masks acc os).getD k 0).testBit j = true → Dp ops k j
  | [], acc, h, _, k, j, hk => h k j hk
  | o :: os, acc, h, hos, k, j, hk => by
    simp only [masks] at hk
    refine masks_ok os (acc ++ [mask acc o]) ?_ ?_ k j hk
    · intro k j hk
      rw [List.getD_eq_getElem?_getD, List.getElem?_append] at hk
      split at hk
      · exact h k j (by rw [List.getD_eq_getElem?_getD]; exact hk)
      · rename_i hlt
        by_cases he : k = acc.length
        · subst he
          simp at hk
          have h0 := hos 0 o (by simp)
          exact mask_fold acc _ o (by simpa using h0) h o.after.toList 0 (fun e he => by simpa using he) (by simp) j hk
        · have : k - acc.length = (k - acc.length - 1) + 1 := by omega
          rw [this] at hk
          simp at hk
    · intro i o' ho
      have := hos (i + 1) o' (by simpa using ho)
      simp only [List.length_append, List.length_cons, List.length_nil]
      rw [show acc.length + (0 + 1) + i = acc.length + (i + 1) by omega]; exact this

theorem Dp.trans {i j k : Nat} (h : Dp ops i j) (h' : Dp ops j k) : Dp ops i k := by
  induction h with
  | one h1 h2 h3 => exact .step h1 h2 h3 h'
  | step h1 h2 h3 _ ih => exact .step h1 h2 h3 (ih h')

theorem Dp.lt (hb : ∀ i o e, ops[i]? = some o → e ∈ o.after → Region.binds .any e = true → e.on < i) {i j : Nat} (h : Dp ops i j) : j < i := by
  induction h with
  | one h1 h2 h3 => exact hb _ _ _ h1 h2 h3
  | step h1 h2 h3 _ ih => exact Nat.lt_trans ih (hb _ _ _ h1 h2 h3)
end masks

/-- Steps done, newest first. -/
def app (δ : Nat → Nat × AV × Heap) : List Nat → St → St
  | [], s => s
  | i :: ds, s => ⟨((δ i).1, (δ i).2.1) :: (app δ ds s).env, (δ i).2.2 ++ (app δ ds s).heap, (app δ ds s).nx⟩

section app
variable {δ : Nat → Nat × AV × Heap} {s : St}

theorem app_env_not {ds : List Nat} {t : Nat} (h : ∀ i ∈ ds, (δ i).1 ≠ t) : find (app δ ds s).env t = find s.env t := by
  induction ds with
  | nil => rfl
  | cons i ds ih => simp only [app, find_cons]; rw [if_neg (Ne.symm (h i (by simp))), ih fun j hj => h j (by simp [hj])]

theorem app_env_in {ds : List Nat} {t i : Nat} (hi : i ∈ ds) (ht : (δ i).1 = t) (hu : ∀ j ∈ ds, (δ j).1 = t → j = i) : find (app δ ds s).env t = some (δ i).2.1 := by
  induction ds with
  | nil => simp at hi
  | cons j ds ih =>
    simp only [app, find_cons]
    by_cases h : (δ j).1 = t
    · have := hu j (by simp) h; subst this; rw [if_pos h.symm]
    · rw [if_neg (Ne.symm h)]
      refine ih ?_ fun k hk => hu k (by simp [hk])
      rcases List.mem_cons.1 hi with rfl | hi
      · exact (h ht).elim
      · exact hi

theorem app_heap_not {ds : List Nat} {k : Nat} (h : ∀ i ∈ ds, find (δ i).2.2 k = none) : find (app δ ds s).heap k = find s.heap k := by
  induction ds with
  | nil => rfl
  | cons i ds ih => simp only [app, find_append, h i (by simp)]; exact ih fun j hj => h j (by simp [hj])

theorem app_heap_in {ds : List Nat} {k i : Nat} (hi : i ∈ ds) (hn : ds.Nodup) (hu : ∀ j ∈ ds, j ≠ i → find (δ j).2.2 k = none) :
    find (app δ ds s).heap k = match find (δ i).2.2 k with | some e => some e | none => find s.heap k := by
  induction ds with
  | nil => simp at hi
  | cons j ds ih =>
    obtain ⟨hj, hn'⟩ := List.nodup_cons.1 hn
    simp only [app, find_append]
    rcases List.mem_cons.1 hi with rfl | hi
    · rw [app_heap_not fun l hl => hu l (by simp [hl]) (by rintro rfl; exact hj hl)]
      cases find (δ i).2.2 k <;> rfl
    · have hne : j ≠ i := by rintro rfl; exact hj hi
      rw [hu j (by simp) hne]
      exact ih hi hn' fun l hl => hu l (by simp [hl])

theorem app_nx (ds : List Nat) : (app δ ds s).nx = s.nx := by
  induction ds with
  | nil => rfl
  | cons i ds ih => exact ih
end app

def cr (b : Nat) : Nat → List Nat
  | 0 => []
  | m + 1 => (b + m) :: cr b m

theorem mem_cr {b m i : Nat} : i ∈ cr b m ↔ b ≤ i ∧ i < b + m := by
  induction m with
  | zero => simp [cr]
  | succ m ih => simp only [cr, List.mem_cons, ih]; omega

theorem cr_nodup (b m : Nat) : (cr b m).Nodup := by
  induction m with
  | zero => exact List.nodup_nil
  | succ m ih => rw [cr, List.nodup_cons]; exact ⟨by rw [mem_cr]; omega, ih⟩

theorem nodup_le : ∀ {l l' : List Nat}, l.Nodup → (∀ x ∈ l, x ∈ l') → l.length ≤ l'.length
  | [], _, _, _ => Nat.zero_le _
  | a :: l, l', hn, hs => by
    obtain ⟨h1, h2⟩ := List.nodup_cons.1 hn
    have ha := hs a (by simp)
    have := nodup_le (l := l) (l' := l'.erase a) h2 fun x hx => (List.mem_erase_of_ne (by rintro rfl; exact h1 hx)).2 (hs x (by simp [hx]))
    have hl := List.length_erase_of_mem ha
    have hp : 0 < l'.length := List.length_pos_of_mem ha
    simp only [List.length_cons]
    omega

/-- The steps of a region in its own order. -/
structure Steps' (P : Program) (L : List MO) (S : Nat → St) (δ : Nat → Nat × AV × Heap) (nx : Nat) : Prop where
  nxs : ∀ i, i ≤ L.length → (S i).nx = nx
  loud : ∀ i mo, L[i]? = some mo → mo.loud = true → AStep P false (S i) mo (S (i + 1))
  dst : ∀ i mo, L[i]? = some mo → mo.loud = false → mo.dst = some (δ i).1
  next : ∀ i mo, L[i]? = some mo → mo.loud = false → S (i + 1) = ⟨((δ i).1, (δ i).2.1) :: (S i).env, (δ i).2.2 ++ (S i).heap, (S i).nx⟩
  keys : ∀ i mo, L[i]? = some mo → mo.loud = false → ∀ k e, find (δ i).2.2 k = some e → news mo nx k
  men : ∀ i mo, L[i]? = some mo → mo.loud = false → ∀ k, (δ i).2.1.men k → news mo nx k ∨ Named' (S i).env mo.opds k ∨ k < nx
  loc : ∀ i mo, L[i]? = some mo → mo.loud = false → ∀ E' H2, (∀ t ∈ mo.reads, find E' t = find (S i).env t) → (∀ k, Named' (S i).env mo.opds k → find H2 k = find (S i).heap k) →
    AStep P true ⟨E', H2, nx⟩ mo ⟨((δ i).1, (δ i).2.1) :: E', (δ i).2.2 ++ H2, nx⟩

/-- What the checks say. -/
structure Chk (ops : Array Oper) (L : List MO) : Prop where
  len : L.length = ops.size
  back : ∀ (i : Nat) (o : Oper) (e : Edge), ops[i]? = some o → e ∈ o.after → Region.binds .any e = true → e.on < i
  reads : ∀ (i j : Nat) (mo mo' : MO) (t : Nat), L[i]? = some mo → L[j]? = some mo' → t ∈ mo.reads → mo'.dst = some t → i ≠ j ∧ (j < i → Dp ops i j) ∧ (i < j → Dp ops j i)
  loud : ∀ (i j : Nat) (mo : MO), L[i]? = some mo → mo.loud = true → j < L.length → (j < i → Dp ops i j) ∧ (i < j → Dp ops j i)
  one : ∀ (i j : Nat) (mo mo' : MO) (t : Nat), L[i]? = some mo → L[j]? = some mo' → mo.dst = some t → mo'.dst = some t → i = j
  small : ∀ (i : Nat) (mo : MO) (t : Nat), L[i]? = some mo → mo.dst = some t → t < 1024

section draw
variable {P : Program} {C : Cx} {n : Nat} {ows : List Nat} {ops : Array Oper} {Q : Exit → Act → World → Prop} {L : List MO} {S : Nat → St} {δ : Nat → Nat × AV × Heap} {nx : Nat}

variable (hk : Chk ops L) (hs : Steps' P L S δ nx)
include hk hs

theorem news_one {i j : Nat} {mo mo' : MO} {k : Nat} (hi : L[i]? = some mo) (hj : L[j]? = some mo') (h : news mo nx k) (h' : news mo' nx k) : i = j := by
  obtain ⟨d, h1, a, h2, rfl⟩ := h
  obtain ⟨d', h1', a', h2', h3⟩ := h'
  have g1 := hk.small i mo d hi h1
  have g2 := hk.small j mo' d' hj h1'
  have : d = d' := by omega
  subst this
  exact hk.one i j mo mo' d hi hj h1 h1'

theorem canon {b m : Nat} (hq : ∀ i, b ≤ i → i < b + m → ∃ mo, L[i]? = some mo ∧ mo.loud = false) : S (b + m) = app δ (cr b m) (S b) := by
  induction m with
  | zero => rfl
  | succ m ih =>
    have ih := ih fun i h1 h2 => hq i h1 (by omega)
    obtain ⟨mo, h1, h2⟩ := hq (b + m) (by omega) (by omega)
    have := hs.next (b + m) mo h1 h2
    rw [← Nat.add_assoc, this, ih]
    rfl

/-- A row that a quiet step names was made by a step that it comes behind. -/
theorem men_from {b : Nat} (hF : ∀ t x k, find (S b).env t = some x → x.men k → ∀ j mo, b ≤ j → L[j]? = some mo → ¬ news mo nx k) :
    ∀ (m j : Nat), j < m → b ≤ j → (∀ i, b ≤ i → i ≤ j → ∃ mo, L[i]? = some mo ∧ mo.loud = false) → ∀ k l mo, (δ j).2.1.men k → b ≤ l → L[l]? = some mo → news mo nx k → l = j ∨ Dp ops j l
  | 0, j, h, _, _, _, _, _, _, _, _, _ => absurd h (Nat.not_lt_zero _)
  | m + 1, j, hjm, hbj, hq, k, l, mo, hm, hbl, hl, hn => by
    obtain ⟨moj, hj, hqj⟩ := hq j hbj (Nat.le_refl _)
    rcases hs.men j moj hj hqj k hm with h | ⟨y, hy, u, hu, hum⟩ | hlt
    · exact .inl (news_one hk hs hl hj hn h)
    · cases y with
      | c p => simp only [ev, Option.some.injEq] at hu; subst hu; simp [AV.men] at hum
      | f f => simp only [ev, Option.some.injEq] at hu; subst hu; simp [AV.men, AV.mens] at hum
      | t t =>
        simp only [ev] at hu
        have hcan := canon hk hs (b := b) (m := j - b) fun i h1 h2 => hq i h1 (by omega)
        rw [show b + (j - b) = j by omega] at hcan
        rw [hcan] at hu
        have htr : t ∈ moj.reads := by
          simp only [MO.reads, List.mem_append, List.mem_flatMap]
          exact .inr ⟨.t t, hy, by simp [Opd.tmps]⟩
        by_cases hex : ∃ i ∈ cr b (j - b), (δ i).1 = t
        · obtain ⟨i, hi, hit⟩ := hex
          have hib := mem_cr.1 hi
          obtain ⟨moi, hii, hqi⟩ := hq i hib.1 (by omega)
          have hdi := hs.dst i moi hii hqi
          rw [hit] at hdi
          rw [app_env_in hi hit ?_] at hu
          · cases hu
            obtain ⟨_, hdp, _⟩ := hk.reads j i moj moi t hj hii htr hdi
            have hd := hdp (by omega)
            rcases men_from hF m i (by omega) hib.1 (fun a h1 h2 => hq a h1 (by omega)) k l mo hum hbl hl hn with rfl | h
            · exact .inr hd
            · exact .inr (hd.trans h)
          · intro i' hi' ht'
            have hib' := mem_cr.1 hi'
            obtain ⟨moi', hii', hqi'⟩ := hq i' hib'.1 (by omega)
            have hdi' := hs.dst i' moi' hii' hqi'
            rw [ht'] at hdi'
            exact hk.one i' i moi' moi t hii' hii hdi' hdi
        · rw [app_env_not fun i hi h => hex ⟨i, hi, h⟩] at hu
          exact (hF t u k hu hum l mo hbl hl hn).elim
    · exfalso; obtain ⟨d, _, a, _, he⟩ := hn; omega

theorem agree {b i : Nat} {mo : MO} {ds : List Nat} (hi : L[i]? = some mo) (hbi : b ≤ i) (hq : ∀ j, b ≤ j → j < i → ∃ mo, L[j]? = some mo ∧ mo.loud = false)
    (hF : ∀ t x k, find (S b).env t = some x → x.men k → ∀ j mo, b ≤ j → L[j]? = some mo → ¬ news mo nx k) (hn : ds.Nodup) (hds : ∀ j ∈ ds, b ≤ j ∧ ∃ mo, L[j]? = some mo ∧ mo.loud = false)
    (hi2 : i ∉ ds) (hcl : ∀ j ∈ ds, ∀ k, Dp ops j k → b ≤ k → k ∈ ds) (hr : ∀ k, Dp ops i k → b ≤ k → k ∈ ds) :
    (∀ t ∈ mo.reads, find (app δ ds (S b)).env t = find (S i).env t) ∧ (∀ k, Named' (S i).env mo.opds k → find (app δ ds (S b)).heap k = find (S i).heap k) := by
  have hcan := canon hk hs (b := b) (m := i - b) fun j h1 h2 => hq j h1 (by omega)
  rw [show b + (i - b) = i by omega] at hcan
  have hcq : ∀ j ∈ cr b (i - b), b ≤ j ∧ j < i ∧ ∃ mo, L[j]? = some mo ∧ mo.loud = false := fun j hj => by
    have := mem_cr.1 hj
    exact ⟨this.1, by omega, hq j this.1 (by omega)⟩
  have huds : ∀ t j moj, L[j]? = some moj → moj.dst = some t → ∀ l ∈ ds, (δ l).1 = t → l = j := fun t j moj hj hd l hl ht => by
    obtain ⟨_, mol, h1, h2⟩ := hds l hl
    have := hs.dst l mol h1 h2
    rw [ht] at this
    exact hk.one l j mol moj t h1 hj this hd
  have hucr : ∀ t j moj, L[j]? = some moj → moj.dst = some t → ∀ l ∈ cr b (i - b), (δ l).1 = t → l = j := fun t j moj hj hd l hl ht => by
    obtain ⟨_, _, mol, h1, h2⟩ := hcq l hl
    have := hs.dst l mol h1 h2
    rw [ht] at this
    exact hk.one l j mol moj t h1 hj this hd
  have henv : ∀ t ∈ mo.reads, find (app δ ds (S b)).env t = find (S i).env t := by
    intro t ht
    rw [hcan]
    by_cases hex : ∃ j ∈ cr b (i - b), (δ j).1 = t
    · obtain ⟨j, hj, hjt⟩ := hex
      obtain ⟨g1, g2, moj, g3, g4⟩ := hcq j hj
      have hd := hs.dst j moj g3 g4
      rw [hjt] at hd
      obtain ⟨_, q1, _⟩ := hk.reads i j mo moj t hi g3 ht hd
      have hjd := hr j (q1 g2) g1
      rw [app_env_in hjd hjt (huds t j moj g3 hd), app_env_in hj hjt (hucr t j moj g3 hd)]
    · rw [app_env_not (ds := cr b (i - b)) fun j hj h => hex ⟨j, hj, h⟩]
      refine app_env_not fun j hj h => ?_
      obtain ⟨g1, moj, g3, g4⟩ := hds j hj
      have hd := hs.dst j moj g3 g4
      rw [h] at hd
      obtain ⟨q0, q1, q2⟩ := hk.reads i j mo moj t hi g3 ht hd
      rcases Nat.lt_or_ge j i with hlt | hge
      · exact hex ⟨j, mem_cr.2 ⟨g1, by omega⟩, h⟩
      · exact hi2 (hcl j hj i (q2 (by omega)) hbi)
  refine ⟨henv, ?_⟩
  rintro k ⟨y, hy, u, hu, hum⟩
  have hno : ∀ (l : List Nat), (∀ j ∈ l, b ≤ j ∧ ∃ mo, L[j]? = some mo ∧ mo.loud = false) → (∀ j mo, b ≤ j → L[j]? = some mo → ¬ news mo nx k) → find (app δ l (S b)).heap k = find (S b).heap k := by
    intro l hl hnn
    refine app_heap_not fun j hj => ?_
    obtain ⟨g1, moj, g3, g4⟩ := hl j hj
    cases hx : find (δ j).2.2 k with
    | none => rfl
    | some e => exact (hnn j moj g1 g3 (hs.keys j moj g3 g4 k e hx)).elim
  cases y with
  | c p => simp only [ev, Option.some.injEq] at hu; subst hu; simp [AV.men] at hum
  | f f => simp only [ev, Option.some.injEq] at hu; subst hu; simp [AV.men, AV.mens] at hum
  | t t =>
    simp only [ev] at hu
    have htr : t ∈ mo.reads := by
      simp only [MO.reads, List.mem_append, List.mem_flatMap]
      exact .inr ⟨.t t, hy, by simp [Opd.tmps]⟩
    rw [hcan]
    by_cases hnw : ∃ l mol, b ≤ l ∧ L[l]? = some mol ∧ news mol nx k
    · obtain ⟨l, mol, hbl, hl, hnl⟩ := hnw
      rw [hcan] at hu
      by_cases hex : ∃ j ∈ cr b (i - b), (δ j).1 = t
      · obtain ⟨j, hj, hjt⟩ := hex
        obtain ⟨g1, g2, moj, g3, g4⟩ := hcq j hj
        have hd := hs.dst j moj g3 g4
        rw [hjt] at hd
        rw [app_env_in hj hjt (hucr t j moj g3 hd)] at hu
        cases hu
        obtain ⟨_, q1, _⟩ := hk.reads i j mo moj t hi g3 htr hd
        have hdij := q1 g2
        have hdl : Dp ops i l := by
          rcases men_from hk hs hF (j + 1) j (Nat.lt_succ_self _) g1 (fun a h1 h2 => hq a h1 (by omega)) k l mol hum hbl hl hnl with rfl | h
          · exact hdij
          · exact hdij.trans h
        have hli := hdl.lt hk.back
        have hlds := hr l hdl hbl
        have hother : ∀ (m : List Nat), (∀ j ∈ m, b ≤ j ∧ ∃ mo, L[j]? = some mo ∧ mo.loud = false) → ∀ j ∈ m, j ≠ l → find (δ j).2.2 k = none := by
          intro m hm j hj hne
          obtain ⟨p1, moj', p3, p4⟩ := hm j hj
          cases hx : find (δ j).2.2 k with
          | none => rfl
          | some e => exact (hne (news_one hk hs p3 hl (hs.keys j moj' p3 p4 k e hx) hnl)).elim
        rw [app_heap_in hlds hn (hother ds hds), app_heap_in (mem_cr.2 ⟨hbl, by omega⟩) (cr_nodup _ _) (hother _ fun j hj => ⟨(hcq j hj).1, (hcq j hj).2.2⟩)]
      · rw [app_env_not fun j hj h => hex ⟨j, hj, h⟩] at hu
        exact (hF t u k hu hum l mol hbl hl hnl).elim
    · have hnn : ∀ j mo, b ≤ j → L[j]? = some mo → ¬ news mo nx k := fun j mo h1 h2 h3 => hnw ⟨j, mo, h1, h2, h3⟩
      rw [hno ds hds hnn, hno _ (fun j hj => ⟨(hcq j hj).1, (hcq j hj).2.2⟩) hnn]

end draw
end Go.AM
