/- Plain laws. -/
import Derived.Test.YtphjjlhpepmofaaGreatR1
set_option linter.all false
set_option maxHeartbeats 2000000
namespace Go.Proofs
open Go Go.AM
abbrev NearT := Bs × Bs × Int × Unit
abbrev PricesT := Int × Int × Int × Int × List NearT × Unit
def nearV (n : NearT) : PV := .st [.w (.string (bs n.1)), .w (.string (bs n.2.1)), .w (.int .i64 n.2.2.1)]
def pricesV (p : PricesT) : PV := .st [.w (.int .i64 p.1), .w (.int .i64 p.2.1), .w (.int .i64 p.2.2.1), .w (.int .i64 p.2.2.2.1), .sl 3 (p.2.2.2.2.1.map nearV)]
def cmpN (a b : NearT) : Int := cmpW [a.1, a.2.1] [b.1, b.2.1]
def within (c lo hi : Int) : Bool := decide (lo ≤ c) && decide (c ≤ hi)
def nearBad (change : Int) (prev : Option NearT) (n : NearT) : Bool :=
  !symS n.1 || (!symS n.2.1 || (!ltB n.1 n.2.1 || (!within n.2.2.1 0 change || (match prev with | none => false | some m => decide (0 ≤ cmpN m n)))))
def rowsBad (change : Int) : Option NearT → List NearT → Bool
  | _, [] => false
  | pr, n :: l => nearBad change pr n || rowsBad change (some n) l
def longN : List NearT → Bool
  | [] => false
  | n :: l => decide (16 < n.1.length) || (decide (16 < n.2.1.length) || longN l)
def numBad (p : PricesT) : Bool := !within p.1 1 1000 || (!within p.2.1 1 1000 || (!within p.2.2.2.1 1 1000 || !within p.2.2.1 0 1000))
/-- What is wrong with prices. -/
def vPrices (p : PricesT) : Int :=
  if 200 < p.2.2.2.2.1.length then 3 else if longN p.2.2.2.2.1 = true then 3 else if numBad p = true then 1 else if rowsBad p.2.2.2.1 none p.2.2.2.2.1 = true then 1 else 0
def prevAt {α : Type} (l : List α) (k : Nat) : Option α := if k = 0 then none else l[k - 1]?
def nearS (n : NearT) : Prop := n.1.length ≤ 200000000000000 ∧ n.2.1.length ≤ 200000000000000

/-- Prices that are right. -/
structure OkP (p : PricesT) : Prop where
  drop : 1 ≤ p.1 ∧ p.1 ≤ 1000
  put : 1 ≤ p.2.1 ∧ p.2.1 ≤ 1000
  swap : 0 ≤ p.2.2.1 ∧ p.2.2.1 ≤ 1000
  change : 1 ≤ p.2.2.2.1 ∧ p.2.2.2.1 ≤ 1000
  len : p.2.2.2.2.1.length ≤ 200
  row : ∀ n ∈ p.2.2.2.2.1, ltB n.1 n.2.1 = true ∧ 0 ≤ n.2.2.1 ∧ n.2.2.1 ≤ p.2.2.2.1
  asc : p.2.2.2.2.1.Pairwise fun a b => cmpN a b < 0

theorem cmpN_trans {a b c : NearT} (h1 : cmpN a b < 0) (h2 : cmpN b c < 0) : cmpN a c < 0 := cmpW_neg_trans h1 h2

theorem rows_ok {ch : Int} : ∀ {l : List NearT} {pr : Option NearT}, rowsBad ch pr l = false →
    (∀ n ∈ l, ltB n.1 n.2.1 = true ∧ 0 ≤ n.2.2.1 ∧ n.2.2.1 ≤ ch) ∧ (l.Pairwise fun a b => cmpN a b < 0) ∧ ∀ m, pr = some m → ∀ n ∈ l, cmpN m n < 0
  | [], _, _ => by simp
  | n :: l, pr, h => by
    simp only [rowsBad, Bool.or_eq_false_iff, nearBad, within] at h
    obtain ⟨⟨_, _, h3, h4, h5⟩, h6⟩ := h
    obtain ⟨q1, q2, q3⟩ := rows_ok h6
    have q3 := q3 n rfl
    refine ⟨?_, ?_, ?_⟩
    · intro m hm
      rcases List.mem_cons.1 hm with rfl | hm
      · simp at h3 h4; exact ⟨h3, by omega, by omega⟩
      · exact q1 m hm
    · exact List.pairwise_cons.2 ⟨q3, q2⟩
    · rintro m rfl x hx
      simp at h5
      rcases List.mem_cons.1 hx with rfl | hx
      · exact h5
      · exact cmpN_trans h5 (q3 x hx)

theorem vPrices_ok {p : PricesT} (h : vPrices p = 0) : OkP p := by
  unfold vPrices at h
  split at h
  · omega
  split at h
  · omega
  split at h
  · omega
  split at h
  · omega
  rename_i h1 h2 h3 h4
  simp only [numBad, within, Bool.or_eq_true, Bool.not_eq_true', Bool.and_eq_false_iff, decide_eq_false_iff_not] at h3
  obtain ⟨q1, q2, _⟩ := rows_ok (by simpa using h4 : rowsBad p.2.2.2.1 none p.2.2.2.2.1 = false)
  exact ⟨by omega, by omega, by omega, by omega, by omega, q1, q2⟩

/-! What it costs that a symbol becomes another one. -/
def chgL (x y : Bs) (d : Int) : List NearT → Int
  | [] => d
  | n :: l => if n.1 = x ∧ n.2.1 = y ∨ n.1 = y ∧ n.2.1 = x then n.2.2.1 else chgL x y d l
def chg (p : PricesT) (x y : Bs) : Int := chgL x y p.2.2.2.1 p.2.2.2.2.1

theorem chgL_symm (x y : Bs) (d : Int) : ∀ l, chgL x y d l = chgL y x d l
  | [] => rfl
  | n :: l => by simp only [chgL, chgL_symm x y d l, or_comm]
theorem chg_symm (p : PricesT) (x y : Bs) : chg p x y = chg p y x := chgL_symm _ _ _ _
theorem chgL_range {x y : Bs} {d : Int} (hd : 0 ≤ d) : ∀ {l : List NearT}, (∀ n ∈ l, 0 ≤ n.2.2.1 ∧ n.2.2.1 ≤ d) → 0 ≤ chgL x y d l ∧ chgL x y d l ≤ d
  | [], _ => by simp [chgL, hd]
  | n :: l, h => by
    simp only [chgL]
    split
    · exact h n (by simp)
    · exact chgL_range hd fun m hm => h m (by simp [hm])
theorem OkP.chg {p : PricesT} (h : OkP p) (x y : Bs) : 0 ≤ chg p x y ∧ chg p x y ≤ 1000 := by
  obtain ⟨h1, h2⟩ := chgL_range (x := x) (y := y) (by have := h.change; omega : 0 ≤ p.2.2.2.1) (fun n hn => (h.row n hn).2)
  have := h.change
  exact ⟨h1, by unfold Proofs.chg; omega⟩

/-- Where the first one is that is not below. -/
def fiC {α : Type} (c : α → Int) : List α → Nat
  | [] => 0
  | x :: l => if c x < 0 then fiC c l + 1 else 0
theorem fiC_le {α : Type} (c : α → Int) : ∀ l : List α, fiC c l ≤ l.length
  | [] => by simp [fiC]
  | x :: l => by simp only [fiC]; split <;> simp <;> exact fiC_le c l
theorem fiC_eq {α : Type} (c : α → Int) : ∀ {l : List α} {i : Nat}, i ≤ l.length → (∀ k (h : k < l.length), k < i → c l[k] < 0) → (∀ (h : i < l.length), ¬ c l[i] < 0) → fiC c l = i
  | [], i, h, _, _ => by simp at h; simp [fiC, h]
  | x :: l, i, h, h1, h2 => by
    simp only [fiC]
    cases i with
    | zero => have := h2 (by simp); rw [if_neg (by simpa using this)]
    | succ i =>
      have := h1 0 (by simp) (by omega)
      rw [if_pos (by simpa using this)]
      rw [fiC_eq c (l := l) (i := i) (by simpa using h) (fun k hk hki => by have := h1 (k + 1) (by simp; omega) (by omega); exact this) (fun hk => by have := h2 (by simp; omega); exact this)]

def loS (x y : Bs) : Bs := if ltB x y = true ∨ x = y then x else y
def hiS (x y : Bs) : Bs := if ltB x y = true then y else x
def tgt (x y : Bs) : NearT := (loS x y, hiS x y, 0, ())
/-- What the search finds. -/
def nearF (p : PricesT) (x y : Bs) : Int :=
  match p.2.2.2.2.1[fiC (fun n => cmpN n (tgt x y)) p.2.2.2.2.1]? with
  | some n => if cmpN n (tgt x y) = 0 then n.2.2.1 else p.2.2.2.1
  | none => p.2.2.2.1

theorem two_iff {x y : Bs} {n : NearT} (hxy : x ≠ y) (hn : ltB n.1 n.2.1 = true) : (n.1 = x ∧ n.2.1 = y ∨ n.1 = y ∧ n.2.1 = x) ↔ cmpN n (tgt x y) = 0 := by
  obtain ⟨a, b, c, u⟩ := n
  simp only at hn
  have key : cmpN (a, b, c, u) (tgt x y) = 0 ↔ a = loS x y ∧ b = hiS x y := by
    constructor
    · intro h; have := cmpW_zero h; simpa [tgt] using this
    · rintro ⟨rfl, rfl⟩; exact cmpW_self _
  rw [key]
  simp only
  cases h : ltB x y
  · have h2 : ltB y x = true := by
      cases h2 : ltB y x
      · exact absurd (ltB_total h h2) hxy
      · rfl
    simp only [loS, hiS, h, hxy, or_self, if_false, Bool.false_eq_true]
    constructor
    · rintro (⟨rfl, rfl⟩ | h3)
      · rw [h] at hn; cases hn
      · exact h3
    · exact .inr
  · simp only [loS, hiS, h, true_or, if_true]
    constructor
    · rintro (h3 | ⟨rfl, rfl⟩)
      · exact h3
      · rw [ltB_asymm h] at hn; cases hn
    · exact .inl

theorem nearL {x y : Bs} (hxy : x ≠ y) (d : Int) : ∀ {l : List NearT}, (∀ n ∈ l, ltB n.1 n.2.1 = true) → (l.Pairwise fun a b => cmpN a b < 0) →
    (match l[fiC (fun n => cmpN n (tgt x y)) l]? with | some n => if cmpN n (tgt x y) = 0 then n.2.2.1 else d | none => d) = chgL x y d l
  | [], _, _ => rfl
  | n :: l, h1, h2 => by
    have hi := two_iff hxy (h1 n (by simp))
    obtain ⟨g1, g2⟩ := List.pairwise_cons.1 h2
    have ih := nearL hxy d (fun m hm => h1 m (by simp [hm])) g2
    simp only [fiC, chgL]
    by_cases hc : cmpN n (tgt x y) < 0
    · rw [if_pos hc, if_neg (by rw [hi]; omega)]; simpa using ih
    · rw [if_neg hc]
      by_cases h0 : cmpN n (tgt x y) = 0
      · rw [if_pos (hi.2 h0)]; simp [h0]
      · rw [if_neg (by rw [hi]; exact h0)]
        simp [h0]
        have hgt : cmpN (tgt x y) n < 0 := cmpW_pos.1 (by unfold cmpN at *; omega)
        clear ih hi hc h0
        have : ∀ m ∈ l, ¬ (m.1 = x ∧ m.2.1 = y ∨ m.1 = y ∧ m.2.1 = x) := by
          intro m hm
          rw [two_iff hxy (h1 m (by simp [hm]))]
          have := cmpN_trans hgt (g1 m hm)
          have := cmpW_pos.2 this
          unfold cmpN at *; omega
        clear h1 h2 g1 g2
        induction l with
        | nil => rfl
        | cons m l ih => simp only [chgL]; rw [if_neg (this m (by simp))]; exact ih fun q hq => this q (by simp [hq])

theorem OkP.near {p : PricesT} (h : OkP p) {x y : Bs} (hxy : x ≠ y) : nearF p x y = Proofs.chg p x y := nearL hxy _ (fun n hn => (h.row n hn).1) h.asc

/-! The prices of words. -/
/-- What it costs if it begins with a kind of edit. -/
def byG (p : PricesT) (g : List Bs → List Bs → Int) : Nat → List Bs → List Bs → Option Int
  | 0, x :: w, y :: v => if x = y then some (g w v) else none
  | 1, _ :: w, v => some (p.1 + g w v)
  | 2, w, _ :: v => some (p.2.1 + g w v)
  | 3, x :: w, y :: v => if x = y then none else some (chg p x y + g w v)
  | 4, x :: x2 :: w, y :: y2 :: v => if 0 < p.2.2.1 ∧ x ≠ x2 ∧ x = y2 ∧ x2 = y then some (p.2.2.1 + g w v) else none
  | _, _, _ => none
def bst (b : Int) : Option Int → Int
  | none => b
  | some c => if b < 0 ∨ c < b then c else b
def fold5 (f : Nat → Option Int) : Int := max (bst (bst (bst (bst (bst (-1) (f 0)) (f 1)) (f 2)) (f 3)) (f 4)) 0
def prN (p : PricesT) : Nat → List Bs → List Bs → Int
  | 0, _, _ => 0
  | n + 1, w, v => fold5 fun k => byG p (prN p n) k w v
def pr (p : PricesT) (w v : List Bs) : Int := prN p (w.length + v.length + 1) w v

theorem byG_congr {p : PricesT} {g h : List Bs → List Bs → Int} {w v : List Bs} (e : ∀ w' v', w'.length + v'.length < w.length + v.length → g w' v' = h w' v') (k : Nat) : byG p g k w v = byG p h k w v := by
  rcases k with _ | _ | _ | _ | _ | k
  · rcases w with _ | ⟨x, w⟩ <;> rcases v with _ | ⟨y, v⟩ <;> simp only [byG]
    rw [e w v (by simp <;> omega)]
  · rcases w with _ | ⟨x, w⟩ <;> simp only [byG]
    rw [e w v (by simp <;> omega)]
  · rcases v with _ | ⟨y, v⟩ <;> simp only [byG]
    rw [e w v (by simp)]
  · rcases w with _ | ⟨x, w⟩ <;> rcases v with _ | ⟨y, v⟩ <;> simp only [byG]
    rw [e w v (by simp <;> omega)]
  · rcases w with _ | ⟨x, _ | ⟨x2, w⟩⟩ <;> rcases v with _ | ⟨y, _ | ⟨y2, v⟩⟩ <;> simp only [byG]
    rw [e w v (by simp <;> omega)]
  · simp [byG]

theorem prN_eq (p : PricesT) : ∀ (n m : Nat) (w v : List Bs), w.length + v.length < n → w.length + v.length < m → prN p n w v = prN p m w v
  | 0, _, _, _, h, _ => by omega
  | _ + 1, 0, _, _, _, h => by omega
  | n + 1, m + 1, w, v, h1, h2 => by
    simp only [prN]
    congr 1; funext k
    exact byG_congr (fun w' v' hlt => prN_eq p n m w' v' (by omega) (by omega)) k

theorem pr_eq (p : PricesT) (w v : List Bs) : pr p w v = fold5 fun k => byG p (pr p) k w v := by
  show prN p (w.length + v.length + 1) w v = _
  simp only [prN]
  congr 1; funext k
  exact byG_congr (fun w' v' hlt => prN_eq p _ _ w' v' (by omega) (by omega)) k

theorem pr_nonneg (p : PricesT) (w v : List Bs) : 0 ≤ pr p w v := by rw [pr_eq]; unfold fold5; omega

theorem byG_nonneg {p : PricesT} (h : OkP p) {k : Nat} {w v : List Bs} {c : Int} (hc : byG p (pr p) k w v = some c) : 0 ≤ c := by
  have h1 := h.drop; have h2 := h.put; have h3 := h.swap
  rcases k with _ | _ | _ | _ | _ | k
  · rcases w with _ | ⟨x, w⟩ <;> rcases v with _ | ⟨y, v⟩ <;> simp [byG] at hc
    have := pr_nonneg p w v; omega
  · rcases w with _ | ⟨x, w⟩ <;> simp [byG] at hc
    have := pr_nonneg p w v; omega
  · rcases v with _ | ⟨y, v⟩ <;> simp [byG] at hc
    have := pr_nonneg p w v; omega
  · rcases w with _ | ⟨x, w⟩ <;> rcases v with _ | ⟨y, v⟩ <;> simp [byG] at hc
    have := pr_nonneg p w v; have := h.chg x y; omega
  · rcases w with _ | ⟨x, _ | ⟨x2, w⟩⟩ <;> rcases v with _ | ⟨y, _ | ⟨y2, v⟩⟩ <;> simp [byG] at hc
    have := pr_nonneg p w v; omega
  · simp [byG] at hc

theorem bst_neg {b : Int} (hb : -1 ≤ b) {o : Option Int} (ho : ∀ c, o = some c → 0 ≤ c) : -1 ≤ bst b o := by
  cases o with
  | none => exact hb
  | some c => have := ho c rfl; simp only [bst]; split <;> omega
theorem bst_comm {b : Int} (hb : -1 ≤ b) {o q : Option Int} (ho : ∀ c, o = some c → 0 ≤ c) (hq : ∀ c, q = some c → 0 ≤ c) : bst (bst b o) q = bst (bst b q) o := by
  cases o with
  | none => rfl
  | some c => cases q with
    | none => rfl
    | some d =>
      have := ho c rfl; have := hq d rfl
      simp only [bst]
      (repeat' split) <;> omega

/-- A word costs nothing for itself. -/
theorem pr_self {p : PricesT} (h : OkP p) : ∀ w, pr p w w = 0
  | [] => by rw [pr_eq]; simp [fold5, byG, bst]; omega
  | x :: w => by
    have h0 : byG p (pr p) 0 (x :: w) (x :: w) = some 0 := by simp [byG, pr_self h w]
    have st : ∀ k, bst 0 (byG p (pr p) k (x :: w) (x :: w)) = 0 := by
      intro k
      cases hk : byG p (pr p) k (x :: w) (x :: w) with
      | none => rfl
      | some c => have := byG_nonneg h hk; simp only [bst]; rw [if_neg (by omega)]
    rw [pr_eq]
    simp only [fold5, h0, show bst (-1) (some 0) = 0 by simp [bst], st]; omega

/-- A price is the same in both directions. -/
theorem pr_turn {p : PricesT} (h : OkP p) (hp : p.2.1 = p.1) : ∀ (n : Nat) (w v : List Bs), w.length + v.length < n → pr p w v = pr p v w
  | 0, _, _, hn => by omega
  | n + 1, w, v, hn => by
    have ih : ∀ w' v', w'.length + v'.length < w.length + v.length → pr p w' v' = pr p v' w' := fun w' v' hlt => pr_turn h hp n w' v' (by omega)
    have e0 : byG p (pr p) 0 w v = byG p (pr p) 0 v w := by
      rcases w with _ | ⟨x, w⟩ <;> rcases v with _ | ⟨y, v⟩ <;> simp only [byG]
      rw [ih w v (by simp <;> omega)]; simp only [eq_comm]
    have e1 : byG p (pr p) 1 w v = byG p (pr p) 2 v w := by
      rcases w with _ | ⟨x, w⟩ <;> simp only [byG]
      rw [ih w v (by simp <;> omega), hp]
    have e2 : byG p (pr p) 2 w v = byG p (pr p) 1 v w := by
      rcases v with _ | ⟨x, v⟩ <;> simp only [byG]
      rw [ih w v (by simp), hp]
    have e3 : byG p (pr p) 3 w v = byG p (pr p) 3 v w := by
      rcases w with _ | ⟨x, w⟩ <;> rcases v with _ | ⟨y, v⟩ <;> simp only [byG]
      rw [ih w v (by simp <;> omega), chg_symm]; simp only [eq_comm]
    have e4 : byG p (pr p) 4 w v = byG p (pr p) 4 v w := by
      rcases w with _ | ⟨x, _ | ⟨x2, w⟩⟩ <;> rcases v with _ | ⟨y, _ | ⟨y2, v⟩⟩ <;> simp only [byG]
      rw [ih w v (by simp <;> omega)]
      by_cases hc : 0 < p.2.2.1 ∧ x ≠ x2 ∧ x = y2 ∧ x2 = y
      · obtain ⟨h1, h2, h3, h4⟩ := hc
        subst h3 h4
        rw [if_pos ⟨h1, h2, rfl, rfl⟩, if_pos ⟨h1, h2.symm, rfl, rfl⟩]
      · rw [if_neg hc, if_neg]
        rintro ⟨h1, h2, h3, h4⟩
        subst h3 h4
        exact hc ⟨h1, h2.symm, rfl, rfl⟩
    rw [pr_eq p w v, pr_eq p v w]
    simp only [fold5, e0, e1, e2, e3, e4]
    have hn : ∀ k c, byG p (pr p) k v w = some c → 0 ≤ c := fun k c => byG_nonneg h
    rw [bst_comm (bst_neg (by omega) (hn 0)) (hn 2) (hn 1)]
def nearC (n : NearT) : Prop := strC n.1 ∧ strC n.2.1 ∧ intC n.2.2.1 ∧ True
def pricesC (p : PricesT) : Prop := intC p.1 ∧ intC p.2.1 ∧ intC p.2.2.1 ∧ intC p.2.2.2.1 ∧ (p.2.2.2.2.1.length * 40 ≤ 140737488351232 ∧ ∀ n ∈ p.2.2.2.2.1, nearC n) ∧ True
def prS (p : PricesT) : Prop := ∀ n ∈ p.2.2.2.2.1, nearS n
theorem pricesC.s {p : PricesT} (h : pricesC p) : prS p ∧ p.2.2.2.2.1.length ≤ 200000000000000 :=
  ⟨fun n hn => by
    have := h.2.2.2.2.1.2 n hn
    obtain ⟨h1, h2, _⟩ := this
    unfold strC at h1 h2
    exact ⟨by omega, by omega⟩, by have := h.2.2.2.2.1.1; omega⟩
theorem bst_le {b : Int} {o : Option Int} (h : 0 ≤ b) : bst b o ≤ b := by
  cases o <;> simp only [bst]
  · omega
  · split <;> omega
theorem bst_pos {b : Int} {o : Option Int} (h : 0 ≤ b) (ho : ∀ c, o = some c → 0 ≤ c) : 0 ≤ bst b o := by
  cases o with
  | none => exact h
  | some c => have := ho c rfl; simp only [bst]; split <;> omega
theorem bst_some {b c : Int} (hc : 0 ≤ c) : bst b (some c) ≤ c ∧ 0 ≤ bst b (some c) := by
  simp only [bst]; split <;> omega
/-- A price is at most what each kind of beginning costs. -/
theorem pr_le {p : PricesT} (h : OkP p) {w v : List Bs} {k : Nat} {c : Int} (hk : byG p (pr p) k w v = some c) : pr p w v ≤ c := by
  have hn : ∀ k c, byG p (pr p) k w v = some c → 0 ≤ c := fun k c => byG_nonneg h
  have hc := hn k c hk
  rw [pr_eq]; simp only [fold5, Nat.zero_add] at *
  rcases k with _ | _ | _ | _ | _ | k
  · rw [hk]
    have h0 := bst_some (b := -1) hc
    have a1 := bst_pos h0.2 (hn 1); have a2 := bst_pos a1 (hn 2); have a3 := bst_pos a2 (hn 3)
    have b1 := bst_le (o := byG p (pr p) 1 w v) h0.2; have b2 := bst_le (o := byG p (pr p) 2 w v) a1; have b3 := bst_le (o := byG p (pr p) 3 w v) a2; have b4 := bst_le (o := byG p (pr p) 4 w v) a3
    omega
  · rw [hk]
    have h0 := bst_some (b := bst (-1) (byG p (pr p) 0 w v)) hc
    have a2 := bst_pos h0.2 (hn 2); have a3 := bst_pos a2 (hn 3)
    have b2 := bst_le (o := byG p (pr p) 2 w v) h0.2; have b3 := bst_le (o := byG p (pr p) 3 w v) a2; have b4 := bst_le (o := byG p (pr p) 4 w v) a3
    omega
  · rw [hk]
    have h0 := bst_some (b := bst (bst (-1) (byG p (pr p) 0 w v)) (byG p (pr p) 1 w v)) hc
    have a3 := bst_pos h0.2 (hn 3)
    have b3 := bst_le (o := byG p (pr p) 3 w v) h0.2; have b4 := bst_le (o := byG p (pr p) 4 w v) a3
    omega
  · rw [hk]
    have h0 := bst_some (b := bst (bst (bst (-1) (byG p (pr p) 0 w v)) (byG p (pr p) 1 w v)) (byG p (pr p) 2 w v)) hc
    have b4 := bst_le (o := byG p (pr p) 4 w v) h0.2
    omega
  · rw [hk]
    have h0 := bst_some (b := bst (bst (bst (bst (-1) (byG p (pr p) 0 w v)) (byG p (pr p) 1 w v)) (byG p (pr p) 2 w v)) (byG p (pr p) 3 w v)) hc
    omega
  · simp [byG] at hk
theorem pr_bound {p : PricesT} (h : OkP p) : ∀ w v : List Bs, pr p w v ≤ 1000 * (w.length + v.length)
  | [], [] => by rw [pr_eq]; simp [fold5, byG, bst]; omega
  | x :: w, v => by
    have h1 := pr_le h (w := x :: w) (v := v) (k := 1) rfl
    have := pr_bound h w v; have := h.drop
    simp at *; omega
  | [], y :: v => by
    have h1 := pr_le h (w := []) (v := y :: v) (k := 2) rfl
    have := pr_bound h [] v; have := h.put
    simp at *; omega

def tI (n : Int) : PV := .w (.int .i64 n)

end Go.Proofs
