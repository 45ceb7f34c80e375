/- Plain laws. -/
import Derived.Test.YtphjjlhpepmofaaPl23
import Derived.Test.YtphjjlhpepmofaaAMZ
set_option linter.all false
set_option maxHeartbeats 2000000
namespace Go.Proofs
open Go Go.AM
abbrev PairT := Bs × Bs
/-- A count goes up by one. -/
def bmp (k : PairT) : List (PairT × Int) → List (PairT × Int)
  | [] => [(k, 1)]
  | (k', n) :: l => if k = k' then (k, n + 1) :: l else (k', n) :: bmp k l
def look (k : PairT) : List (PairT × Int) → Option Int
  | [] => none
  | (k', n) :: l => if k = k' then some n else look k l
def cnt (K : List PairT) (l : List (PairT × Int)) : List (PairT × Int) := K.foldl (fun l k => bmp k l) l
def cntV (l : List (PairT × Int)) : List PV := l.map fun x => .st [.st [.w (.string (bs x.1.1)), .w (.string (bs x.1.2))], .w (.int .i64 x.2)]
def cnt3V (l : List (PairT × Int)) : List PV := l.map fun x => .st [.st [.w (.string (bs x.1.1)), .w (.string (bs x.1.2)), .w (.int .i64 0)], .w (.int .i64 x.2)]

theorem bmp_none {k : PairT} : ∀ {l : List (PairT × Int)}, look k l = none → bmp k l = l ++ [(k, 1)]
  | [], _ => rfl
  | (k', n) :: l, h => by
    simp only [look] at h
    split at h
    · cases h
    · rename_i hk; simp only [bmp, if_neg hk, bmp_none h, List.cons_append]

theorem mfind2 (a b : Bs) : ∀ l : List (PairT × Int), mfind true [false, false] (.st [.w (.string (bs a)), .w (.string (bs b))]) (cntV l) = some ((look (a, b) l).map fun n => .w (.int .i64 n))
  | [] => rfl
  | ((a', b'), n) :: l => by
    have ih := mfind2 a b l
    simp only [cntV, List.map_cons] at ih ⊢
    by_cases h1 : a = a'
    · by_cases h2 : b = b'
      · subst h1 h2; simp [mfind, keq, look]
      · subst h1; simp [mfind, keq, look, h2, ih]
    · simp [mfind, keq, look, h1, ih]
theorem mset2n {a b : Bs} : ∀ {l : List (PairT × Int)}, look (a, b) l = none → mset true [false, false] (.st [.w (.string (bs a)), .w (.string (bs b))]) (.w (.int .i64 1)) (cntV l) = some (cntV (bmp (a, b) l))
  | [], _ => rfl
  | ((a', b'), n) :: l, h => by
    have ih := mset2n (a := a) (b := b) (l := l)
    simp only [look, Prod.mk.injEq] at h
    split at h
    · cases h
    · rename_i h1
      have ih := ih h
      simp only [cntV, List.map_cons] at ih ⊢
      have h2 : (decide (a = a') && (decide (b = b') && true)) = false := by
        cases h3 : decide (a = a') <;> simp_all
      simp only [mset, keq, if_true, eqCells, Option.map_some, bs_inj, h2, ih, bmp, Prod.mk.injEq, h1, if_false, List.map_cons]
theorem mset2s {a b : Bs} {c : Int} : ∀ {l : List (PairT × Int)}, look (a, b) l = some c → mset true [false, false] (.st [.w (.string (bs a)), .w (.string (bs b))]) (.w (.int .i64 (c + 1))) (cntV l) = some (cntV (bmp (a, b) l))
  | [], h => by cases h
  | ((a', b'), n) :: l, h => by
    have ih := mset2s (a := a) (b := b) (c := c) (l := l)
    simp only [look, Prod.mk.injEq] at h
    split at h
    · rename_i h1
      obtain ⟨rfl, rfl⟩ := h1
      cases h
      simp [mset, keq, cntV, bmp]
    · rename_i h1
      have ih := ih h
      simp only [cntV, List.map_cons] at ih ⊢
      have h2 : (decide (a = a') && (decide (b = b') && true)) = false := by
        cases h3 : decide (a = a') <;> simp_all
      simp only [mset, keq, if_true, eqCells, Option.map_some, bs_inj, h2, ih, bmp, Prod.mk.injEq, h1, if_false, List.map_cons]

theorem mfind3 (a b : Bs) : ∀ l : List (PairT × Int), mfind true [false, false, true] (.st [.w (.string (bs a)), .w (.string (bs b)), .w (.int .i64 0)]) (cnt3V l) = some ((look (a, b) l).map fun n => .w (.int .i64 n))
  | [] => rfl
  | ((a', b'), n) :: l => by
    have ih := mfind3 a b l
    simp only [cnt3V, List.map_cons] at ih ⊢
    by_cases h1 : a = a'
    · by_cases h2 : b = b'
      · subst h1 h2; simp [mfind, keq, look]
      · subst h1; simp [mfind, keq, look, h2, ih]
    · simp [mfind, keq, look, h1, ih]
theorem mset3n {a b : Bs} : ∀ {l : List (PairT × Int)}, look (a, b) l = none → mset true [false, false, true] (.st [.w (.string (bs a)), .w (.string (bs b)), .w (.int .i64 0)]) (.w (.int .i64 1)) (cnt3V l) = some (cnt3V (bmp (a, b) l))
  | [], _ => rfl
  | ((a', b'), n) :: l, h => by
    have ih := mset3n (a := a) (b := b) (l := l)
    simp only [look, Prod.mk.injEq] at h
    split at h
    · cases h
    · rename_i h1
      have ih := ih h
      simp only [cnt3V, List.map_cons] at ih ⊢
      have h2 : (decide (a = a') && (decide (b = b') && true)) = false := by
        cases h3 : decide (a = a') <;> simp_all
      simp only [mset, keq, if_true, eqCells, Option.map_some, bs_inj, decide_true, Bool.and_self, h2, ih, bmp, Prod.mk.injEq, h1, if_false, List.map_cons]
theorem mset3s {a b : Bs} {c : Int} : ∀ {l : List (PairT × Int)}, look (a, b) l = some c → mset true [false, false, true] (.st [.w (.string (bs a)), .w (.string (bs b)), .w (.int .i64 0)]) (.w (.int .i64 (c + 1))) (cnt3V l) = some (cnt3V (bmp (a, b) l))
  | [], h => by cases h
  | ((a', b'), n) :: l, h => by
    have ih := mset3s (a := a) (b := b) (c := c) (l := l)
    simp only [look, Prod.mk.injEq] at h
    split at h
    · rename_i h1
      obtain ⟨rfl, rfl⟩ := h1
      cases h
      simp [mset, keq, cnt3V, bmp]
    · rename_i h1
      have ih := ih h
      simp only [cnt3V, List.map_cons] at ih ⊢
      have h2 : (decide (a = a') && (decide (b = b') && true)) = false := by
        cases h3 : decide (a = a') <;> simp_all
      simp only [mset, keq, if_true, eqCells, Option.map_some, bs_inj, decide_true, Bool.and_self, h2, ih, bmp, Prod.mk.injEq, h1, if_false, List.map_cons]
theorem cntV_len (l : List (PairT × Int)) : (cntV l).length = l.length := by simp [cntV]
theorem cnt3V_len (l : List (PairT × Int)) : (cnt3V l).length = l.length := by simp [cnt3V]

theorem bmp_keys {k : PairT} : ∀ (l : List (PairT × Int)), (bmp k l).map Prod.fst = if k ∈ l.map Prod.fst then l.map Prod.fst else l.map Prod.fst ++ [k]
  | [] => by simp [bmp]
  | (k', n) :: l => by
    simp only [bmp]
    by_cases h : k = k'
    · subst h; simp
    · rw [if_neg h, List.map_cons, bmp_keys l]
      simp only [List.map_cons, List.mem_cons, h, false_or]
      split <;> simp
theorem look_mem {k : PairT} : ∀ {l : List (PairT × Int)}, look k l = none ↔ k ∉ l.map Prod.fst
  | [] => by simp [look]
  | (k', n) :: l => by
    simp only [look]
    by_cases h : k = k'
    · subst h; simp
    · rw [if_neg h, look_mem (l := l)]; simp [h]
theorem bmp_nodup {k : PairT} {l : List (PairT × Int)} (h : (l.map Prod.fst).Nodup) : ((bmp k l).map Prod.fst).Nodup := by
  rw [bmp_keys]
  split
  · exact h
  · rename_i hk
    rw [List.nodup_append]
    exact ⟨h, by simp, fun x hx y hy => by rintro rfl; simp at hy; subst hy; exact hk hx⟩
theorem bmp_pos {k : PairT} : ∀ {l : List (PairT × Int)}, (∀ x ∈ l, 1 ≤ x.2) → ∀ x ∈ bmp k l, 1 ≤ x.2
  | [], _, x, hx => by simp [bmp] at hx; subst hx; simp
  | (k', n) :: l, h, x, hx => by
    simp only [bmp] at hx
    split at hx
    · rcases List.mem_cons.1 hx with rfl | hx
      · have := h (k', n) (by simp); simp at this ⊢; omega
      · exact h x (by simp [hx])
    · rcases List.mem_cons.1 hx with rfl | hx
      · exact h _ (by simp)
      · exact bmp_pos (fun y hy => h y (by simp [hy])) x hx
def tot : List (PairT × Int) → Int
  | [] => 0
  | (_, n) :: l => n + tot l
theorem bmp_tot {k : PairT} : ∀ {l : List (PairT × Int)}, tot (bmp k l) = tot l + 1
  | [] => rfl
  | (k', n) :: l => by
    simp only [bmp]
    split
    · simp only [tot]; omega
    · simp only [tot, bmp_tot (l := l)]; omega
theorem tot_ge : ∀ {l : List (PairT × Int)}, (∀ x ∈ l, 1 ≤ x.2) → (l.length : Int) ≤ tot l ∧ ∀ x ∈ l, x.2 ≤ tot l
  | [], _ => by simp [tot]
  | (k, n) :: l, h => by
    obtain ⟨h1, h2⟩ := tot_ge (l := l) fun x hx => h x (by simp [hx])
    have h3 : 1 ≤ n := h (k, n) (by simp)
    refine ⟨by simp only [tot, List.length_cons]; omega, fun x hx => ?_⟩
    simp only [tot]
    rcases List.mem_cons.1 hx with rfl | hx
    · simp only; omega
    · have := h2 x hx; omega
theorem look_in {k : PairT} {c : Int} : ∀ {l : List (PairT × Int)}, look k l = some c → (k, c) ∈ l
  | [], h => by cases h
  | (k', n) :: l, h => by
    simp only [look] at h
    split at h
    · rename_i hk; cases h; subst hk; simp
    · exact List.mem_cons_of_mem _ (look_in h)
theorem look_of {k : PairT} {c : Int} : ∀ {l : List (PairT × Int)}, (l.map Prod.fst).Nodup → (k, c) ∈ l → look k l = some c
  | (k', n) :: l, hn, h => by
    simp only [List.map_cons, List.nodup_cons] at hn
    simp only [look]
    rcases List.mem_cons.1 h with e | h
    · cases e; rw [if_pos rfl]
    · rw [if_neg (fun e => hn.1 (List.mem_map.2 ⟨(k, c), h, e⟩))]
      exact look_of hn.2 h

/-- What is counted. -/
structure OkC (l : List (PairT × Int)) (n : Nat) : Prop where
  nd : (l.map Prod.fst).Nodup
  pos : ∀ x ∈ l, 1 ≤ x.2
  tot : tot l ≤ n
theorem OkC.nil : OkC [] 0 := ⟨by simp, by simp, by simp [Proofs.tot]⟩
theorem OkC.bmp {l : List (PairT × Int)} {n : Nat} (h : OkC l n) (k : PairT) : OkC (bmp k l) (n + 1) := ⟨bmp_nodup h.nd, bmp_pos h.pos, by rw [bmp_tot]; have := h.tot; omega⟩
theorem OkC.mono {l : List (PairT × Int)} {n m : Nat} (h : OkC l n) (hm : n ≤ m) : OkC l m := ⟨h.nd, h.pos, by have := h.tot; omega⟩
theorem OkC.look {l : List (PairT × Int)} {n : Nat} (h : OkC l n) {k : PairT} {c : Int} (hk : look k l = some c) : 1 ≤ c ∧ c ≤ n := by
  have h1 := look_in hk
  have h2 := h.pos _ h1
  have h3 := (tot_ge h.pos).2 _ h1
  have := h.tot
  simp only at h2 h3
  exact ⟨h2, by omega⟩
theorem OkC.len {l : List (PairT × Int)} {n : Nat} (h : OkC l n) : l.length ≤ n := by
  have := (tot_ge h.pos).1
  have := h.tot
  omega

/-- The pair that an edit is counted for. -/
def edK (a : List Bs) (e : EditT) : Option PairT := if e.1 = 3 then some (loS (a[e.2.1.toNat]?.getD []) e.2.2.1, hiS (a[e.2.1.toNat]?.getD []) e.2.2.1) else none
def prL : PricesT := (100, 100, 100, 100, [], ())
def edKs (ab : List Bs × List Bs) : List PairT := (edF prL ab.1 ab.2).filterMap (edK ab.1)
def lrnC (L : List (List Bs × List Bs)) : List (PairT × Int) := cnt (L.flatMap edKs) []
theorem prL_ok : OkP prL := ⟨by decide, by decide, by decide, by decide, by decide, by simp [prL], by simp [prL]⟩

/-- Of the edits of kind 3. -/
theorem edL_3 {p : PricesT} (hp : OkP p) : ∀ (n i : Nat) (w v : List Bs) (a b : List Bs), a.drop i = w → (∀ s ∈ v, s ∈ b) → ∀ e ∈ edL p n i w v, 0 ≤ e.2.1 ∧ (e.1 = 3 → e.2.1.toNat < a.length ∧ e.2.2.1 ∈ b ∧ a[e.2.1.toNat]?.getD [] ∈ a ∧ a[e.2.1.toNat]?.getD [] ≠ e.2.2.1)
  | 0, _, _, _, _, _, _, _, e, he => by simp [edL] at he
  | n + 1, i, w, v, a, b, hw, hv, e, he => by
    simp only [edL] at he
    split at he
    · cases he
    · rename_i hne
      rcases List.mem_cons.1 he with rfl | he
      · refine ⟨by simp, fun h3 => ?_⟩
        have hk : kindOf p w v = 3 := by simp only at h3; omega
        have hby := kindOf_by hp (w := w) (v := v) (by by_cases h : w = [] <;> simp_all)
        rw [hk] at hby
        rcases byG_inv hby with ⟨h, _⟩ | ⟨h, _⟩ | ⟨h, _⟩ | ⟨_, x, w', y, v', rfl, rfl, hxy, _⟩ | ⟨h, _⟩
        · omega
        · omega
        · omega
        · have hi : i < a.length := by
            rcases Nat.lt_or_ge i a.length with h | h
            · exact h
            · rw [List.drop_of_length_le h] at hw; cases hw
          have hx : a[i] = x := by rw [List.drop_eq_getElem_cons hi] at hw; injection hw
          simp only [hk, kS, List.headD_cons, Int.toNat_natCast, List.getElem?_eq_getElem hi, Option.getD_some, hx]
          exact ⟨hi, hv y (by simp), by rw [← hx]; exact List.getElem_mem hi, hxy⟩
        · omega
      · exact edL_3 hp n _ _ _ a b (by rw [← hw, List.drop_drop]) (fun s hs => hv s (List.mem_of_mem_drop hs)) e he
theorem edF_3 {a b : List Bs} {e : EditT} (he : e ∈ edF prL a b) : 0 ≤ e.2.1 ∧ (e.1 = 3 → e.2.1.toNat < a.length ∧ e.2.2.1 ∈ b ∧ a[e.2.1.toNat]?.getD [] ∈ a ∧ a[e.2.1.toNat]?.getD [] ≠ e.2.2.1) :=
  edL_3 prL_ok _ 0 a b a b rfl (fun _ h => h) e he
theorem edL_ln (p : PricesT) : ∀ (n i : Nat) (w v : List Bs), (edL p n i w v).length ≤ n
  | 0, _, _, _ => by simp [edL]
  | n + 1, i, w, v => by
    simp only [edL]
    split
    · simp
    · simp only [List.length_cons]; have := edL_ln p n (i + kA (kindOf p w v)) (w.drop (kA (kindOf p w v))) (v.drop (kB (kindOf p w v))); omega
theorem edF_ln (p : PricesT) (a b : List Bs) : (edF p a b).length ≤ a.length + b.length := edL_ln _ _ _ _ _

end Go.Proofs
