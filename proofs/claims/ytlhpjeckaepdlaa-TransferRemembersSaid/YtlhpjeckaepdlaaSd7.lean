/- The walk. -/
import Derived.Test.YtlhpjeckaepdlaaSd6
import Derived.Test.YtlhpjeckaepdlaaProg
import Derived.KernelRfl
set_option linter.all false
set_option maxHeartbeats 2000000
namespace Go.Proofs
open Go Go.AM
attribute [local irreducible] Run Ends
/-- ablaut/ablautref28.Memory -/
def c29 : MC :=
  .seq (.reg false [.op .none 6 (.nilS 2),
    .op .none 7 (.mv (.c (.w (.int .i64 0))))]) <|
  .seq (.seq (.reg false [.op .none 12 (.mv (.t 0)),
    .op .none 13 (.mv (.t 1)),
    .call .none 14 (.f 78) [(.t 12), (.t 13)],
    .op .none 8 (.mv (.t 14))]) <|
  .seq (.reg false [.op .none 15 (.mv (.t 8)),
    .op .none 16 (.bin .neq (.t 15) (.c (.w (.int .i64 0))))]) <|
  .cond (.t 16)
    (.seq (.reg false [.op .none 17 (.mv (.t 8)),
      .op .none 6 (.nilS 2),
      .op .none 7 (.mv (.t 17))]) <|
    .ret)
    (.skip)) <|
  .seq (.seq (.reg false [.op .none 18 (.mv (.t 2)),
    .op .none 19 (.bin .lss (.t 18) (.c (.w (.int .i64 1)))),
    .op .none 20 (.mv (.t 19)),
    .op (.some (20, false)) 21 (.mv (.t 2)),
    .op (.some (20, false)) 22 (.bin .gtr (.t 21) (.c (.w (.int .i64 200)))),
    .op .none 23 (.pick (.t 20) (.c (.w (.bool true))) (.t 22))]) <|
  .cond (.t 23)
    (.seq (.reg false [.op .none 6 (.nilS 2),
      .op .none 7 (.mv (.c (.w (.int .i64 1))))]) <|
    .ret)
    (.skip)) <|
  .seq (.reg false [.op .none 9 (.nilS 2)]) <|
  .seq (.seq (.reg false [.op .none 10 (.mv (.c (.w (.int .i64 0))))]) <|
  .block 0 <|
    .loop <|
      .seq (.seq (.reg false [.op .none 24 (.mv (.t 10)),
        .op .none 25 (.bin .leq (.t 24) (.c (.w (.int .i64 20))))]) <|
      .cond (.t 25)
        (.skip)
        (.exit 0)) <|
      .seq (.block 1 <|
        .seq (.reg false [.op .none 11 (.mv (.c (.w (.int .i64 0))))]) <|
        .block 2 <|
          .loop <|
            .seq (.seq (.reg false [.op .none 28 (.mv (.t 11)),
              .op .none 29 (.mv (.t 0)),
              .op .none 30 (.len false (.t 29)),
              .op .none 31 (.bin .lss (.t 28) (.t 30)),
              .op .none 32 (.mv (.t 31)),
              .op (.some (32, true)) 33 (.mv (.t 9)),
              .op (.some (32, true)) 34 (.len false (.t 33)),
              .op (.some (32, true)) 35 (.mv (.t 2)),
              .op (.some (32, true)) 36 (.bin .lss (.t 34) (.t 35)),
              .op .none 37 (.pick (.t 32) (.t 36) (.c (.w (.bool false))))]) <|
            .cond (.t 37)
              (.skip)
              (.exit 2)) <|
            .seq (.block 3 <|
              .seq (.reg false [.op .none 40 (.mv (.t 1)),
                .op .none 41 (.mv (.t 0)),
                .op .none 42 (.mv (.t 11)),
                .op .none 43 (.ia 2 (.t 41) (.t 42)),
                .op .none 44 (.fa 0 (.t 43)),
                .op .none 45 (.ld false 1 (.t 44)),
                .call .none 46 (.f 79) [(.t 40), (.t 45)],
                .op .none 47 (.mv (.t 10)),
                .op .none 48 (.bin .eql (.t 46) (.t 47))]) <|
              .cond (.t 48)
                (.reg false [.op .none 49 (.mv (.t 9)),
                  .op .none 50 (.mv (.t 10)),
                  .op .none 51 (.mv (.t 0)),
                  .op .none 52 (.mv (.t 11)),
                  .op .none 53 (.ia 2 (.t 51) (.t 52)),
                  .op .none 54 (.fa 1 (.t 53)),
                  .op .none 55 (.ld false 1 (.t 54)),
                  .op .none 56 (.cln 1 16 (.t 55)),
                  .op .none 57 (.build false [(.w (.int .i64 0)), (.sl 1 [])] [(0, 1, (.t 50)), (1, 1, (.t 56))]),
                  .op .none 58 (.buildS false 2 1 true [(.w (.int .i64 0)), (.sl 1 [])] [(0, (.t 57))]),
                  .op .none 59 (.app 2 32 (.t 49) (.t 58)),
                  .op .none 9 (.mv (.t 59))])
                (.skip)) <|
            .reg false [.op .none 38 (.mv (.t 11)),
              .op .none 39 (.bin .add (.t 38) (.c (.w (.int .i64 1)))),
              .op .none 11 (.mv (.t 39))]) <|
      .reg false [.op .none 26 (.mv (.t 10)),
        .op .none 27 (.bin .add (.t 26) (.c (.w (.int .i64 1)))),
        .op .none 10 (.mv (.t 27))]) <|
  .seq (.reg false [.op .none 60 (.mv (.t 9)),
    .op .none 6 (.mv (.t 60)),
    .op .none 7 (.mv (.c (.w (.int .i64 0))))]) <|
  .ret
theorem k29 : FnCode Try.prog 29 [] 61 [6, 7] c29 := ⟨Try.f29, Try.func29, fun xs W => Try.call29 xs W, by kernel_rfl, by kernel_rfl, by kernel_rfl⟩

def MaxE (i : Int) : Int → List Int → Prop
  | _, [] => True
  | k, v :: l => v ≤ max i k ∧ MaxE i (k + 1) l
theorem nxE_max (x : Bs) (i : Int) : ∀ (b : List Bs) (prev : List Int) (cur k : Int), MaxE i k prev → cur ≤ max (i + 1) k → MaxE (i + 1) (k + 1) (nxE x prev b cur)
  | [], [], _, _, _, _ => trivial
  | [], [_], _, _, _, _ => trivial
  | [], _ :: _ :: _, _, _, _, _ => trivial
  | _ :: _, [], _, _, _, _ => trivial
  | _ :: _, [_], _, _, _, _ => trivial
  | y :: b, d0 :: d1 :: ds, cur, k, h, hc => by
    have h0 := h.1
    simp only [nxE]
    have hv : (if x = y then d0 else min (min d0 d1) cur + 1) ≤ max (i + 1) (k + 1) := by
      split <;> omega
    exact ⟨hv, nxE_max x i b (d1 :: ds) _ (k + 1) h.2 hv⟩
theorem rowsE_max (b : List Bs) : ∀ (a : List Bs) (P : List Int) (i : Nat), MaxE i 0 P → MaxE (i + a.length : Nat) 0 (rowsE b a P i)
  | [], P, i, h => by simpa [rowsE] using h
  | x :: a, P, i, h => by
    have := rowsE_max b a (rowE x P b i) (i + 1) ⟨by simp; omega, nxE_max x i b P _ 0 h (by omega)⟩
    simp only [rowsE, List.length_cons]
    have e : i + (a.length + 1) = i + 1 + a.length := by omega
    rw [e]; exact this
theorem rowsE_gd (b : List Bs) : ∀ (a : List Bs) (P : List Int) (i : Nat), GdE b.length i P → GdE b.length (i + a.length) (rowsE b a P i)
  | [], P, i, h => by simpa [rowsE] using h
  | x :: a, P, i, h => by
    have := rowsE_gd b a (rowE x P b i) (i + 1) h.step.1
    simp only [rowsE, List.length_cons]
    have e : i + (a.length + 1) = i + 1 + a.length := by omega
    rw [e]; exact this
theorem MaxE_at (i : Int) : ∀ (l : List Int) (k : Int) (j : Nat) (h : j < l.length), MaxE i k l → l[j] ≤ max i (k + j)
  | [], _, j, h, _ => by simp at h
  | v :: l, k, 0, _, hm => by have := hm.1; simpa using this
  | v :: l, k, j + 1, h, hm => by
    have := MaxE_at i l (k + 1) j (by simpa using h) hm.2
    simp only [List.getElem_cons_succ]
    omega
theorem edF_bd (a b : List Bs) (ha : a.length ≤ 20) (hb : b.length ≤ 20) : 0 ≤ edF a b ∧ edF a b ≤ 20 := by
  have g := rowsE_gd b a _ 0 (gdE0 b.length hb)
  have m := rowsE_max b a (row0 b.length) 0 (by
    unfold row0
    have : ∀ (n : Nat) (k : Nat), MaxE (0 : Nat) k ((List.range' k n).map fun k : Nat => (k : Int)) := by
      intro n
      induction n with
      | zero => intro k; trivial
      | succ n ih => intro k; rw [List.range'_succ]; exact ⟨by show (k : Int) ≤ max ((0 : Nat) : Int) k; omega, ih (k + 1)⟩
    rw [List.range_eq_range']
    exact this _ 0)
  have hl : b.length < (rowsE b a (row0 b.length) 0).length := by rw [g.len]; omega
  unfold edF
  have e : (rowsE b a (row0 b.length) 0).getD b.length 0 = (rowsE b a (row0 b.length) 0)[b.length] := by simp [hl]
  rw [e]
  have h1 := g.bd _ (List.getElem_mem hl)
  have h2 := MaxE_at _ _ 0 b.length hl m
  omega
/-- The elements by their cost, each cost's in their order. -/
def byR (n : Nat) (X : List PaidT) : List PaidT := (List.range n).flatMap fun c : Nat => X.filter fun x => x.1 == (c : Int)
theorem byR_succ (n : Nat) (X : List PaidT) : byR (n + 1) X = byR n X ++ X.filter fun x => x.1 == (n : Int) := by
  unfold byR
  rw [List.range_succ, List.flatMap_append]
  simp
theorem byR_mem {n : Nat} {X : List PaidT} {x : PaidT} (h : x ∈ byR n X) : x.1 < n := by
  simp only [byR, List.mem_flatMap, List.mem_range, List.mem_filter, beq_iff_eq] at h
  obtain ⟨c, h1, _, h2⟩ := h
  omega
theorem insS_app (y : PaidT) : ∀ (A B : List PaidT), (∀ x ∈ B, y.1 < x.1) → insS cPd (A ++ B) y = insS cPd A y ++ B
  | [], [], _ => rfl
  | [], x :: B, h => by
    have := h x (by simp)
    have hc : cPd y x < 0 := by unfold cPd; rw [cmpZ_lt]; omega
    simp [insS, hc]
  | x :: A, B, h => by
    have ih := insS_app y A B h
    simp only [List.cons_append, insS]
    split
    · rfl
    · rw [ih]; rfl
theorem insS_last (y : PaidT) : ∀ (A : List PaidT), (∀ x ∈ A, x.1 ≤ y.1) → insS cPd A y = A ++ [y]
  | [], _ => rfl
  | x :: A, h => by
    have := h x (by simp)
    have hc : ¬ cPd y x < 0 := by unfold cPd; rw [cmpZ_lt]; omega
    simp only [insS, if_neg hc]
    rw [insS_last y A (fun z hz => h z (by simp [hz]))]
    rfl
theorem byR_snoc (X : List PaidT) (y : PaidT) : ∀ (n : Nat), (0 ≤ y.1) → (∀ x ∈ X, 0 ≤ x.1) → byR n (X ++ [y]) = if y.1 < n then insS cPd (byR n X) y else byR n X
  | 0, h, _ => by
    have : ¬ y.1 < 0 := by omega
    simp [byR, this]
  | n + 1, h, hX => by
    rw [byR_succ, byR_snoc X y n h hX, byR_succ, List.filter_append]
    by_cases h1 : y.1 < n
    · have h2 : ¬ y.1 = n := by omega
      have h3 : y.1 < (n + 1 : Nat) := by omega
      have h4 : (y.1 == (n : Int)) = false := by simpa using h2
      rw [if_pos h1, if_pos h3]
      simp only [List.filter_cons, List.filter_nil, h4, Bool.false_eq_true, if_false, List.append_nil]
      rw [insS_app]
      intro x hx
      have := List.mem_filter.1 hx
      simp at this
      omega
    · rw [if_neg h1]
      by_cases h2 : y.1 = n
      · have h3 : y.1 < (n + 1 : Nat) := by omega
        have h4 : (y.1 == (n : Int)) = true := by simpa using h2
        rw [if_pos h3]
        simp only [List.filter_cons, List.filter_nil, h4, if_true]
        have := insS_last y (byR n X ++ X.filter fun x => x.1 == (n : Int)) (fun x hx => by
          rcases List.mem_append.1 hx with hx | hx
          · have := byR_mem hx; omega
          · have := List.mem_filter.1 hx; simp at this; omega)
        rw [this]
        simp
      · have h3 : ¬ y.1 < (n + 1 : Nat) := by omega
        have h4 : (y.1 == (n : Int)) = false := by simpa using h2
        rw [if_neg h3]
        simp [h4]
theorem isrt_byR (n : Nat) (X : List PaidT) (h : ∀ x ∈ X, 0 ≤ x.1 ∧ x.1 < n) : isrt cPd X = byR n X := by
  have : ∀ (k : Nat), k ≤ X.length → isrt cPd (X.take k) = byR n (X.take k) := by
    intro k
    induction k with
    | zero => intro _; simp [isrt, byR]
    | succ k ih =>
      intro hk
      have hk' : k < X.length := by omega
      have e : X.take (k + 1) = X.take k ++ [X[k]] := by rw [List.take_succ, List.getElem?_eq_getElem hk']; rfl
      have hx := h X[k] (List.getElem_mem hk')
      rw [e, isrt_snoc, ih (by omega), byR_snoc _ _ n hx.1 (fun x hx => (h x (List.mem_of_mem_take hx)).1), if_pos hx.2]
  have := this X.length (Nat.le_refl _)
  rwa [List.take_length] at this
theorem memL_bd (l : List KnownT) (w : List Bs) (hw : w.length ≤ 20) (hk : ∀ k ∈ l, k.1.length ≤ 20 ∧ k.2.1.length ≤ 20) : ∀ x ∈ memL l w, 0 ≤ x.1 ∧ x.1 < (21 : Nat) := by
  intro x hx
  obtain ⟨k, hk', rfl⟩ := List.mem_map.1 hx
  have := edF_bd w k.1 hw (hk k hk').1
  simp only
  omega
theorem fok29 (l : List KnownT) (w : List Bs) (most : Int) (hs : knS l w) : FOk Try.prog 29 [.v (.sl 2 (l.map knownV)), .v (.word w), .I most] [] (.tup [.v (.sl 2 ((memF l w most).1.map paidV)), .I (memF l w most).2]) [] := by
  have r1 := fok78 l w hs
  have hc := knF_cases l w
  refine FOk.val k29 (by simp) (by simp) (by decide) ?_
  unfold memF
  generalize hres : (if knF l w ≠ 0 then (([] : List PaidT), knF l w) else if most < 1 ∨ 200 < most then ([], 1) else ((isrt cPd (memL l w)).take most.toNat, 0)) = res
  simp [c29]
  refine CallG.lent rfl rfl rfl rfl r1 rfl ?_
  rcases hc with hc | ⟨hc, hl, hw, hk⟩
  · rw [if_pos (by omega)] at hres
    subst hres
    simp [hc]
    exact Ends.v rfl (by simp [hc])
  rw [if_neg (by omega)] at hres
  simp [hc]
  by_cases h1 : most < 1
  · rw [if_pos (.inl h1)] at hres
    subst hres
    have h1' : ¬ 1 ≤ most := by omega
    simp [h1, h1']
    exact Ends.v rfl (by simp)
  have h1' : 1 ≤ most := by omega
  by_cases h2 : 200 < most
  · rw [if_pos (.inr h2)] at hres
    subst hres
    have h2' : ¬ most ≤ 200 := by omega
    simp [h1, h1', h2, h2']
    exact Ends.v rfl (by simp)
  have h2' : most ≤ 200 := by omega
  rw [if_neg (by omega)] at hres
  subst hres
  rw [isrt_byR 21 _ (memL_bd l w hw hk)]
  have hMl : (memL l w).length = l.length := by simp [memL]
  generalize hM : most.toNat = M
  simp [h1, h1', h2, h2']
  refine Run.loopA (ι := Nat × List PaidT) [(1, 9)] (fun q => q.1 ≤ 21 ∧ q.2 = (byR q.1 (memL l w)).take M) (fun q => ⟨[(0, .v (.sl 2 (l.map knownV))), (1, .v (.word w)), (2, .I most), (9, .h 1), (10, .I q.1)], [(1, ⟨false, 2, q.2.map paidV⟩)], 1024⟩) (fun q => 21 - q.1) (0, []) (by decide) (by simp) (by simp [byR]) ?_
  rintro ⟨c, out⟩ ⟨hcc, hout⟩ ih
  simp only at hcc hout ih
  by_cases h : c ≤ 20
  case neg =>
    have he : c = 21 := by omega
    subst he
    subst hout
    clear ih
    simp [wrap_i64]
    exact Ends.v rfl (by simp)
  have h' : ¬ 20 < c := by omega
  have h'' : c < 21 := by omega
  simp (disch := omega) [h, h', h'', wrap_i64]
  refine Run.loopA (ι := Nat × List PaidT) [(1, 9)] (fun q => q.1 ≤ l.length ∧ q.2 = (byR c (memL l w) ++ ((memL l w).take q.1).filter fun x => x.1 == (c : Int)).take M) (fun q => ⟨[(0, .v (.sl 2 (l.map knownV))), (1, .v (.word w)), (2, .I most), (9, .h 1), (10, .I c), (11, .I q.1)], [(1, ⟨false, 2, q.2.map paidV⟩)], 1024⟩) (fun q => l.length - q.1) (0, out) (by decide) (by simp) ⟨by simp, by simp [hout]⟩ ?_
  rintro ⟨i, o⟩ ⟨hi, ho⟩ ih2
  simp only at hi ho ih2
  have hol : o.length ≤ M := by rw [ho]; simp; omega
  by_cases h3 : i < l.length
  case neg =>
    have hil : i = l.length := by omega
    subst hil
    have ho2 : o = (byR (c + 1) (memL l w)).take M := by
      rw [ho, byR_succ, ← hMl, List.take_length]
    clear ih2
    simp (disch := omega) [h3, wrap_i64]
    refine ih (c + 1, o) _ ⟨by simp; omega, ho2⟩ (by simp; omega) (by simp)
  by_cases h4 : (o.length : Int) < most
  case neg =>
    have h4' : most ≤ o.length := by omega
    have h4n : ¬ o.length < most := h4
    have ho2 : o = (byR (c + 1) (memL l w)).take M := by
      have hle : M ≤ (byR c (memL l w) ++ ((memL l w).take i).filter fun x => x.1 == (c : Int)).length := by
        have : o.length = min M (byR c (memL l w) ++ ((memL l w).take i).filter fun x => x.1 == (c : Int)).length := by rw [ho, List.length_take]
        omega
      have e : (memL l w).filter (fun x => x.1 == (c : Int)) = ((memL l w).take i).filter (fun x => x.1 == (c : Int)) ++ ((memL l w).drop i).filter (fun x => x.1 == (c : Int)) := by
        rw [← List.filter_append, List.take_append_drop]
      rw [ho, byR_succ, e, ← List.append_assoc, List.take_append_of_le_length hle]
    clear ih2
    simp (disch := omega) [h3, h4, h4', wrap_i64]
    refine ih (c + 1, o) _ ⟨by simp; omega, ho2⟩ (by simp; omega) (by simp)
  have h4' : ¬ most ≤ o.length := by omega
  rcases hli : l[i] with ⟨ka, kb, ku⟩
  have hm : l[i] ∈ l := List.getElem_mem h3
  rw [hli] at hm
  have hb := hk _ hm
  simp only at hb
  have r2 := fok79 w ka hw hb.1
  have hi2 : i < (memL l w).length := by omega
  have ex : (memL l w)[i] = (edF w ka, kb, ()) := by simp [memL, hli]
  have e : (memL l w).take (i + 1) = (memL l w).take i ++ [(edF w ka, kb, ())] := by rw [List.take_succ, List.getElem?_eq_getElem hi2, ex]; rfl
  have hol2 : (byR c (memL l w) ++ ((memL l w).take i).filter fun x => x.1 == (c : Int)) = o := by
    have : o.length = min M (byR c (memL l w) ++ ((memL l w).take i).filter fun x => x.1 == (c : Int)).length := by rw [ho, List.length_take]
    have hle : (byR c (memL l w) ++ ((memL l w).take i).filter fun x => x.1 == (c : Int)).length ≤ M := by omega
    rw [ho]
    exact (List.take_of_length_le hle).symm
  simp (disch := omega) [h3, h4, h4', wrap_i64, hli, knownV]
  refine CallG.lent rfl rfl rfl rfl r2 rfl ?_
  have hmb : (o.length + 1 + 1000) * 32 ≤ 70368744177664 := by omega
  have hmc : (kb.length + 1000) * 16 ≤ 70368744177664 := by clear hmb; omega
  by_cases h5 : edF w ka = c
  · have hq : ((edF w ka) == (c : Int)) = true := by simpa using h5
    simp (disch := (clear hmb hmc; omega)) [h5, wrap_i64, hmb, hmc, hli, knownV]
    clear hmb hmc
    refine ih2 (i + 1, o ++ [((c : Int), kb, ())]) _ ⟨by simp; omega, ?_⟩ (by simp; omega) (by simp [paidV])
    simp only
    have hle : (o ++ [((c : Int), kb, ())]).length ≤ M := by simp; omega
    rw [e, List.filter_append, ← List.append_assoc, hol2]
    simp only [List.filter_cons, hq, List.filter_nil, if_true]
    rw [h5]
    exact (List.take_of_length_le hle).symm
  · have hq : ((edF w ka) == (c : Int)) = false := by simpa using h5
    simp (disch := (clear hmb hmc; omega)) [h5, wrap_i64, hmb, hmc]
    refine ih2 (i + 1, o) _ ⟨by simp; omega, ?_⟩ (by simp; omega) (by simp)
    simp only
    rw [e, List.filter_append]
    simp only [List.filter_cons, hq, List.filter_nil, Bool.false_eq_true, if_false, List.append_nil]
    exact ho

end Go.Proofs
