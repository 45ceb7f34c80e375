/- The walk. -/
import Derived.Test.YtlhpjeckaepdlaaTs10
import Derived.Test.YtlhpjeckaepdlaaProg
import Derived.KernelRfl
set_option linter.all false
set_option maxHeartbeats 2000000
namespace Go.Proofs
open Go Go.AM
attribute [local irreducible] Run Ends
theorem fok65 (s : SlotT) (inn trn : List UnitT) (hs : slotB s) (hok : slotOk s inn.length = true) (hlen : trn.length = inn.length) (hi : ∀ u ∈ inn, unitS u) (ht : ∀ u ∈ trn, unitS u ∧ u.2.1.length ≤ 1000) (hl : inn.length ≤ 1000000) :
    FOk Try.prog 65 [.v (slotV s), .v (.sl 2 (inn.map unitV)), .v (.sl 2 (trn.map unitV))] [] (.v (unitV (writeF s inn trn))) [] := by
  obtain ⟨o, b, t, f, k, u⟩ := s
  obtain ⟨⟨s1, s2, s3⟩, s4, s5⟩ := hs
  simp only at s1 s2 s3 s4 s5
  simp only [slotOk, Bool.and_eq_true, Bool.or_eq_true, decide_eq_true_eq] at hok
  obtain ⟨hw, hf1, hf2, hk, hf3⟩ := hok
  have hr : f = -1 ∨ ∃ g : Nat, f = g ∧ g < inn.length := by
    by_cases c2 : f = -1
    · exact .inl c2
    · obtain ⟨g, rfl⟩ := Int.eq_ofNat_of_zero_le (show 0 ≤ f by omega)
      exact .inr ⟨g, rfl, by omega⟩
  have hb0 : (t.length + 1000) * 16 ≤ 70368744177664 := by omega
  refine FOk.val k65 (by simp) (by simp) (by decide) ?_
  by_cases c1 : o = -1
  · subst c1
    simp [c65, slotV, hb0]
    clear hb0
    rcases hr with rfl | ⟨g, rfl, hg⟩
    · simp
      exact Ends.v rfl (by simp [writeF, base0, unitV, List.map])
    have hgn : ¬ (g : Int) = -1 := by omega
    have hg0 : ¬ (g : Int) < 0 := by omega
    have hui := hi _ (List.getElem_mem hg)
    generalize hx : inn[g] = x at hui
    obtain ⟨xb, xt, xu⟩ := x
    have hx1 := hui.1.1
    simp only at hx1
    have hres : writeF (-1, b, t, (g : Int), k, u) inn trn = (b, wthF (t.filter fun y => !inBut k xt y) (k.filter fun y => inW xt y), ()) := by
      simp [writeF, base0, unAt, hg, hx, hgn, List.map]
    rw [hres]
    simp [hgn, hg0, slotV]
    refine Run.loopA (ι := Nat) [(1, 3), (2, 6), (3, 7), (4, 8), (5, 9)] (fun i => i ≤ t.length) (fun i => ⟨[(1, .v (.sl 2 (inn.map unitV))), (3, .ptr 1 0 0), (6, .ptr 2 0 0), (7, .ptr 3 0 0), (8, .h 4), (9, .h 5), (10, .I i)], [(5, ⟨false, 1, []⟩), (4, ⟨false, 1, ((t.take i).filter fun y => !inBut k xt y).map fun s => .w (.string (bs s))⟩), (3, ⟨false, 2, [.st [.s (bs b), .word t]]⟩), (2, ⟨false, 2, [.st [.s (bs []), .sl 1 []]]⟩), (1, ⟨false, 5, [slotV (-1, b, t, (g : Int), k, u)]⟩)], 1024⟩) (fun i => t.length - i) 0 (by decide) (by simp [slotV]) (by simp) ?_
    rintro i hik ih
    by_cases h : i < t.length
    · have hc1 := fok71 k t[i] s2.1
      have hc2 := fok71 xt t[i] hx1
      have hst : (t.take (i + 1)).filter (fun y => !inBut k xt y) = (t.take i).filter (fun y => !inBut k xt y) ++ (if (!inBut k xt t[i]) = true then [t[i]] else []) := by
        rw [List.take_succ_eq_append_getElem h, List.filter_append]
        cases hp : !inBut k xt t[i] <;> simp [hp]
      have hbl : (((t.take i).filter fun y => !inBut k xt y).length + 1 + 1000) * 16 ≤ 70368744177664 := by
        have := List.length_filter_le (fun y => !inBut k xt y) (t.take i)
        simp at this
        omega
      have hib : inBut k xt t[i] = (inW k t[i] && !inW xt t[i]) := rfl
      rw [hib] at hst
      clear hib
      generalize inW k t[i] = y1 at hc1 hst
      generalize inW xt t[i] = y2 at hc2 hst
      simp at hc1 hc2
      simp (disch := (clear hbl; omega)) [h, wrap_i64, slotV]
      refine CallG.lent rfl rfl rfl rfl hc1 rfl ?_
      cases y1
      · simp at hst
        simp (disch := (clear hbl; omega)) [h, wrap_i64, hbl]
        exact ih (i + 1) _ (by clear hbl; omega) (by clear hbl; omega) (by simp [hst, slotV])
      · simp (disch := (clear hbl; omega)) [h, wrap_i64, slotV, hg, hx, unitV, hg0]
        refine CallG.lent rfl rfl rfl rfl hc2 rfl ?_
        cases y2
        · simp at hst
          simp (disch := (clear hbl; omega)) [h, wrap_i64]
          exact ih (i + 1) _ (by clear hbl; omega) (by clear hbl; omega) (by simp [hst, slotV])
        · simp at hst
          simp (disch := (clear hbl; omega)) [h, wrap_i64, hbl]
          exact ih (i + 1) _ (by clear hbl; omega) (by clear hbl; omega) (by simp [hst, slotV])
    have hik2 : i = t.length := by omega
    subst hik2
    rw [List.take_length]
    have hfl : (t.filter fun y => !inBut k xt y).length ≤ 1000 := Nat.le_trans (List.length_filter_le _ _) (by omega)
    generalize (t.filter fun y => !inBut k xt y) = T at hfl ⊢
    clear ih h
    simp
    refine Run.loopA (ι := Nat) [(1, 3), (2, 6), (3, 7), (4, 8), (5, 9)] (fun i => i ≤ k.length) (fun i => ⟨[(1, .v (.sl 2 (inn.map unitV))), (3, .ptr 1 0 0), (6, .ptr 2 0 0), (7, .ptr 3 0 0), (8, .h 4), (9, .h 5), (11, .I i)], [(5, ⟨false, 1, ((k.take i).filter fun y => inW xt y).map fun s => .w (.string (bs s))⟩), (4, ⟨false, 1, T.map fun s => .w (.string (bs s))⟩), (3, ⟨false, 2, [.st [.s (bs b), .word t]]⟩), (2, ⟨false, 2, [.st [.s (bs []), .sl 1 []]]⟩), (1, ⟨false, 5, [slotV (-1, b, t, (g : Int), k, u)]⟩)], 1024⟩) (fun i => k.length - i) 0 (by decide) (by simp [slotV]) (by simp) ?_
    rintro i hik ih
    by_cases h : i < k.length
    · have hc := fok71 xt k[i] hx1
      have hst : (k.take (i + 1)).filter (fun y => inW xt y) = (k.take i).filter (fun y => inW xt y) ++ (if inW xt k[i] = true then [k[i]] else []) := by
        rw [List.take_succ_eq_append_getElem h, List.filter_append]
        cases hp : inW xt k[i] <;> simp [hp]
      have hbl : (((k.take i).filter fun y => inW xt y).length + 1 + 1000) * 16 ≤ 70368744177664 := by
        have := List.length_filter_le (fun y => inW xt y) (k.take i)
        simp at this
        omega
      simp at hc
      simp (disch := (clear hbl; omega)) [h, wrap_i64, slotV, hg, hx, unitV, hg0]
      refine CallG.lent rfl rfl rfl rfl hc rfl ?_
      generalize inW xt k[i] = bb at hst
      cases bb
      · simp only [Bool.false_eq_true, if_false, List.append_nil] at hst
        simp (disch := (clear hbl; omega)) [wrap_i64]
        exact ih (i + 1) _ (by clear hbl; omega) (by clear hbl; omega) (by simp [hst, slotV])
      · simp only [if_true] at hst
        simp (disch := (clear hbl; omega)) [wrap_i64, hbl, h]
        exact ih (i + 1) _ (by clear hbl; omega) (by clear hbl; omega) (by simp [hst, slotV])
    · have hik2 : i = k.length := by omega
      subst hik2
      have h4 := fok100 T (k.filter fun y => inW xt y) (by omega) (Nat.le_trans (List.length_filter_le _ _) (by omega))
      simp at h4
      simp [slotV]
      refine CallG.rows [] rfl rfl rfl rfl (by simp) (by simp) h4 (by simp) (by simp) ?_
      simp
      exact Ends.v rfl (by simp [unitV])
  · rw [if_neg c1] at hw
    simp only [Bool.and_eq_true, decide_eq_true_eq] at hw
    obtain ⟨w1, rfl, rfl, w2⟩ := hw
    obtain ⟨a, rfl⟩ := Int.eq_ofNat_of_zero_le (show 0 ≤ o by omega)
    have ha : a < trn.length := by omega
    have hta := ht _ (List.getElem_mem ha)
    have h2 := fok99 trn[a] (by omega)
    generalize hz : trn[a] = z at hta h2
    obtain ⟨zb, zt, zu⟩ := z
    obtain ⟨⟨z1, z2⟩, z3⟩ := hta
    simp only at z1 z2 z3
    simp [c65, slotV, ha, hz, unitV]
    simp [unitV] at h2
    clear hb0
    refine CallG.plain rfl rfl rfl rfl h2 (by simp) (by simp) ?_
    simp
    rcases hr with rfl | ⟨g, rfl, hg⟩
    · simp
      exact Ends.v rfl (by simp [writeF, base0, unitV, List.map, c1, unAt, ha, hz])
    have hgn : ¬ (g : Int) = -1 := by omega
    have hg0 : ¬ (g : Int) < 0 := by omega
    have hui := hi _ (List.getElem_mem hg)
    generalize hx : inn[g] = x at hui
    obtain ⟨xb, xt, xu⟩ := x
    have hx1 := hui.1.1
    simp only at hx1
    have hres : writeF ((a : Int), [], [], (g : Int), k, u) inn trn = (zb, wthF (zt.filter fun y => !inBut k xt y) (k.filter fun y => inW xt y), ()) := by
      simp [writeF, base0, unAt, hg, hx, hgn, List.map, c1, unAt, ha, hz]
    rw [hres]
    simp [hgn, hg0, slotV]
    refine Run.loopA (ι := Nat) [(1, 3), (2, 6), (3, 7), (4, 8), (5, 9)] (fun i => i ≤ zt.length) (fun i => ⟨[(1, .v (.sl 2 (inn.map unitV))), (3, .ptr 1 0 0), (6, .ptr 2 0 0), (7, .ptr 3 0 0), (8, .h 4), (9, .h 5), (10, .I i)], [(5, ⟨false, 1, []⟩), (4, ⟨false, 1, ((zt.take i).filter fun y => !inBut k xt y).map fun s => .w (.string (bs s))⟩), (3, ⟨false, 2, [.st [.s (bs zb), .word zt]]⟩), (2, ⟨false, 2, [.st [.s (bs []), .sl 1 []]]⟩), (1, ⟨false, 5, [slotV ((a : Int), [], [], (g : Int), k, u)]⟩)], 1024⟩) (fun i => zt.length - i) 0 (by decide) (by simp [slotV]) (by simp) ?_
    rintro i hik ih
    by_cases h : i < zt.length
    · have hc1 := fok71 k zt[i] s2.1
      have hc2 := fok71 xt zt[i] hx1
      have hst : (zt.take (i + 1)).filter (fun y => !inBut k xt y) = (zt.take i).filter (fun y => !inBut k xt y) ++ (if (!inBut k xt zt[i]) = true then [zt[i]] else []) := by
        rw [List.take_succ_eq_append_getElem h, List.filter_append]
        cases hp : !inBut k xt zt[i] <;> simp [hp]
      have hbl : (((zt.take i).filter fun y => !inBut k xt y).length + 1 + 1000) * 16 ≤ 70368744177664 := by
        have := List.length_filter_le (fun y => !inBut k xt y) (zt.take i)
        simp at this
        omega
      have hib : inBut k xt zt[i] = (inW k zt[i] && !inW xt zt[i]) := rfl
      rw [hib] at hst
      clear hib
      generalize inW k zt[i] = y1 at hc1 hst
      generalize inW xt zt[i] = y2 at hc2 hst
      simp at hc1 hc2
      simp (disch := (clear hbl; omega)) [h, wrap_i64, slotV]
      refine CallG.lent rfl rfl rfl rfl hc1 rfl ?_
      cases y1
      · simp at hst
        simp (disch := (clear hbl; omega)) [h, wrap_i64, hbl]
        exact ih (i + 1) _ (by clear hbl; omega) (by clear hbl; omega) (by simp [hst, slotV])
      · simp (disch := (clear hbl; omega)) [h, wrap_i64, slotV, hg, hx, unitV, hg0]
        refine CallG.lent rfl rfl rfl rfl hc2 rfl ?_
        cases y2
        · simp at hst
          simp (disch := (clear hbl; omega)) [h, wrap_i64]
          exact ih (i + 1) _ (by clear hbl; omega) (by clear hbl; omega) (by simp [hst, slotV])
        · simp at hst
          simp (disch := (clear hbl; omega)) [h, wrap_i64, hbl]
          exact ih (i + 1) _ (by clear hbl; omega) (by clear hbl; omega) (by simp [hst, slotV])
    have hik2 : i = zt.length := by omega
    subst hik2
    rw [List.take_length]
    have hfl : (zt.filter fun y => !inBut k xt y).length ≤ 1000 := Nat.le_trans (List.length_filter_le _ _) (by omega)
    generalize (zt.filter fun y => !inBut k xt y) = T at hfl ⊢
    clear ih h
    simp
    refine Run.loopA (ι := Nat) [(1, 3), (2, 6), (3, 7), (4, 8), (5, 9)] (fun i => i ≤ k.length) (fun i => ⟨[(1, .v (.sl 2 (inn.map unitV))), (3, .ptr 1 0 0), (6, .ptr 2 0 0), (7, .ptr 3 0 0), (8, .h 4), (9, .h 5), (11, .I i)], [(5, ⟨false, 1, ((k.take i).filter fun y => inW xt y).map fun s => .w (.string (bs s))⟩), (4, ⟨false, 1, T.map fun s => .w (.string (bs s))⟩), (3, ⟨false, 2, [.st [.s (bs zb), .word zt]]⟩), (2, ⟨false, 2, [.st [.s (bs []), .sl 1 []]]⟩), (1, ⟨false, 5, [slotV ((a : Int), [], [], (g : Int), k, u)]⟩)], 1024⟩) (fun i => k.length - i) 0 (by decide) (by simp [slotV]) (by simp) ?_
    rintro i hik ih
    by_cases h : i < k.length
    · have hc := fok71 xt k[i] hx1
      have hst : (k.take (i + 1)).filter (fun y => inW xt y) = (k.take i).filter (fun y => inW xt y) ++ (if inW xt k[i] = true then [k[i]] else []) := by
        rw [List.take_succ_eq_append_getElem h, List.filter_append]
        cases hp : inW xt k[i] <;> simp [hp]
      have hbl : (((k.take i).filter fun y => inW xt y).length + 1 + 1000) * 16 ≤ 70368744177664 := by
        have := List.length_filter_le (fun y => inW xt y) (k.take i)
        simp at this
        omega
      simp at hc
      simp (disch := (clear hbl; omega)) [h, wrap_i64, slotV, hg, hx, unitV, hg0]
      refine CallG.lent rfl rfl rfl rfl hc rfl ?_
      generalize inW xt k[i] = bb at hst
      cases bb
      · simp only [Bool.false_eq_true, if_false, List.append_nil] at hst
        simp (disch := (clear hbl; omega)) [wrap_i64]
        exact ih (i + 1) _ (by clear hbl; omega) (by clear hbl; omega) (by simp [hst, slotV])
      · simp only [if_true] at hst
        simp (disch := (clear hbl; omega)) [wrap_i64, hbl, h]
        exact ih (i + 1) _ (by clear hbl; omega) (by clear hbl; omega) (by simp [hst, slotV])
    · have hik2 : i = k.length := by omega
      subst hik2
      have h4 := fok100 T (k.filter fun y => inW xt y) (by omega) (Nat.le_trans (List.length_filter_le _ _) (by omega))
      simp at h4
      simp [slotV]
      refine CallG.rows [] rfl rfl rfl rfl (by simp) (by simp) h4 (by simp) (by simp) ?_
      simp
      exact Ends.v rfl (by simp [unitV])

end Go.Proofs
