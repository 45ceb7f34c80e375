/- The walk. -/
import Derived.Test.YtlhpjeckaepdlaaTs4
import Derived.Test.YtlhpjeckaepdlaaProg
import Derived.KernelRfl
set_option linter.all false
set_option maxHeartbeats 2000000
namespace Go.Proofs
open Go Go.AM
attribute [local irreducible] Run Ends
/-- ablaut/transfer.write -/
def c61 : MC :=
  .seq (.reg false [.op .none 3 (.box false (.t 0)),
    .op .none 6 (.alloc true [(.w (.string ⟨#[]⟩)), (.sl 1 [])])]) <|
  .seq (.reg false [.op .none 7 (.alcN [(.w (.string ⟨#[]⟩)), (.sl 1 [])])]) <|
  .seq (.reg false [.op .none 17 (.ld true 5 (.t 3)),
    .call .none 18 (.f 88) [(.t 17)],
    .op .none 16 (.mv (.t 18)),
    .op .none 19 (.ext (.t 16) 0),
    .op .none 20 (.ext (.t 16) 1),
    .op .none 8 (.mv (.t 19)),
    .op .none 9 (.mv (.t 20))]) <|
  .seq (.seq (.reg false [.op .none 21 (.mv (.t 8))]) <|
  .block 0 <|
    .seq (.reg false [.op .none 22 (.asrt 118 true (.t 21)),
      .op .none 23 (.ext (.t 22) 1),
      .op .none 24 (.ext (.t 22) 0)]) <|
    .cond (.t 23)
      (.seq (.reg false [.op .none 10 (.mv (.t 24))]) <|
      .reg false [.op .none 25 (.mv (.t 2)),
        .op .none 26 (.mv (.t 10)),
        .op .none 27 (.ia 2 (.t 25) (.t 26)),
        .op .none 28 (.ld true 2 (.t 27)),
        .store .none true 2 (.t 7) (.t 28)])
      (.seq (.reg false [.op .none 29 (.asrt 120 true (.t 21)),
        .op .none 30 (.ext (.t 29) 1),
        .op .none 31 (.ext (.t 29) 0)]) <|
      .cond (.t 30)
        (.seq (.reg false [.op .none 11 (.alloc true [(.w (.string ⟨#[]⟩)), (.sl 1 [])]),
          .store .none true 2 (.t 11) (.t 31)]) <|
        .reg false [.op .none 32 (.fa 0 (.t 11)),
          .op .none 33 (.ld false 1 (.t 32)),
          .op .none 34 (.fa 1 (.t 11)),
          .op .none 35 (.ld false 1 (.t 34)),
          .op .none 36 (.build false [(.w (.string ⟨#[]⟩)), (.sl 1 [])] [(0, 1, (.t 33)), (1, 1, (.t 35))]),
          .store .none true 2 (.t 7) (.t 36)])
        (.skip))) <|
  .seq (.reg false [.op .none 37 (.fa 1 (.t 7)),
    .op .none 38 (.ld false 1 (.t 37)),
    .call .none 39 (.f 74) [(.t 38)],
    .op .none 40 (.fa 1 (.t 7)),
    .store .none false 0 (.t 40) (.t 39)]) <|
  .seq (.seq (.reg false [.op .none 41 (.fa 3 (.t 3)),
    .op .none 42 (.ld false 1 (.t 41)),
    .op .none 43 (.bin .eql (.t 42) (.c (.w (.int .i64 (-1)))))]) <|
  .cond (.t 43)
    (.seq (.reg false [.op .none 44 (.ld true 2 (.t 7)),
      .store .none true 2 (.t 6) (.t 44)]) <|
    .ret)
    (.skip)) <|
  .seq (.reg false [.op .none 45 (.mv (.t 1)),
    .op .none 46 (.fa 3 (.t 3)),
    .op .none 47 (.ld false 1 (.t 46)),
    .op .none 48 (.ia 2 (.t 45) (.t 47)),
    .op .none 49 (.fa 1 (.t 48)),
    .op .none 50 (.ld false 1 (.t 49)),
    .op .none 12 (.alloc false [(.sl 1 [])]),
    .store .none false 1 (.t 12) (.t 50)]) <|
  .seq (.reg false [.op .none 51 (.fa 1 (.t 7)),
    .op .none 52 (.ld false 1 (.t 51)),
    .op .none 53 (.mkf 98 [(.t 3), (.t 12)]),
    .call .none 54 (.f 97) [(.t 52), (.t 53)],
    .op .none 55 (.fa 1 (.t 7)),
    .store .none false 1 (.t 55) (.t 54)]) <|
  .seq (.reg false [.op .none 13 (.nilS 1)]) <|
  .seq (.seq (.reg false [.op .none 56 (.fa 4 (.t 3)),
    .op .none 57 (.ld false 1 (.t 56)),
    .op .none 58 (.len false (.t 57)),
    .op .none 59 (.mv (.c (.w (.int .i64 0))))]) <|
  .block 1 <|
    .loop <|
      .seq (.reg false [.op .none 60 (.bin .lss (.t 59) (.t 58))]) <|
      .seq (.cond (.t 60)
        (.skip)
        (.exit 1)) <|
      .seq (.block 2 <|
        .seq (.reg false [.op .none 61 (.ia 1 (.t 57) (.t 59)),
          .op .none 62 (.ld false 1 (.t 61)),
          .op .none 15 (.mv (.t 62))]) <|
        .seq (.reg false [.op .none 63 (.ld false 1 (.t 12)),
          .op .none 64 (.mv (.t 15)),
          .call .none 65 (.f 69) [(.t 63), (.t 64)]]) <|
        .cond (.t 65)
          (.reg false [.op .none 66 (.mv (.t 13)),
            .op .none 67 (.mv (.t 15)),
            .op .none 68 (.buildS false 1 1 false [(.w (.string ⟨#[]⟩))] [(0, (.t 67))]),
            .op .none 69 (.app 1 16 (.t 66) (.t 68)),
            .op .none 13 (.mv (.t 69))])
          (.skip)) <|
      .reg false [.op .none 70 (.bin .add (.t 59) (.c (.w (.int .i64 1)))),
        .op .none 59 (.mv (.t 70))]) <|
  .seq (.reg false [.op .none 71 (.fa 1 (.t 7)),
    .op .none 72 (.ld false 1 (.t 71)),
    .op .none 73 (.mv (.t 13)),
    .call .none 74 (.f 95) [(.t 72), (.t 73)],
    .op .none 75 (.fa 1 (.t 7)),
    .store .none false 1 (.t 75) (.t 74)]) <|
  .seq (.reg false [.op .none 76 (.ld true 2 (.t 7)),
    .store .none true 2 (.t 6) (.t 76)]) <|
  .ret
theorem k61 : FnCode Try.prog 61 [400007, 100040] 77 [5000054000006] c61 := ⟨Try.f61, Try.func61, fun xs W => Try.call61 xs W, by kernel_rfl, by kernel_rfl, by kernel_rfl⟩

def unAt (l : List UnitT) (i : Int) : UnitT := match l[i.toNat]? with | some u => u | none => ([], [], ())
def base0 (s : SlotT) (trn : List UnitT) : Bs × List Bs := if s.1 = -1 then (s.2.1, s.2.2.1) else ((unAt trn s.1).1, (unAt trn s.1).2.1)
def writeF (s : SlotT) (inn trn : List UnitT) : UnitT :=
  if s.2.2.2.1 = -1 then ((base0 s trn).1, (base0 s trn).2, ()) else
    ((base0 s trn).1, wthF ((base0 s trn).2.filter fun t => !inBut s.2.2.2.2.1 (unAt inn s.2.2.2.1).2.1 t) (s.2.2.2.2.1.filter fun t => inW (unAt inn s.2.2.2.1).2.1 t), ())
def slotB (s : SlotT) : Prop := slotS s ∧ s.2.2.1.length ≤ 1000 ∧ s.2.2.2.2.1.length ≤ 1000
theorem fok61 (s : SlotT) (inn trn : List UnitT) (hs : slotB s) (hok : slotOk s inn.length = true) (hlen : trn.length = inn.length) (hi : ∀ u ∈ inn, unitS u) (ht : ∀ u ∈ trn, unitS u ∧ u.2.1.length ≤ 1000) (hl : inn.length ≤ 1000000) :
    FOk Try.prog 61 [.v (slotV s), .v (.sl 2 (inn.map unitV)), .v (.sl 2 (trn.map unitV))] [] (.v (unitV (writeF s inn trn))) [] := by
  have h1 := fok88 s
  obtain ⟨o, b, t, f, k, u⟩ := s
  obtain ⟨⟨s1, s2, s3⟩, s4, s5⟩ := hs
  simp only at s1 s2 s3 s4 s5
  simp only [slotOk, Bool.and_eq_true, Bool.or_eq_true, decide_eq_true_eq] at hok
  obtain ⟨hw, hf1, hf2, hk, hf3⟩ := hok
  have hr : f = -1 ∨ ∃ g : Nat, f = g ∧ g < inn.length := by
    by_cases c2 : f = -1
    · exact .inl c2
    · obtain ⟨g, rfl⟩ := Int.eq_ofNat_of_zero_le (show 0 ≤ f by omega)
      exact .inr ⟨g, rfl, by omega⟩
  refine FOk.val k61 (by simp) (by simp) (by decide) ?_
  by_cases c1 : o = -1
  · subst c1
    have h2 := fokO74 t (by omega)
    simp [c61, slotV]
    simp [ofP, unitV] at h1
    simp [slotV] at h1
    refine CallG.plain rfl rfl rfl rfl h1 (by simp) (by simp) ?_
    simp at h2
    simp
    refine CallG.plain rfl rfl rfl rfl h2 (by simp) (by simp) ?_
    rcases hr with rfl | ⟨g, rfl, hg⟩
    · simp 
      exact Ends.v rfl (by simp [writeF, base0, unitV, List.map])
    have hgn : ¬ (g : Int) = -1 := by omega
    have hui := hi _ (List.getElem_mem hg)
    generalize hx : inn[g] = x at hui
    obtain ⟨xb, xt, xu⟩ := x
    have hx1 := hui.1.1
    simp only at hx1
    have h3 := fok97 t _ _ _ (fixFn 98 (slotV (-1, b, t, (g : Int), k, u)).cells [.rp [.word xt]] (by simp) (by simp) (by simp) (by simp)) (inBut k xt) (fun y _ => fok98 (-1, b, t, (g : Int), k, u) xt y ⟨s1, s2, s3⟩ hx1) (by omega)
    have hfl : (t.filter fun y => !inBut k xt y).length ≤ 1000 := Nat.le_trans (List.length_filter_le _ _) (by omega)
    have hres : writeF (-1, b, t, (g : Int), k, u) inn trn = (b, wthF (t.filter fun y => !inBut k xt y) (k.filter fun y => inW xt y), ()) := by
      simp [writeF, base0, unAt, hg, hx, hgn, List.map]
    rw [hres]
    generalize (t.filter fun y => !inBut k xt y) = T at hfl h3 ⊢
    simp [slotV, txtV] at h3
    simp [hg, hgn, hx, unitV, slotV]
    refine CallG.rows [66599] rfl rfl rfl rfl (by simp) (by simp) h3 (by simp) (by simp) ?_
    simp
    refine Run.loopA (ι := Nat) [(1, 6), (2, 7), (3, 12), (4, 13)] (fun i => i ≤ k.length) (fun i => ⟨[(6, .ptr 1 0 0), (7, .ptr 2 0 0), (12, .ptr 3 0 0), (13, .h 4), (57, .v (.word k)), (58, .I k.length), (59, .I i)], [(4, ⟨false, 1, ((k.take i).filter fun y => inW xt y).map fun s => .w (.string (bs s))⟩), (3, ⟨true, 1, [.word xt]⟩), (2, ⟨false, 0, [.st [], .s (bs b), .word T]⟩), (1, ⟨false, 2, [.st [.s (bs []), .sl 1 []]]⟩)], 1024⟩) (fun i => k.length - i) 0 (by decide) (by simp [txtV]) (by simp) ?_
    rintro i hik ih
    by_cases h : i < k.length
    · have hc := fok69 xt k[i] hx1
      have hst : (k.take (i + 1)).filter (fun y => inW xt y) = (k.take i).filter (fun y => inW xt y) ++ (if inW xt k[i] = true then [k[i]] else []) := by
        rw [List.take_succ_eq_append_getElem h, List.filter_append]
        cases hp : inW xt k[i] <;> simp [hp]
      have hbl : (((k.take i).filter fun y => inW xt y).length + 1 + 1000) * 16 ≤ 70368744177664 := by
        have := List.length_filter_le (fun y => inW xt y) (k.take i)
        simp at this
        omega
      simp at hc
      simp (disch := omega) [h, wrap_i64]
      refine CallG.lent rfl rfl rfl rfl hc rfl ?_
      generalize inW xt k[i] = bb at hst
      cases bb
      · simp only [Bool.false_eq_true, if_false, List.append_nil] at hst
        simp (disch := omega) [wrap_i64]
        exact ih (i + 1) _ (by omega) (by omega) (by simp [hst])
      · simp only [if_true] at hst
        simp (disch := omega) [wrap_i64, hbl]
        exact ih (i + 1) _ (by omega) (by omega) (by simp [hst])
    · have hik2 : i = k.length := by omega
      subst hik2
      have h4 := fok95 T (k.filter fun y => inW xt y) (by omega) (Nat.le_trans (List.length_filter_le _ _) (by omega))
      simp at h4
      simp
      refine CallG.rows [] rfl rfl rfl rfl (by simp) (by simp) h4 (by simp) (by simp) ?_
      simp
      exact Ends.v rfl (by simp [unitV])
  · rw [if_neg c1] at hw
    simp only [Bool.and_eq_true, decide_eq_true_eq] at hw
    obtain ⟨w1, rfl, rfl, w2⟩ := hw
    obtain ⟨a, rfl⟩ := Int.eq_ofNat_of_zero_le (show 0 ≤ o by omega)
    have ha : a < trn.length := by omega
    have hta := ht _ (List.getElem_mem ha)
    generalize hz : trn[a] = z at hta
    obtain ⟨zb, zt, zu⟩ := z
    obtain ⟨⟨z1, z2⟩, z3⟩ := hta
    simp only at z1 z2 z3
    have h2 := fokO74 zt (by omega)
    have hal : ¬ (a : Int) < -1 := by omega
    simp [c61, slotV]
    simp [ofP, unitV, c1, hal] at h1
    simp [slotV] at h1
    refine CallG.plain rfl rfl rfl rfl h1 (by simp) (by simp) ?_
    simp at h2
    simp [ha, hz, unitV]
    refine CallG.plain rfl rfl rfl rfl h2 (by simp) (by simp) ?_
    rcases hr with rfl | ⟨g, rfl, hg⟩
    · simp 
      exact Ends.v rfl (by simp [writeF, base0, unitV, List.map, c1, unAt, ha, hz])
    have hgn : ¬ (g : Int) = -1 := by omega
    have hui := hi _ (List.getElem_mem hg)
    generalize hx : inn[g] = x at hui
    obtain ⟨xb, xt, xu⟩ := x
    have hx1 := hui.1.1
    simp only at hx1
    have h3 := fok97 zt _ _ _ (fixFn 98 (slotV ((a : Int), [], [], (g : Int), k, u)).cells [.rp [.word xt]] (by simp) (by simp) (by simp) (by simp)) (inBut k xt) (fun y _ => fok98 ((a : Int), [], [], (g : Int), k, u) xt y ⟨s1, s2, s3⟩ hx1) (by omega)
    have hfl : (zt.filter fun y => !inBut k xt y).length ≤ 1000 := Nat.le_trans (List.length_filter_le _ _) (by omega)
    have hres : writeF ((a : Int), [], [], (g : Int), k, u) inn trn = (zb, wthF (zt.filter fun y => !inBut k xt y) (k.filter fun y => inW xt y), ()) := by
      simp [writeF, base0, unAt, hg, hx, hgn, List.map, c1, unAt, ha, hz]
    rw [hres]
    generalize (zt.filter fun y => !inBut k xt y) = T at hfl h3 ⊢
    simp [slotV, txtV] at h3
    simp [hg, hgn, hx, unitV, slotV]
    refine CallG.rows [58407] rfl rfl rfl rfl (by simp) (by simp) h3 (by simp) (by simp) ?_
    simp
    refine Run.loopA (ι := Nat) [(1, 6), (2, 7), (3, 12), (4, 13)] (fun i => i ≤ k.length) (fun i => ⟨[(6, .ptr 1 0 0), (7, .ptr 2 0 0), (12, .ptr 3 0 0), (13, .h 4), (57, .v (.word k)), (58, .I k.length), (59, .I i)], [(4, ⟨false, 1, ((k.take i).filter fun y => inW xt y).map fun s => .w (.string (bs s))⟩), (3, ⟨true, 1, [.word xt]⟩), (2, ⟨false, 0, [.st [], .s (bs zb), .word T]⟩), (1, ⟨false, 2, [.st [.s (bs []), .sl 1 []]]⟩)], 1024⟩) (fun i => k.length - i) 0 (by decide) (by simp [txtV]) (by simp) ?_
    rintro i hik ih
    by_cases h : i < k.length
    · have hc := fok69 xt k[i] hx1
      have hst : (k.take (i + 1)).filter (fun y => inW xt y) = (k.take i).filter (fun y => inW xt y) ++ (if inW xt k[i] = true then [k[i]] else []) := by
        rw [List.take_succ_eq_append_getElem h, List.filter_append]
        cases hp : inW xt k[i] <;> simp [hp]
      have hbl : (((k.take i).filter fun y => inW xt y).length + 1 + 1000) * 16 ≤ 70368744177664 := by
        have := List.length_filter_le (fun y => inW xt y) (k.take i)
        simp at this
        omega
      simp at hc
      simp (disch := omega) [h, wrap_i64]
      refine CallG.lent rfl rfl rfl rfl hc rfl ?_
      generalize inW xt k[i] = bb at hst
      cases bb
      · simp only [Bool.false_eq_true, if_false, List.append_nil] at hst
        simp (disch := omega) [wrap_i64]
        exact ih (i + 1) _ (by omega) (by omega) (by simp [hst])
      · simp only [if_true] at hst
        simp (disch := omega) [wrap_i64, hbl]
        exact ih (i + 1) _ (by omega) (by omega) (by simp [hst])
    · have hik2 : i = k.length := by omega
      subst hik2
      have h4 := fok95 T (k.filter fun y => inW xt y) (by omega) (Nat.le_trans (List.length_filter_le _ _) (by omega))
      simp at h4
      simp
      refine CallG.rows [] rfl rfl rfl rfl (by simp) (by simp) h4 (by simp) (by simp) ?_
      simp
      exact Ends.v rfl (by simp [unitV])

end Go.Proofs
