/- The walk. -/
import Derived.Test.YtlhpjeckaepdlaaTs6
import Derived.Test.YtlhpjeckaepdlaaProg
import Derived.KernelRfl
set_option linter.all false
set_option maxHeartbeats 2000000
namespace Go.Proofs
open Go Go.AM
attribute [local irreducible] Run Ends
/-- ablaut/transfer.Translate -/
def c15 : MC :=
  .seq (.reg false [.op .none 2 (.box false (.t 0)),
    .op .none 4 (.nilS 2),
    .op .none 5 (.mv (.c (.w (.int .i64 0))))]) <|
  .seq (.seq (.reg false [.op .none 19 (.ld true 2 (.t 2)),
    .op .none 20 (.mv (.t 1)),
    .call .none 21 (.f 57) [(.t 19), (.t 20)],
    .op .none 6 (.mv (.t 21))]) <|
  .seq (.reg false [.op .none 22 (.mv (.t 6)),
    .op .none 23 (.bin .neq (.t 22) (.c (.w (.int .i64 0))))]) <|
  .cond (.t 23)
    (.seq (.reg false [.op .none 24 (.mv (.t 6)),
      .op .none 4 (.nilS 2),
      .op .none 5 (.mv (.t 24))]) <|
    .ret)
    (.skip)) <|
  .seq (.reg false [.op .none 7 (.nilS 2)]) <|
  .seq (.seq (.reg false [.op .none 25 (.mv (.t 1)),
    .op .none 26 (.len false (.t 25)),
    .op .none 27 (.mv (.c (.w (.int .i64 0))))]) <|
  .block 0 <|
    .loop <|
      .seq (.reg false [.op .none 28 (.bin .lss (.t 27) (.t 26))]) <|
      .seq (.cond (.t 28)
        (.skip)
        (.exit 0)) <|
      .seq (.block 1 <|
        .seq (.reg false [.op .none 29 (.ia 2 (.t 25) (.t 27)),
          .op .none 30 (.ld true 2 (.t 29)),
          .op .none 9 (.alloc true [(.w (.string ⟨#[]⟩)), (.sl 1 [])]),
          .store .none true 2 (.t 9) (.t 30)]) <|
        .seq (.reg false [.op .none 32 (.ld true 2 (.t 2)),
          .op .none 33 (.ld true 2 (.t 9)),
          .call .none 34 (.f 58) [(.t 32), (.t 33)],
          .op .none 31 (.mv (.t 34)),
          .op .none 35 (.ext (.t 31) 0),
          .op .none 36 (.ext (.t 31) 1),
          .op .none 10 (.alloc true [(.w (.string ⟨#[]⟩)), (.sl 1 [])]),
          .store .none true 2 (.t 10) (.t 35),
          .op .none 11 (.mv (.t 36))]) <|
        .reg false [.op .none 37 (.mv (.t 7)),
          .op .none 38 (.ld true 2 (.t 10)),
          .op .none 39 (.buildS false 2 1 true [(.w (.string ⟨#[]⟩)), (.sl 1 [])] [(0, (.t 38))]),
          .op .none 40 (.app 2 40 (.t 37) (.t 39)),
          .op .none 7 (.mv (.t 40))]) <|
      .reg false [.op .none 41 (.bin .add (.t 27) (.c (.w (.int .i64 1)))),
        .op .none 27 (.mv (.t 41))]) <|
  .seq (.reg false [.op .none 12 (.mv (.f 59))]) <|
  .seq (.seq (.reg false [.op .none 42 (.mv (.t 7)),
    .op .none 43 (.mv (.t 12)),
    .call .none 44 (.f 51) [(.t 42), (.t 43)]]) <|
  .cond (.t 44)
    (.seq (.reg false [.op .none 4 (.nilS 2),
      .op .none 5 (.mv (.c (.w (.int .i64 3))))]) <|
    .ret)
    (.skip)) <|
  .seq (.reg false [.op .none 13 (.nilS 2)]) <|
  .seq (.reg false [.op .none 14 (.mv (.c (.w (.int .i64 0))))]) <|
  .seq (.seq (.reg false [.op .none 45 (.ld true 2 (.t 2)),
    .op .none 46 (.mv (.t 1)),
    .call .none 47 (.f 60) [(.t 45), (.t 46)],
    .op .none 48 (.len false (.t 47)),
    .op .none 49 (.mv (.c (.w (.int .i64 0))))]) <|
  .block 2 <|
    .loop <|
      .seq (.reg false [.op .none 50 (.bin .lss (.t 49) (.t 48))]) <|
      .seq (.cond (.t 50)
        (.skip)
        (.exit 2)) <|
      .seq (.block 3 <|
        .seq (.reg false [.op .none 51 (.ia 3 (.t 47) (.t 49)),
          .op .none 52 (.ld true 3 (.t 51)),
          .op .none 16 (.alloc true [(.w (.int .i64 0)), (.w (.int .i64 0)), (.w (.int .i64 0))]),
          .store .none true 3 (.t 16) (.t 52)]) <|
        .seq (.reg false [.op .none 53 (.mv (.t 13)),
          .op .none 54 (.mv (.t 7)),
          .op .none 55 (.mv (.t 14)),
          .op .none 56 (.iaA 3 1 (.t 16) (.c (.w (.int .i64 1)))),
          .op .none 57 (.ld false 1 (.t 56)),
          .op .none 58 (.slc false 2 (.t 54) (.some (.t 55)) (.some (.t 57))),
          .op .none 59 (.app 2 40 (.t 53) (.t 58)),
          .op .none 13 (.mv (.t 59))]) <|
        .seq (.seq (.reg false [.op .none 60 (.fa 1 (.t 2)),
          .op .none 61 (.ld false 1 (.t 60)),
          .op .none 62 (.iaA 3 1 (.t 16) (.c (.w (.int .i64 0)))),
          .op .none 63 (.ld false 1 (.t 62)),
          .op .none 64 (.ia 2 (.t 61) (.t 63)),
          .op .none 65 (.fa 1 (.t 64)),
          .op .none 66 (.ld false 1 (.t 65)),
          .op .none 67 (.len false (.t 66)),
          .op .none 68 (.mv (.c (.w (.int .i64 0))))]) <|
        .block 4 <|
          .loop <|
            .seq (.reg false [.op .none 69 (.bin .lss (.t 68) (.t 67))]) <|
            .seq (.cond (.t 69)
              (.skip)
              (.exit 4)) <|
            .seq (.block 5 <|
              .seq (.reg false [.op .none 70 (.ia 5 (.t 66) (.t 68)),
                .op .none 71 (.ld true 5 (.t 70)),
                .op .none 18 (.alloc true [(.w (.int .i64 0)), (.w (.string ⟨#[]⟩)), (.sl 1 []), (.w (.int .i64 0)), (.sl 1 [])]),
                .store .none true 5 (.t 18) (.t 71)]) <|
              .reg true [.op .none 72 (.mv (.t 13)),
                .op .none 73 (.ld true 5 (.t 18)),
                .op .none 74 (.mv (.t 1)),
                .op .none 75 (.iaA 3 1 (.t 16) (.c (.w (.int .i64 1)))),
                .op .none 76 (.ld false 1 (.t 75)),
                .op .none 77 (.iaA 3 1 (.t 16) (.c (.w (.int .i64 2)))),
                .op .none 78 (.ld false 1 (.t 77)),
                .op .none 79 (.slc false 2 (.t 74) (.some (.t 76)) (.some (.t 78))),
                .op .none 80 (.mv (.t 7)),
                .op .none 81 (.iaA 3 1 (.t 16) (.c (.w (.int .i64 1)))),
                .op .none 82 (.ld false 1 (.t 81)),
                .op .none 83 (.iaA 3 1 (.t 16) (.c (.w (.int .i64 2)))),
                .op .none 84 (.ld false 1 (.t 83)),
                .op .none 85 (.slc false 2 (.t 80) (.some (.t 82)) (.some (.t 84))),
                .call .none 86 (.f 61) [(.t 73), (.t 79), (.t 85)],
                .op .none 87 (.buildS true 2 1 true [(.w (.string ⟨#[]⟩)), (.sl 1 [])] [(0, (.t 86))]),
                .op .none 88 (.app 2 40 (.t 72) (.t 87)),
                .op .none 13 (.mv (.t 88))]) <|
            .reg false [.op .none 89 (.bin .add (.t 68) (.c (.w (.int .i64 1)))),
              .op .none 68 (.mv (.t 89))]) <|
        .reg false [.op .none 90 (.iaA 3 1 (.t 16) (.c (.w (.int .i64 2)))),
          .op .none 91 (.ld false 1 (.t 90)),
          .op .none 14 (.mv (.t 91))]) <|
      .reg false [.op .none 92 (.bin .add (.t 49) (.c (.w (.int .i64 1)))),
        .op .none 49 (.mv (.t 92))]) <|
  .seq (.reg false [.op .none 93 (.mv (.t 13)),
    .op .none 94 (.mv (.t 7)),
    .op .none 95 (.mv (.t 14)),
    .op .none 96 (.slc false 2 (.t 94) (.some (.t 95)) .none),
    .op .none 97 (.app 2 40 (.t 93) (.t 96)),
    .op .none 13 (.mv (.t 97))]) <|
  .seq (.seq (.reg false [.op .none 98 (.mv (.t 13)),
    .op .none 99 (.len false (.t 98)),
    .op .none 100 (.bin .gtr (.t 99) (.c (.w (.int .i64 200)))),
    .op .none 101 (.mv (.t 100)),
    .op (.some (101, false)) 102 (.mv (.t 13)),
    .op (.some (101, false)) 103 (.mv (.t 12)),
    .call (.some (101, false)) 104 (.f 51) [(.t 102), (.t 103)],
    .op .none 105 (.pick (.t 101) (.c (.w (.bool true))) (.t 104))]) <|
  .cond (.t 105)
    (.seq (.reg false [.op .none 4 (.nilS 2),
      .op .none 5 (.mv (.c (.w (.int .i64 3))))]) <|
    .ret)
    (.skip)) <|
  .seq (.reg false [.op .none 106 (.mv (.t 13)),
    .op .none 4 (.mv (.t 106)),
    .op .none 5 (.mv (.c (.w (.int .i64 0))))]) <|
  .ret
theorem k15 : FnCode Try.prog 15 [87] 107 [4, 5] c15 := ⟨Try.f15, Try.func15, fun xs W => Try.call15 xs W, by kernel_rfl, by kernel_rfl, by kernel_rfl⟩

theorem fok15 (b : BrT) (l : List UnitT) (hb : brS b) (hl : l.length ≤ 200000000000000) (hu : ∀ u ∈ l, unitS u) : FOk Try.prog 15 [.v (brV b), .v (.sl 2 (l.map unitV))] [] (.tup [.v (.sl 2 ((transF b l).1.map unitV)), .I (transF b l).2]) [] := by
  have h1 := fok57 b l hb hl hu
  refine FOk.val k15 (by simp) (by simp) (by decide) ?_
  by_cases c0 : bothF b l = 0
  case neg =>
    simp only [transF, c0]
    generalize bothF b l = v at h1 c0 ⊢
    obtain ⟨R, S, u⟩ := b
    simp [c15, brV]
    simp only [brV] at h1
    refine CallG.lent rfl rfl rfl rfl h1 rfl ?_
    simp [c0]
    exact Ends.v rfl (by simp [c0])
  have hO := both0 c0
  rw [c0] at h1
  have hch := fok60 b l hb hO.pat (by have := hO.nl; omega) hu
  have hokc := chF_ok b.2.1 l hO.pat l.length 0 (Nat.zero_le _)
  have hw := fun u (h : u ∈ l) => fok58 b u hb hO.put (hu u h) (by have := hO.tags u h; omega)
  have hwo := fun u (h : u ∈ l) => wordF_ok hb hO.put (hu u h) (hO.tags u h)
  have hnl := hO.nl
  have hOo := hO.out
  obtain ⟨R, S, u⟩ := b
  have hWm : ∀ x ∈ wordsF R l, unitS x := by
    intro x hx
    simp only [wordsF, List.mem_map] at hx
    obtain ⟨y, hy, rfl⟩ := hx
    exact (hwo y hy).1
  have hm1 := fok51 (wordsF R l) _ _ _ (fixF0 59) many (fun u _ => fok59 u) (by simp [wordsF]; omega)
  have hWl : (wordsF R l).length = l.length := by simp [wordsF]
  simp only [transF]
  rw [if_neg (by simpa using c0)]
  simp only at hokc hOo
  change okCh S l.length 0 (chunksF S l) at hokc
  simp only [brV] at h1 hch hw
  simp [c15, brV]
  refine CallG.lent rfl rfl rfl rfl h1 rfl ?_
  simp
  generalize hres : (if (wordsF R l).any many = true then (([], 3) : List UnitT × Int) else if 200 < (outF S l (wordsF R l) 0 (chunksF S l)).length then ([], 3) else if (outF S l (wordsF R l) 0 (chunksF S l)).any many = true then ([], 3) else (outF S l (wordsF R l) 0 (chunksF S l), 0)) = res
  refine Run.loopA (ι := Nat) [(1, 2), (2, 7)] (fun i => i ≤ l.length) (fun i => ⟨[(1, .v (.sl 2 (l.map unitV))), (2, .ptr 1 0 0), (7, .h 2), (25, .v (.sl 2 (l.map unitV))), (26, .I l.length), (27, .I i)], [(2, ⟨false, 2, ((wordsF R l).take i).map unitV⟩), (1, ⟨false, 2, [brV (R, S, u)]⟩)], 1024⟩) (fun i => l.length - i) 0 (by decide) (by simp [brV]) (by simp) ?_
  rintro i hi ih
  by_cases h : i < l.length
  · have hi2 : i < (wordsF R l).length := by omega
    have hst : (wordsF R l).take (i + 1) = (wordsF R l).take i ++ [(wordF R l[i]).1] := by
      rw [List.take_succ_eq_append_getElem hi2]; simp [wordsF]
    have hc := hw l[i] (List.getElem_mem h)
    have hbl : (i + 1 + 1000) * 40 ≤ 70368744177664 := by omega
    have hmn : min i (wordsF R l).length = i := by omega
    generalize wordF R l[i] = y at hst hc
    generalize hx : l[i] = x at hc
    obtain ⟨xb, xt, xu⟩ := x
    obtain ⟨⟨yb, yt, yu⟩, y2⟩ := y
    simp [unitV] at hc
    simp (disch := (clear hbl; omega)) [h, wrap_i64, hx, unitV, brV]
    refine CallG.plain rfl rfl rfl rfl hc (by simp) (by simp) ?_
    simp (disch := (clear hbl; omega)) [wrap_i64, hbl, hmn]
    exact ih (i + 1) _ (by clear hbl; omega) (by clear hbl; omega) (by simp [hst, brV, unitV])
  have hi2 : i = l.length := by omega
  subst hi2
  have htW : (wordsF R l).take l.length = wordsF R l := List.take_of_length_le (by omega)
  rw [htW]
  clear ih h hi
  generalize hW : wordsF R l = W at *
  simp
  refine CallG.lent rfl rfl rfl rfl hm1 rfl ?_
  cases hmany : W.any many
  case true =>
    rw [hmany] at hres
    simp only [if_true] at hres
    subst hres
    simp
    exact Ends.v rfl (by simp)
  rw [hmany] at hres
  simp only [Bool.false_eq_true, if_false] at hres
  have hWt : ∀ x ∈ W, unitS x ∧ x.2.1.length ≤ 1000 := by
    intro x hx
    have := any_false hmany x hx
    simp only [many, decide_eq_false_iff_not] at this
    exact ⟨hWm x hx, by omega⟩
  simp [brV]
  refine CallG.plain rfl rfl rfl rfl hch (by simp) (by simp) ?_
  simp
  generalize hcs : chunksF S l = cs at *
  clear hm1 hmany
  have hcap : ∀ (c : ChT) (hc : c.1 < S.length), S[c.1].1.length = c.2.2 - c.2.1 → c.2.1 < c.2.2 → c.2.2 ≤ l.length → ∀ s ∈ S[c.1].2.1, FOk Try.prog 61 [.v (slotV s), .v (.sl 2 (((l.take c.2.2).drop c.2.1).map unitV)), .v (.sl 2 (((W.take c.2.2).drop c.2.1).map unitV))] [] (.v (unitV (writeF s ((l.take c.2.2).drop c.2.1) ((W.take c.2.2).drop c.2.1)))) [] := by
    intro c hc e1 e2 e3 s hs
    have hr := List.getElem_mem hc
    have q1 := (hb.2.2.2 _ hr).2.2.2 s hs
    obtain ⟨q2, q3, q4⟩ := (hOo _ hr).2 s hs
    have e4 : ((l.take c.2.2).drop c.2.1).length = c.2.2 - c.2.1 := by simp; omega
    refine fok61 s _ _ ⟨q1, q2, q3⟩ (by rw [e4, ← e1]; exact q4) (by simp; omega) (fun u h => hu u (List.mem_of_mem_take (List.mem_of_mem_drop h))) (fun u h => hWt u (List.mem_of_mem_take (List.mem_of_mem_drop h))) (by omega)
  refine Run.loopA (ι := Nat × Nat × List UnitT) [(1, 2), (2, 13)] (fun q => q.1 ≤ cs.length ∧ q.1 ≤ q.2.1 ∧ q.2.1 ≤ l.length ∧ okCh S l.length q.2.1 (cs.drop q.1) ∧ q.2.2.length ≤ 25 * q.2.1 ∧ q.2.2 ++ outF S l W q.2.1 (cs.drop q.1) = outF S l W 0 cs) (fun q => ⟨[(1, .v (.sl 2 (l.map unitV))), (2, .ptr 1 0 0), (7, .v (.sl 2 (W.map unitV))), (12, .fn 59 []), (13, .h 2), (14, .I q.2.1), (47, .v (.sl 3 (cs.map chV))), (48, .I cs.length), (49, .I q.1)], [(2, ⟨false, 2, q.2.2.map unitV⟩), (1, ⟨false, 2, [brV (R, S, u)]⟩)], 1024⟩) (fun q => cs.length - q.1) (0, 0, []) (by decide) (by simp [brV]) ⟨by simp, by simp, by simp, by simpa using hokc, by simp, by simp⟩ ?_
  rintro ⟨j, a, acc⟩ ⟨hj, hja, ha, hoc, hacc, hall⟩ ih
  simp only at hj hja ha hoc hacc hall ih
  by_cases h : j < cs.length
  · rw [drop_at h] at hoc hall
    simp only [okCh] at hoc
    simp only [outF] at hall
    have hca := hcap cs[j]
    generalize hx : cs[j] = c at hca hoc hall
    obtain ⟨k, c1, c2⟩ := c
    simp only at hca hoc hall
    obtain ⟨o1, o2, o3, ⟨hk, o4⟩, o5⟩ := hoc
    have hca := hca hk o4 o2 o3
    have hOk := hOo _ (List.getElem_mem hk)
    simp only [slotsF, List.getElem?_eq_getElem hk] at hall
    generalize hy : S[k] = r at hca hall hOk
    obtain ⟨p, o, u2⟩ := r
    simp only at hca hall hOk
    have n1 : (a : Int) ≤ c1 := by omega
    have n2 : c1 ≤ W.length := by omega
    have n3 : ¬ (c1 : Int) < a := by omega
    have hbl : (acc.length + (c1 - a) + 1000) * 40 ≤ 70368744177664 := by omega
    have hmn : min c1 W.length = c1 := by omega
    simp (disch := (clear hbl; omega)) [h, wrap_i64, hx, chV, n1, n2, hk, hy, brV, shufV, wordsV, hbl, hmn]
    clear hbl hmn
    have hl1 : (acc ++ (W.take c1).drop a).length = acc.length + (c1 - a) := by simp; omega
    rw [← List.append_assoc, ← List.append_assoc] at hall
    generalize hacc1 : acc ++ (W.take c1).drop a = acc1 at hl1 hall
    generalize hwf : (fun s => writeF s ((l.take c2).drop c1) ((W.take c2).drop c1)) = wf at hall
    have hca : ∀ s ∈ o, FOk Try.prog 61 [.v (slotV s), .v (.sl 2 (((l.take c2).drop c1).map unitV)), .v (.sl 2 (((W.take c2).drop c1).map unitV))] [] (.v (unitV (wf s))) [] := by
      intro s hs
      rw [← hwf]
      exact hca s hs
    refine Run.loopA (ι := Nat) [(1, 2), (2, 13), (3, 16)] (fun m => m ≤ o.length) (fun m => ⟨[(1, .v (.sl 2 (l.map unitV))), (2, .ptr 1 0 0), (7, .v (.sl 2 (W.map unitV))), (12, .fn 59 []), (13, .h 2), (16, .ptr 3 0 0), (47, .v (.sl 3 (cs.map chV))), (48, .I cs.length), (49, .I j), (66, .v (.sl 5 (o.map slotV))), (67, .I o.length), (68, .I m)], [(3, ⟨false, 3, [chV (k, c1, c2)]⟩), (2, ⟨false, 2, (acc1 ++ (o.take m).map wf).map unitV⟩), (1, ⟨false, 2, [brV (R, S, u)]⟩)], 1024⟩) (fun m => o.length - m) 0 (by decide) (by simp [brV, chV, ← hacc1]) (by simp) ?_
    rintro m hm ih2
    by_cases g : m < o.length
    · have hst : (o.take (m + 1)).map wf = (o.take m).map wf ++ [wf o[m]] := by
        rw [List.take_succ_eq_append_getElem g, List.map_append]; rfl
      have hc := hca o[m] (List.getElem_mem g)
      generalize wf o[m] = y at hst hc
      generalize hz : o[m] = z at hc
      obtain ⟨zo, zb, zt, zf, zk, zu⟩ := z
      obtain ⟨yb, yt, yu⟩ := y
      simp [slotV, unitV] at hc
      have p1 : (c1 : Int) ≤ c2 := by omega
      have p2 : c1 ≤ c2 := by omega
      have p3 : c2 ≤ W.length := by omega
      have hbl : (acc1.length + m + 1 + 1000) * 40 ≤ 70368744177664 := by omega
      have hmn : min m o.length = m := by omega
      simp (disch := (clear hbl; omega)) [g, wrap_i64, hz, slotV, chV, p1, p2, p3, o3]
      refine CallG.plain rfl rfl rfl rfl hc (by simp) (by simp) ?_
      simp (disch := (clear hbl; omega)) [wrap_i64, hbl, hmn]
      exact ih2 (m + 1) _ (by clear hbl; omega) (by clear hbl; omega) (by simp [brV, chV, hst, unitV])
    · have hmo : m = o.length := by omega
      subst hmo
      have hto : List.take o.length o = o := List.take_length
      simp (disch := omega) [wrap_i64, chV, hto]
      exact ih (j + 1, c2, acc1 ++ o.map wf) _ ⟨by simp; omega, by simp; omega, by simp; omega, o5, by simp; omega, by simpa using hall⟩ (by simp; omega) (by simp [brV, hto])
  · rw [drop_no h] at hall hoc
    simp only [outF] at hall
    have hbl : (acc.length + (W.length - a) + 1000) * 40 ≤ 70368744177664 := by omega
    have q1 : a ≤ W.length := by omega
    have htW2 : List.take W.length (W.map unitV) = W.map unitV := List.take_of_length_le (by simp)
    generalize outF S l W 0 cs = out at hall hres
    have hol : out.length = acc.length + (W.length - a) := by rw [← hall]; simp
    have hm2 := fok51 out _ _ _ (fixF0 59) many (fun u _ => fok59 u) (by omega)
    have hmap : out.map unitV = acc.map unitV ++ (W.map unitV).drop a := by rw [← hall]; simp
    rw [hmap] at hm2
    have e1 : (out.length : Int) = acc.length + ((W.length - a : Nat) : Int) := by rw [hol]; simp
    by_cases c2 : 200 < out.length
    · rw [if_pos c2] at hres
      subst hres
      have e2 : (200 : Int) < acc.length + ((W.length - a : Nat) : Int) := by clear hbl; omega
      simp (disch := (clear hbl; omega)) [h, wrap_i64, q1, htW2, hbl, e2]
      exact Ends.v rfl (by simp)
    · rw [if_neg c2] at hres
      have e2 : ¬ (200 : Int) < acc.length + ((W.length - a : Nat) : Int) := by clear hbl; omega
      generalize hb3 : out.any many = b3 at hm2 hres
      simp (disch := (clear hbl; omega)) [h, wrap_i64, q1, htW2, hbl, e2]
      refine CallG.lent rfl rfl rfl rfl hm2 rfl ?_
      cases b3
      · simp only [Bool.false_eq_true, if_false] at hres
        subst hres
        simp
        exact Ends.v rfl (by simp [hmap])
      · simp only [if_true] at hres
        subst hres
        simp
        exact Ends.v rfl (by simp)

end Go.Proofs
