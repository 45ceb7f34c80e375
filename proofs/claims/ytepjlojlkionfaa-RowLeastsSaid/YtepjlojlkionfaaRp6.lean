/- The walk. -/
import Derived.Test.YtepjlojlkionfaaRp5
import Derived.Test.YtepjlojlkionfaaProg
import Derived.KernelRfl
set_option linter.all false
set_option maxHeartbeats 2000000
namespace Go.Proofs
open Go Go.AM
attribute [local irreducible] Run Ends
/-- ablaut/ablautlaw19.over -/
def c12 : MC :=
  .seq (.reg false [.op .none 1 (.box false (.t 0)),
    .op .none 2 (.mv (.c (.w (.bool false))))]) <|
  .seq (.reg true [.op .none 6 (.fa 0 (.t 1)),
    .op .none 7 (.ld false 1 (.t 6)),
    .call .none 8 (.f 13) [(.t 7)],
    .op .none 9 (.fa 1 (.t 1)),
    .op .none 10 (.ld false 1 (.t 9)),
    .op .none 11 (.len false (.t 10)),
    .op .none 12 (.bin .add (.t 8) (.t 11)),
    .op .none 13 (.fa 2 (.t 1)),
    .op .none 14 (.ld false 1 (.t 13)),
    .op .none 15 (.len false (.t 14)),
    .op .none 16 (.bin .add (.t 12) (.t 15)),
    .op .none 17 (.fa 5 (.t 1)),
    .op .none 18 (.ld false 1 (.t 17)),
    .op .none 19 (.len false (.t 18)),
    .op .none 20 (.bin .add (.t 16) (.t 19)),
    .op .none 21 (.fa 3 (.t 1)),
    .op .none 22 (.ld false 1 (.t 21)),
    .op .none 23 (.len false (.t 22)),
    .op .none 24 (.bin .add (.t 20) (.t 23)),
    .op .none 25 (.fa 4 (.t 1)),
    .op .none 26 (.ld false 1 (.t 25)),
    .op .none 27 (.len false (.t 26)),
    .op .none 28 (.bin .add (.t 24) (.t 27)),
    .op .none 3 (.mv (.t 28))]) <|
  .seq (.seq (.reg false [.op .none 4 (.mv (.c (.w (.int .i64 0))))]) <|
  .block 0 <|
    .loop <|
      .seq (.seq (.reg false [.op .none 29 (.mv (.t 4)),
        .op .none 30 (.fa 3 (.t 1)),
        .op .none 31 (.ld false 1 (.t 30)),
        .op .none 32 (.len false (.t 31)),
        .op .none 33 (.bin .lss (.t 29) (.t 32)),
        .op .none 34 (.mv (.t 33)),
        .op (.some (34, true)) 35 (.mv (.t 3)),
        .op (.some (34, true)) 36 (.bin .leq (.t 35) (.c (.w (.int .i64 200000)))),
        .op .none 37 (.pick (.t 34) (.t 36) (.c (.w (.bool false))))]) <|
      .cond (.t 37)
        (.skip)
        (.exit 0)) <|
      .seq (.block 1 <|
        .reg false [.op .none 40 (.mv (.t 3)),
          .op .none 41 (.fa 3 (.t 1)),
          .op .none 42 (.ld false 1 (.t 41)),
          .op .none 43 (.mv (.t 4)),
          .op .none 44 (.ia 1 (.t 42) (.t 43)),
          .op .none 45 (.ld false 1 (.t 44)),
          .op .none 46 (.len false (.t 45)),
          .op .none 47 (.bin .add (.t 40) (.t 46)),
          .op .none 3 (.mv (.t 47))]) <|
      .reg false [.op .none 38 (.mv (.t 4)),
        .op .none 39 (.bin .add (.t 38) (.c (.w (.int .i64 1)))),
        .op .none 4 (.mv (.t 39))]) <|
  .seq (.seq (.reg false [.op .none 5 (.mv (.c (.w (.int .i64 0))))]) <|
  .block 2 <|
    .loop <|
      .seq (.seq (.reg false [.op .none 48 (.mv (.t 5)),
        .op .none 49 (.fa 4 (.t 1)),
        .op .none 50 (.ld false 1 (.t 49)),
        .op .none 51 (.len false (.t 50)),
        .op .none 52 (.bin .lss (.t 48) (.t 51)),
        .op .none 53 (.mv (.t 52)),
        .op (.some (53, true)) 54 (.mv (.t 3)),
        .op (.some (53, true)) 55 (.bin .leq (.t 54) (.c (.w (.int .i64 200000)))),
        .op .none 56 (.pick (.t 53) (.t 55) (.c (.w (.bool false))))]) <|
      .cond (.t 56)
        (.skip)
        (.exit 2)) <|
      .seq (.block 3 <|
        .reg true [.op .none 59 (.mv (.t 3)),
          .op .none 60 (.fa 4 (.t 1)),
          .op .none 61 (.ld false 1 (.t 60)),
          .op .none 62 (.mv (.t 5)),
          .op .none 63 (.ia 2 (.t 61) (.t 62)),
          .op .none 64 (.fa 0 (.t 63)),
          .op .none 65 (.ld false 1 (.t 64)),
          .op .none 66 (.len true (.t 65)),
          .op .none 67 (.fa 4 (.t 1)),
          .op .none 68 (.ld false 1 (.t 67)),
          .op .none 69 (.mv (.t 5)),
          .op .none 70 (.ia 2 (.t 68) (.t 69)),
          .op .none 71 (.fa 1 (.t 70)),
          .op .none 72 (.ld false 1 (.t 71)),
          .op .none 73 (.len false (.t 72)),
          .op .none 74 (.bin .add (.t 66) (.t 73)),
          .op .none 75 (.bin .add (.t 59) (.t 74)),
          .op .none 3 (.mv (.t 75))]) <|
      .reg false [.op .none 57 (.mv (.t 5)),
        .op .none 58 (.bin .add (.t 57) (.c (.w (.int .i64 1)))),
        .op .none 5 (.mv (.t 58))]) <|
  .seq (.reg false [.op .none 76 (.mv (.t 3)),
    .op .none 77 (.bin .gtr (.t 76) (.c (.w (.int .i64 200000)))),
    .op .none 2 (.mv (.t 77))]) <|
  .ret
theorem k12 : FnCode Try.prog 12 [] 78 [2] c12 := ⟨Try.f12, Try.func12, fun xs W => Try.call12 xs W, by kernel_rfl, by kernel_rfl, by kernel_rfl⟩

/-- ablaut/ablautlaw19.RowCosts -/
def c5 : MC :=
  .seq (.reg false [.op .none 3 (.box false (.t 0)),
    .op .none 6 (.mv (.c (.w (.bool false))))]) <|
  .seq (.seq (.reg false [.op .none 13 (.ld true 6 (.t 3)),
    .call .none 14 (.f 12) [(.t 13)],
    .op .none 15 (.mv (.t 14)),
    .op (.some (15, false)) 16 (.mv (.t 1)),
    .call (.some (15, false)) 17 (.f 13) [(.t 16)],
    .op (.some (15, false)) 18 (.bin .gtr (.t 17) (.c (.w (.int .i64 200000)))),
    .op .none 19 (.pick (.t 15) (.c (.w (.bool true))) (.t 18)),
    .op .none 20 (.mv (.t 19)),
    .op (.some (20, false)) 21 (.mv (.t 2)),
    .call (.some (20, false)) 22 (.f 13) [(.t 21)],
    .op (.some (20, false)) 23 (.bin .gtr (.t 22) (.c (.w (.int .i64 200000)))),
    .op .none 24 (.pick (.t 20) (.c (.w (.bool true))) (.t 23))]) <|
  .cond (.t 24)
    (.seq (.reg false [.call .none 25 (.f 14) [],
      .op .none 6 (.mv (.t 25))]) <|
    .ret)
    (.skip)) <|
  .seq (.reg false [.op .none 27 (.ld true 6 (.t 3)),
    .op .none 28 (.mv (.t 1)),
    .op .none 29 (.mv (.t 2)),
    .call .none 30 (.f 20) [(.t 27), (.t 28), (.t 29)],
    .op .none 26 (.mv (.t 30)),
    .op .none 31 (.ext (.t 26) 0),
    .op .none 32 (.ext (.t 26) 1),
    .op .none 33 (.ext (.t 26) 2),
    .op .none 7 (.mv (.t 31)),
    .op .none 8 (.mv (.t 32)),
    .op .none 9 (.mv (.t 33))]) <|
  .seq (.reg false [.op .none 35 (.ld true 6 (.t 3)),
    .op .none 36 (.mv (.t 1)),
    .op .none 37 (.mv (.t 2)),
    .call .none 38 (.f 21) [(.t 35), (.t 36), (.t 37)],
    .op .none 34 (.mv (.t 38)),
    .op .none 39 (.ext (.t 34) 0),
    .op .none 40 (.ext (.t 34) 1),
    .op .none 41 (.ext (.t 34) 2),
    .op .none 10 (.mv (.t 39)),
    .op .none 11 (.mv (.t 40)),
    .op .none 12 (.mv (.t 41))]) <|
  .seq (.reg true [.op .none 42 (.ld true 6 (.t 3)),
    .call .none 43 (.f 22) [(.t 42)],
    .op .none 44 (.ld true 6 (.t 3)),
    .call .none 45 (.f 23) [(.t 44)],
    .op .none 46 (.bin .eql (.t 43) (.t 45)),
    .op .none 47 (.mv (.t 46)),
    .op (.some (47, true)) 48 (.mv (.t 7)),
    .op (.some (47, true)) 49 (.mv (.t 10)),
    .op (.some (47, true)) 50 (.bin .eql (.t 48) (.t 49)),
    .op .none 51 (.pick (.t 47) (.t 50) (.c (.w (.bool false)))),
    .op .none 52 (.mv (.t 51)),
    .op (.some (52, true)) 53 (.mv (.t 8)),
    .op (.some (52, true)) 54 (.mv (.t 11)),
    .op (.some (52, true)) 55 (.eqb false (.t 53) (.t 54)),
    .op .none 56 (.pick (.t 52) (.t 55) (.c (.w (.bool false)))),
    .op .none 57 (.mv (.t 56)),
    .op (.some (57, true)) 58 (.mv (.t 9)),
    .op (.some (57, true)) 59 (.mv (.t 12)),
    .op (.some (57, true)) 60 (.bin .eql (.t 58) (.t 59)),
    .op .none 61 (.pick (.t 57) (.t 60) (.c (.w (.bool false)))),
    .op .none 62 (.mv (.t 61)),
    .call (.some (62, true)) 63 (.f 14) [],
    .op .none 64 (.pick (.t 62) (.t 63) (.c (.w (.bool false)))),
    .op .none 6 (.mv (.t 64))]) <|
  .ret
theorem k5 : FnCode Try.prog 5 [] 65 [6] c5 := ⟨Try.f5, Try.func5, fun xs W => Try.call5 xs W, by kernel_rfl, by kernel_rfl, by kernel_rfl⟩

def overF9 (t : TagT) : Bool := decide (200000 < ovWo t.2.2.2.2.1 (ovPr t.2.2.2.1 (((((txF t.1 + t.2.1.length) + t.2.2.1.length) + t.2.2.2.2.2.1.length) + t.2.2.2.1.length) + t.2.2.2.2.1.length)))
theorem fok12 (t : TagT) (ht : tagS t) : FOk Try.prog 12 [.v (tagV t)] [] (.B (overF9 t)) [] := by
  obtain ⟨G, Fi, Z, P, W, U, uu⟩ := t
  obtain ⟨hG, ⟨f1, _⟩, ⟨z1, _⟩, ⟨p1, p2⟩, ⟨w1, w2⟩, ⟨u1, _⟩⟩ := ht
  simp only at hG f1 z1 p1 p2 w1 w2 u1
  have h1 := fok13 G hG
  have hr := txL_rng G G.length (by omega) (by have := hG.1; omega) hG.2
  change 0 ≤ txF G ∧ txF G ≤ 900000000000000 at hr
  refine FOk.val k12 (by simp) (by simp) (by decide) ?_
  simp only [overF9]
  generalize txF G = x at h1 hr ⊢
  simp [c12, tagV]
  simp only [PV.word] at h1
  refine CallG.lent rfl rfl rfl rfl h1 rfl ?_
  generalize hn0 : (((((x + (Fi.length : Int)) + Z.length) + U.length) + P.length) + W.length) = n0
  have hb : 0 ≤ n0 ∧ n0 ≤ 3000000000000000 := by omega
  simp (disch := omega) [wrap_i64, intsV, hn0]
  generalize hres : ovWo W (ovPr P n0) = res
  refine Run.loopA (ι := Nat × Int) [(1, 1)] (fun q => q.1 ≤ P.length ∧ 0 ≤ q.2 ∧ q.2 ≤ 3000000000000000 ∧ ovWo W (ovPr (P.drop q.1) q.2) = res) (fun q => ⟨[(1, .ptr 1 0 0), (3, .I q.2), (4, .I q.1)], [(1, ⟨false, 6, [tagV (G, Fi, Z, P, W, U, uu)]⟩)], 1024⟩) (fun q => P.length - q.1) (0, n0) (by decide) (by simp [tagV, intsV]) ⟨by simp, hb.1, hb.2, by simpa using hres⟩ ?_
  rintro ⟨i, n⟩ ⟨hi, n1, n2, hall⟩ ih
  simp only at hi n1 n2 hall ih
  by_cases h : i < P.length ∧ n ≤ 200000
  · obtain ⟨h, h2⟩ := h
    rw [drop_at h] at hall
    simp only [ovPr] at hall
    rw [if_pos h2] at hall
    have hp := (p2 _ (List.getElem_mem h)).1
    generalize hx : P[i] = p at hp hall
    simp (disch := omega) [h, h2, hx, wrap_i64, tagV, intsV]
    exact ih (i + 1, n + p.length) _ ⟨by simp; omega, by simp; omega, by simp; omega, hall⟩ (by simp; omega) (by simp [tagV, intsV])
  have hall2 : ovWo W n = res := by
    by_cases h1 : i < P.length
    · rw [drop_at h1] at hall
      simp only [ovPr] at hall
      rw [if_neg (by omega)] at hall
      exact hall
    · rw [drop_no h1] at hall
      exact hall
  clear hall ih
  by_cases h1 : i < P.length
  case' pos =>
    have h2 : ¬ n ≤ 200000 := by omega
    simp (disch := omega) [h1, h2, wrap_i64, tagV, intsV]
  case' neg =>
    simp (disch := omega) [h1, wrap_i64, tagV, intsV]
  all_goals
    refine Run.loopA (ι := Nat × Int) [(1, 1)] (fun q => q.1 ≤ W.length ∧ 0 ≤ q.2 ∧ q.2 ≤ 3000000000000000 ∧ ovWo (W.drop q.1) q.2 = res) (fun q => ⟨[(1, .ptr 1 0 0), (3, .I q.2), (5, .I q.1)], [(1, ⟨false, 6, [tagV (G, Fi, Z, P, W, U, uu)]⟩)], 1024⟩) (fun q => W.length - q.1) (0, n) (by decide) (by simp [tagV, intsV]) ⟨by simp, n1, n2, by simpa using hall2⟩ ?_
    rintro ⟨j, m⟩ ⟨hj, m1, m2, hall⟩ ih
    simp only at hj m1 m2 hall ih
    by_cases g : j < W.length
    · rw [drop_at g] at hall
      simp only [ovWo] at hall
      by_cases g2 : m ≤ 200000
      · rw [if_pos g2] at hall
        obtain ⟨q1, q2, _⟩ := w2 _ (List.getElem_mem g)
        change W[j].1.length ≤ 200000000000000 at q1
        generalize hx : W[j] = w at q1 q2 hall
        obtain ⟨ww, wc, wu⟩ := w
        simp only at q1 q2 hall
        simp (disch := omega) [g, g2, hx, wrap_i64, tagV, intsV, worthV]
        exact ih (j + 1, m + (ww.length + wc.length)) _ ⟨by simp; omega, by simp; omega, by simp; omega, hall⟩ (by simp; omega) (by simp [tagV, intsV])
      · rw [if_neg g2] at hall
        subst hall
        simp (disch := omega) [g, g2, wrap_i64, tagV, intsV]
        exact Ends.v rfl (by simp)
    · rw [drop_no g] at hall
      simp only [ovWo] at hall
      subst hall
      simp (disch := omega) [g, wrap_i64, tagV, intsV]
      exact Ends.v rfl (by simp)
def intsC (l : List Int) : Prop := l.length * 8 ≤ 140737488351232 ∧ ∀ x ∈ l, intC x
def tagC (t : TagT) : Prop := wordC t.1 ∧ intsC t.2.1 ∧ intsC t.2.2.1 ∧ (t.2.2.2.1.length * 24 ≤ 140737488351232 ∧ ∀ l ∈ t.2.2.2.1, intsC l) ∧ (t.2.2.2.2.1.length * 40 ≤ 140737488351232 ∧ ∀ w ∈ t.2.2.2.2.1, strC w.1 ∧ intsC w.2.1 ∧ True) ∧ intsC t.2.2.2.2.2.1 ∧ True
theorem wordC.s8 {w : List Bs} (h : wordC w) : wordS w := ⟨by have := h.1; omega, fun s hs => by have := h.2 s hs; show s.length ≤ 200000000000000; omega⟩
theorem strC.s8 {s : Bs} (h : strC s) : smB s := by unfold strC at h; show s.length ≤ 200000000000000; omega
theorem intsC.s {l : List Int} (h : intsC l) : intsS l := ⟨by have := h.1; omega, trivial⟩
theorem tagC.s {t : TagT} (h : tagC t) : tagS t := by
  obtain ⟨h1, h2, h3, h4, h5, h6, _⟩ := h
  exact ⟨h1.s8, h2.s, h3.s, ⟨by have := h4.1; omega, fun l hl => (h4.2 l hl).s⟩, ⟨by have := h5.1; omega, fun w hw => ⟨(h5.2 w hw).1.s8, (h5.2 w hw).2.1.s⟩⟩, h6.s⟩
theorem rowCosts_ok (t : TagT) (l tags : List Bs) (ht : tagC t) (hl : wordC l) (htl : wordC tags) : FOk Try.prog 5 [.v (tagV t), .v (.word l), .v (.word tags)] [] (.B true) [] := by
  have hts := ht.s
  have hls := hl.s8
  have htls := htl.s8
  have h1 := fok12 t hts
  have h2 := fok13 l hls
  have h3 := fok13 tags htls
  have c1 := fok20 t l tags hts hls.1 htls.1
  have c2 := fok21 t l tags hts hls.1 htls.1
  have v1 := fok22 t hts
  have v2 := fok23 t hts
  have hk := fok14
  have htc2 : tagV t = .st [.word t.1, intsV t.2.1, intsV t.2.2.1, .sl 1 (t.2.2.2.1.map intsV), .sl 2 (t.2.2.2.2.1.map worthV), intsV t.2.2.2.2.2.1] := by
    obtain ⟨G, Fi, Z, P, W, U, uu⟩ := t; rfl
  generalize overF9 t = x1 at h1
  generalize txF l = x2 at h2
  generalize txF tags = x3 at h3
  generalize costF t l tags = cc at c1 c2
  generalize valF t = vv at v1 v2
  rw [htc2] at h1 c1 c2 v1 v2 ⊢
  refine FOk.val k5 (by simp) (by simp) (by decide) ?_
  simp [c5]
  refine CallG.lent rfl rfl rfl rfl h1 rfl ?_
  have known : ∀ {A : Prop}, A → A := fun h => h
  cases x1
  case true =>
    simp
    refine CallG.lent rfl rfl rfl rfl hk rfl ?_
    simp
    exact Ends.v rfl (by simp)
  simp
  refine CallG.lent rfl rfl rfl rfl h2 rfl ?_
  by_cases q2 : 200000 < x2
  · have q2' : ¬ x2 ≤ 200000 := by omega
    simp [q2, q2']
    refine CallG.lent rfl rfl rfl rfl hk rfl ?_
    simp
    exact Ends.v rfl (by simp)
  have q2' : x2 ≤ 200000 := by omega
  simp [q2, q2']
  refine CallG.lent rfl rfl rfl rfl h3 rfl ?_
  by_cases q3 : 200000 < x3
  · have q3' : ¬ x3 ≤ 200000 := by omega
    simp [q3, q3']
    refine CallG.lent rfl rfl rfl rfl hk rfl ?_
    simp
    exact Ends.v rfl (by simp)
  have q3' : x3 ≤ 200000 := by omega
  simp [q3, q3']
  refine CallG.plain rfl rfl rfl rfl c1 (by simp) (by simp) ?_
  simp
  refine CallG.plain rfl rfl rfl rfl c2 (by simp) (by simp) ?_
  simp
  refine CallG.lent rfl rfl rfl rfl v1 rfl ?_
  simp
  refine CallG.lent rfl rfl rfl rfl v2 rfl ?_
  simp
  refine CallG.lent rfl rfl rfl rfl hk rfl ?_
  simp
  exact Ends.v rfl (by simp)

end Go.Proofs
