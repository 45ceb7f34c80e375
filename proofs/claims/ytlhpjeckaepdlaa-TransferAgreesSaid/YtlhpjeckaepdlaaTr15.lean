/- The walk. -/
import Derived.Test.YtlhpjeckaepdlaaTr14
import Derived.Test.YtlhpjeckaepdlaaProg
import Derived.KernelRfl
set_option linter.all false
set_option maxHeartbeats 2000000
namespace Go.Proofs
open Go Go.AM
attribute [local irreducible] Run Ends
/-- ablaut/transfer.Agree$1 -/
def c68 : MC :=
  .seq (.reg false [.op .none 2 (.mv (.c (.w (.bool false))))]) <|
  .seq (.reg false [.op .none 3 (.mv (.t 0)),
    .call .none 4 (.f 35) [(.t 3)],
    .op .none 5 (.un .not (.t 4)),
    .op .none 2 (.mv (.t 5))]) <|
  .ret
theorem k68 : FnCode Try.prog 68 [] 6 [2] c68 := ⟨Try.f68, Try.func68, fun xs W => Try.call68 xs W, by kernel_rfl, by kernel_rfl, by kernel_rfl⟩

/-- ablaut/transfer.Agree -/
def c24 : MC :=
  .seq (.reg false [.op .none 8 (.mv (.c (.w (.bool false)))),
    .op .none 9 (.mv (.c (.w (.int .i64 0))))]) <|
  .seq (.seq (.reg false [.op .none 15 (.mv (.t 0)),
    .call .none 16 (.f 13) [(.t 15)],
    .op .none 10 (.mv (.t 16))]) <|
  .seq (.reg false [.op .none 17 (.mv (.t 10)),
    .op .none 18 (.bin .neq (.t 17) (.c (.w (.int .i64 0))))]) <|
  .cond (.t 18)
    (.seq (.reg false [.op .none 19 (.mv (.t 10)),
      .op .none 8 (.mv (.c (.w (.bool false)))),
      .op .none 9 (.mv (.t 19))]) <|
    .ret)
    (.skip)) <|
  .seq (.block 0 <|
    .seq (.reg false [.op .none 21 (.mv (.t 1)),
      .op .none 22 (.len false (.t 21)),
      .op .none 23 (.bin .gtr (.t 22) (.c (.w (.int .i64 24)))),
      .op .none 24 (.mv (.t 23)),
      .op (.some (24, false)) 25 (.mv (.t 1)),
      .call (.some (24, false)) 26 (.f 53) [(.t 25)],
      .op .none 27 (.pick (.t 24) (.c (.w (.bool true))) (.t 26)),
      .op .none 20 (.mv (.t 27))]) <|
    .cond (.t 20)
      (.seq (.reg false [.op .none 8 (.mv (.c (.w (.bool false)))),
        .op .none 9 (.mv (.c (.w (.int .i64 3))))]) <|
      .ret)
      (.seq (.reg false [.op .none 29 (.mv (.t 1)),
        .call .none 30 (.f 38) [(.t 29), (.f 68)],
        .op .none 28 (.mv (.t 30))]) <|
      .cond (.t 28)
        (.seq (.reg false [.op .none 8 (.mv (.c (.w (.bool false)))),
          .op .none 9 (.mv (.c (.w (.int .i64 1))))]) <|
        .ret)
        (.seq (.reg false [.op .none 32 (.mv (.t 2)),
          .op .none 33 (.mv (.t 3)),
          .op .none 34 (.mm false (.t 32) (.t 33)),
          .op .none 35 (.bin .lss (.t 34) (.c (.w (.int .i64 0)))),
          .op .none 36 (.mv (.t 35)),
          .op (.some (36, false)) 37 (.mv (.t 2)),
          .op (.some (36, false)) 38 (.mv (.t 3)),
          .op (.some (36, false)) 39 (.mm true (.t 37) (.t 38)),
          .op (.some (36, false)) 40 (.mv (.t 0)),
          .op (.some (36, false)) 41 (.len false (.t 40)),
          .op (.some (36, false)) 42 (.bin .geq (.t 39) (.t 41)),
          .op .none 43 (.pick (.t 36) (.c (.w (.bool true))) (.t 42)),
          .op .none 31 (.mv (.t 43))]) <|
        .cond (.t 31)
          (.seq (.reg false [.op .none 8 (.mv (.c (.w (.bool false)))),
            .op .none 9 (.mv (.c (.w (.int .i64 4))))]) <|
          .ret)
          (.skip)))) <|
  .seq (.seq (.reg false [.op .none 44 (.mv (.t 1)),
    .op .none 45 (.len false (.t 44)),
    .op .none 46 (.mv (.c (.w (.int .i64 0))))]) <|
  .block 1 <|
    .loop <|
      .seq (.reg false [.op .none 47 (.bin .lss (.t 46) (.t 45))]) <|
      .seq (.cond (.t 47)
        (.skip)
        (.exit 1)) <|
      .seq (.block 2 <|
        .seq (.reg false [.op .none 48 (.ia 1 (.t 44) (.t 46)),
          .op .none 49 (.ld false 1 (.t 48)),
          .op .none 12 (.mv (.t 49))]) <|
        .seq (.reg false [.op .none 50 (.mv (.t 12)),
          .op .none 51 (.len false (.t 50)),
          .op .none 52 (.mv (.c (.w (.int .i64 0))))]) <|
        .block 3 <|
          .loop <|
            .seq (.reg false [.op .none 53 (.bin .lss (.t 52) (.t 51))]) <|
            .seq (.cond (.t 53)
              (.skip)
              (.exit 3)) <|
            .seq (.block 4 <|
              .seq (.reg false [.op .none 54 (.ia 1 (.t 50) (.t 52)),
                .op .none 55 (.ld false 1 (.t 54)),
                .op .none 14 (.mv (.t 55))]) <|
              .seq (.reg true [.op .none 56 (.mv (.t 0)),
                .op .none 57 (.mv (.t 2)),
                .op .none 58 (.ia 2 (.t 56) (.t 57)),
                .op .none 59 (.fa 1 (.t 58)),
                .op .none 60 (.ld false 1 (.t 59)),
                .op .none 61 (.mv (.t 14)),
                .call .none 62 (.f 69) [(.t 60), (.t 61)],
                .op .none 63 (.mv (.t 0)),
                .op .none 64 (.mv (.t 3)),
                .op .none 65 (.ia 2 (.t 63) (.t 64)),
                .op .none 66 (.fa 1 (.t 65)),
                .op .none 67 (.ld false 1 (.t 66)),
                .op .none 68 (.mv (.t 14)),
                .call .none 69 (.f 69) [(.t 67), (.t 68)],
                .op .none 70 (.eqb true (.t 62) (.t 69))]) <|
              .cond (.t 70)
                (.seq (.reg false [.op .none 8 (.mv (.c (.w (.bool false)))),
                  .op .none 9 (.mv (.c (.w (.int .i64 0))))]) <|
                .ret)
                (.skip)) <|
            .reg false [.op .none 71 (.bin .add (.t 52) (.c (.w (.int .i64 1)))),
              .op .none 52 (.mv (.t 71))]) <|
      .reg false [.op .none 72 (.bin .add (.t 46) (.c (.w (.int .i64 1)))),
        .op .none 46 (.mv (.t 72))]) <|
  .seq (.reg false [.op .none 8 (.mv (.c (.w (.bool true)))),
    .op .none 9 (.mv (.c (.w (.int .i64 0))))]) <|
  .ret
theorem k24 : FnCode Try.prog 24 [] 73 [8, 9] c24 := ⟨Try.f24, Try.func24, fun xs W => Try.call24 xs W, by kernel_rfl, by kernel_rfl, by kernel_rfl⟩

/-- ablaut/ablautref28.Agree -/
def c25 : MC :=
  .seq (.reg false [.op .none 8 (.mv (.c (.w (.bool false)))),
    .op .none 9 (.mv (.c (.w (.int .i64 0))))]) <|
  .seq (.seq (.reg false [.op .none 15 (.mv (.t 0)),
    .call .none 16 (.f 14) [(.t 15)],
    .op .none 10 (.mv (.t 16))]) <|
  .seq (.reg false [.op .none 17 (.mv (.t 10)),
    .op .none 18 (.bin .neq (.t 17) (.c (.w (.int .i64 0))))]) <|
  .cond (.t 18)
    (.seq (.reg false [.op .none 19 (.mv (.t 10)),
      .op .none 8 (.mv (.c (.w (.bool false)))),
      .op .none 9 (.mv (.t 19))]) <|
    .ret)
    (.skip)) <|
  .seq (.seq (.reg false [.op .none 20 (.mv (.t 1)),
    .op .none 21 (.len false (.t 20)),
    .op .none 22 (.bin .gtr (.t 21) (.c (.w (.int .i64 24))))]) <|
  .cond (.t 22)
    (.seq (.reg false [.op .none 8 (.mv (.c (.w (.bool false)))),
      .op .none 9 (.mv (.c (.w (.int .i64 3))))]) <|
    .ret)
    (.skip)) <|
  .seq (.seq (.reg false [.op .none 11 (.mv (.c (.w (.int .i64 0))))]) <|
  .block 0 <|
    .loop <|
      .seq (.seq (.reg false [.op .none 23 (.mv (.t 11)),
        .op .none 24 (.mv (.t 1)),
        .op .none 25 (.len false (.t 24)),
        .op .none 26 (.bin .lss (.t 23) (.t 25))]) <|
      .cond (.t 26)
        (.skip)
        (.exit 0)) <|
      .seq (.block 1 <|
        .seq (.reg false [.op .none 29 (.mv (.t 1)),
          .op .none 30 (.mv (.t 11)),
          .op .none 31 (.ia 1 (.t 29) (.t 30)),
          .op .none 32 (.ld false 1 (.t 31)),
          .call .none 33 (.f 46) [(.t 32)]]) <|
        .cond (.t 33)
          (.seq (.reg false [.op .none 8 (.mv (.c (.w (.bool false)))),
            .op .none 9 (.mv (.c (.w (.int .i64 3))))]) <|
          .ret)
          (.skip)) <|
      .reg false [.op .none 27 (.mv (.t 11)),
        .op .none 28 (.bin .add (.t 27) (.c (.w (.int .i64 1)))),
        .op .none 11 (.mv (.t 28))]) <|
  .seq (.seq (.reg false [.op .none 12 (.mv (.c (.w (.int .i64 0))))]) <|
  .block 2 <|
    .loop <|
      .seq (.seq (.reg false [.op .none 34 (.mv (.t 12)),
        .op .none 35 (.mv (.t 1)),
        .op .none 36 (.len false (.t 35)),
        .op .none 37 (.bin .lss (.t 34) (.t 36))]) <|
      .cond (.t 37)
        (.skip)
        (.exit 2)) <|
      .seq (.block 3 <|
        .seq (.reg false [.op .none 40 (.mv (.t 1)),
          .op .none 41 (.mv (.t 12)),
          .op .none 42 (.ia 1 (.t 40) (.t 41)),
          .op .none 43 (.ld false 1 (.t 42)),
          .call .none 44 (.f 70) [(.t 43)],
          .op .none 45 (.un .not (.t 44))]) <|
        .cond (.t 45)
          (.seq (.reg false [.op .none 8 (.mv (.c (.w (.bool false)))),
            .op .none 9 (.mv (.c (.w (.int .i64 1))))]) <|
          .ret)
          (.skip)) <|
      .reg false [.op .none 38 (.mv (.t 12)),
        .op .none 39 (.bin .add (.t 38) (.c (.w (.int .i64 1)))),
        .op .none 12 (.mv (.t 39))]) <|
  .seq (.seq (.reg false [.op .none 46 (.mv (.t 2)),
    .op .none 47 (.bin .lss (.t 46) (.c (.w (.int .i64 0)))),
    .op .none 48 (.mv (.t 47)),
    .op (.some (48, false)) 49 (.mv (.t 2)),
    .op (.some (48, false)) 50 (.mv (.t 0)),
    .op (.some (48, false)) 51 (.len false (.t 50)),
    .op (.some (48, false)) 52 (.bin .geq (.t 49) (.t 51)),
    .op .none 53 (.pick (.t 48) (.c (.w (.bool true))) (.t 52)),
    .op .none 54 (.mv (.t 53)),
    .op (.some (54, false)) 55 (.mv (.t 3)),
    .op (.some (54, false)) 56 (.bin .lss (.t 55) (.c (.w (.int .i64 0)))),
    .op .none 57 (.pick (.t 54) (.c (.w (.bool true))) (.t 56)),
    .op .none 58 (.mv (.t 57)),
    .op (.some (58, false)) 59 (.mv (.t 3)),
    .op (.some (58, false)) 60 (.mv (.t 0)),
    .op (.some (58, false)) 61 (.len false (.t 60)),
    .op (.some (58, false)) 62 (.bin .geq (.t 59) (.t 61)),
    .op .none 63 (.pick (.t 58) (.c (.w (.bool true))) (.t 62))]) <|
  .cond (.t 63)
    (.seq (.reg false [.op .none 8 (.mv (.c (.w (.bool false)))),
      .op .none 9 (.mv (.c (.w (.int .i64 4))))]) <|
    .ret)
    (.skip)) <|
  .seq (.seq (.reg false [.op .none 13 (.mv (.c (.w (.int .i64 0))))]) <|
  .block 4 <|
    .loop <|
      .seq (.seq (.reg false [.op .none 64 (.mv (.t 13)),
        .op .none 65 (.mv (.t 1)),
        .op .none 66 (.len false (.t 65)),
        .op .none 67 (.bin .lss (.t 64) (.t 66))]) <|
      .cond (.t 67)
        (.skip)
        (.exit 4)) <|
      .seq (.block 5 <|
        .seq (.reg false [.op .none 14 (.mv (.c (.w (.int .i64 0))))]) <|
        .block 6 <|
          .loop <|
            .seq (.seq (.reg false [.op .none 70 (.mv (.t 14)),
              .op .none 71 (.mv (.t 1)),
              .op .none 72 (.mv (.t 13)),
              .op .none 73 (.ia 1 (.t 71) (.t 72)),
              .op .none 74 (.ld false 1 (.t 73)),
              .op .none 75 (.len false (.t 74)),
              .op .none 76 (.bin .lss (.t 70) (.t 75))]) <|
            .cond (.t 76)
              (.skip)
              (.exit 6)) <|
            .seq (.block 7 <|
              .seq (.reg true [.op .none 79 (.mv (.t 0)),
                .op .none 80 (.mv (.t 2)),
                .op .none 81 (.ia 2 (.t 79) (.t 80)),
                .op .none 82 (.fa 1 (.t 81)),
                .op .none 83 (.ld false 1 (.t 82)),
                .op .none 84 (.mv (.t 1)),
                .op .none 85 (.mv (.t 13)),
                .op .none 86 (.ia 1 (.t 84) (.t 85)),
                .op .none 87 (.ld false 1 (.t 86)),
                .op .none 88 (.mv (.t 14)),
                .op .none 89 (.ia 1 (.t 87) (.t 88)),
                .op .none 90 (.ld false 1 (.t 89)),
                .call .none 91 (.f 71) [(.t 83), (.t 90)],
                .op .none 92 (.mv (.t 0)),
                .op .none 93 (.mv (.t 3)),
                .op .none 94 (.ia 2 (.t 92) (.t 93)),
                .op .none 95 (.fa 1 (.t 94)),
                .op .none 96 (.ld false 1 (.t 95)),
                .op .none 97 (.mv (.t 1)),
                .op .none 98 (.mv (.t 13)),
                .op .none 99 (.ia 1 (.t 97) (.t 98)),
                .op .none 100 (.ld false 1 (.t 99)),
                .op .none 101 (.mv (.t 14)),
                .op .none 102 (.ia 1 (.t 100) (.t 101)),
                .op .none 103 (.ld false 1 (.t 102)),
                .call .none 104 (.f 71) [(.t 96), (.t 103)],
                .op .none 105 (.eqb true (.t 91) (.t 104))]) <|
              .cond (.t 105)
                (.seq (.reg false [.op .none 8 (.mv (.c (.w (.bool false)))),
                  .op .none 9 (.mv (.c (.w (.int .i64 0))))]) <|
                .ret)
                (.skip)) <|
            .reg false [.op .none 77 (.mv (.t 14)),
              .op .none 78 (.bin .add (.t 77) (.c (.w (.int .i64 1)))),
              .op .none 14 (.mv (.t 78))]) <|
      .reg false [.op .none 68 (.mv (.t 13)),
        .op .none 69 (.bin .add (.t 68) (.c (.w (.int .i64 1)))),
        .op .none 13 (.mv (.t 69))]) <|
  .seq (.reg false [.op .none 8 (.mv (.c (.w (.bool true)))),
    .op .none 9 (.mv (.c (.w (.int .i64 0))))]) <|
  .ret
theorem k25 : FnCode Try.prog 25 [] 106 [8, 9] c25 := ⟨Try.f25, Try.func25, fun xs W => Try.call25 xs W, by kernel_rfl, by kernel_rfl, by kernel_rfl⟩

theorem fok68 (l : List Bs) (hl : wordS l) : FOk Try.prog 68 [.v (.word l)] [] (.B (!ascN none l)) [] := by
  refine FOk.val k68 (by simp) (by simp) (by decide) ?_
  simp [c68]
  refine CallG.lent rfl rfl rfl rfl (fok35 l hl) rfl ?_
  simp
  exact Ends.v rfl (by simp)
def disW (x y w : List Bs) : Bool := w.any fun n => (inW x n != inW y n)
def tagsAt (l : List UnitT) (i : Int) : List Bs := match l[i.toNat]? with | some u => u.2.1 | none => []
def agreeF (l : List UnitT) (G : List (List Bs)) (i k : Int) : Bool × Int :=
  if unitsF l ≠ 0 then (false, unitsF l) else
  if 24 < G.length then (false, 3) else
  if G.any lngW = true then (false, 3) else
  if G.any (fun w => !ascN none w) = true then (false, 1) else
  if 0 ≤ i ∧ i < l.length ∧ 0 ≤ k ∧ k < l.length then (if G.any (disW (tagsAt l i) (tagsAt l k)) = true then (false, 0) else (true, 0)) else (false, 4)
theorem fok24 (l : List UnitT) (G : List (List Bs)) (i k : Int) (hl : l.length ≤ 200000000000000) (hs : ∀ u ∈ l, unitS u) (hG : G.length ≤ 200000000000000) (hw : ∀ w ∈ G, wordS w) (hi : intC i) (hk : intC k) :
    FOk Try.prog 24 [.v (.sl 2 (l.map unitV)), .v (wordsV G), .I i, .I k] [] (.tup [.B (agreeF l G i k).1, .I (agreeF l G i k).2]) [] := by
  have h1 := fok13 l hl hs
  have h2 := fok53 G hG (fun w h => (hw w h).1)
  have h3 := fok38 G _ _ _ (fixF0 68) (fun w => !ascN none w) (fun w h => fok68 w (hw w h)) hG
  simp only [wordsV] at h2
  refine FOk.val k24 (by simp) (by simp) (by decide) ?_
  simp only [agreeF]
  generalize unitsF l = v at h1 ⊢
  generalize G.any lngW = x2 at h2 ⊢
  generalize (G.any fun w => !ascN none w) = x3 at h3 ⊢
  generalize hr : (if 0 ≤ i ∧ i < l.length ∧ 0 ≤ k ∧ k < l.length then (if G.any (disW (tagsAt l i) (tagsAt l k)) = true then ((false, 0) : Bool × Int) else (true, 0)) else (false, 4)) = r
  simp [c24, wordsV]
  refine CallG.lent rfl rfl rfl rfl h1 rfl ?_
  by_cases c1 : v = 0
  case neg =>
    simp [c1]
    exact Ends.v rfl (by simp [c1])
  subst c1
  by_cases c2 : 24 < G.length
  · simp [c2]
    exact Ends.v rfl (by simp [c2])
  simp [c2]
  refine CallG.lent rfl rfl rfl rfl h2 rfl ?_
  cases x2
  case true =>
    simp
    exact Ends.v rfl (by simp [c2])
  simp
  refine CallG.lent rfl rfl rfl rfl h3 rfl ?_
  cases x3
  case true =>
    simp
    exact Ends.v rfl (by simp [c2])
  by_cases good : 0 ≤ i ∧ i < l.length ∧ 0 ≤ k ∧ k < l.length
  case neg =>
    rw [if_neg good] at hr
    subst hr
    have hbad : ¬ 0 ≤ (if k < i then k else i) ∨ (0 ≤ (if k < i then k else i) ∧ (l.length : Int) ≤ (if i < k then k else i)) := by split <;> split <;> omega
    rcases hbad with q | ⟨q1, q2⟩
    · have q' : (if k < i then k else i) < 0 := by omega
      simp [q, q']
      exact Ends.v rfl (by simp [c2])
    · have q' : ¬ (if k < i then k else i) < 0 := by omega
      have q2' : ¬ (if i < k then k else i) < (l.length : Int) := by omega
      simp [q1, q2, q', q2']
      exact Ends.v rfl (by simp [c2])
  have m1 : 0 ≤ (if k < i then k else i) := by split <;> omega
  have m2 : ¬ (if k < i then k else i) < 0 := by omega
  have m3 : (if i < k then k else i) < (l.length : Int) := by split <;> omega
  have m4 : ¬ (l.length : Int) ≤ (if i < k then k else i) := by omega
  simp [m1, m2, m3, m4]
  clear m1 m2 m3 m4
  obtain ⟨g1, g2, g3, g4⟩ := good
  obtain ⟨a, rfl⟩ := Int.eq_ofNat_of_zero_le g1
  obtain ⟨b, rfl⟩ := Int.eq_ofNat_of_zero_le g3
  have ha : a < l.length := by omega
  have hb : b < l.length := by omega
  rw [if_pos ⟨g1, g2, g3, g4⟩] at hr
  have hcx := hs _ (List.getElem_mem ha)
  have hcy := hs _ (List.getElem_mem hb)
  have hx : tagsAt l a = l[a].2.1 := by simp [tagsAt, ha]
  have hy : tagsAt l b = l[b].2.1 := by simp [tagsAt, hb]
  rw [hx, hy] at hr
  clear hx hy h1 h2 h3 g1 g2 g3 g4
  generalize hX : l[a] = X at hcx hr
  generalize hY : l[b] = Y at hcy hr
  obtain ⟨xb, xt, xu⟩ := X
  obtain ⟨yb, yt, yu⟩ := Y
  simp only at hr
  refine Run.loopA (ι := Nat) [] (fun g => g ≤ G.length ∧ ∀ w ∈ G.take g, disW xt yt w = false) (fun g => ⟨[(0, .v (.sl 2 (l.map unitV))), (2, .I a), (3, .I b), (44, .v (.sl 1 (G.map PV.word))), (45, .I G.length), (46, .I g)], [], 1024⟩) (fun g => G.length - g) 0 (by decide) (by simp) (by simp) ?_
  rintro g ⟨hg, hno⟩ ih
  by_cases h : g < G.length
  · have hyes := any_at (disW xt yt) G h
    have hnext := any_take (disW xt yt) G h hno
    have hwg := hw _ (List.getElem_mem h)
    have hwl := hwg.1
    generalize hx : G[g] = w at hyes hnext hwl
    simp (disch := omega) [h, wrap_i64, hx]
    refine Run.loopA (ι := Nat) [] (fun m => m ≤ w.length ∧ ∀ n ∈ w.take m, (inW xt n != inW yt n) = false) (fun m => ⟨[(0, .v (.sl 2 (l.map unitV))), (2, .I a), (3, .I b), (44, .v (.sl 1 (G.map PV.word))), (45, .I G.length), (46, .I g), (50, .v (.word w)), (51, .I w.length), (52, .I m)], [], 1024⟩) (fun m => w.length - m) 0 (by decide) (by simp) (by simp) ?_
    rintro m ⟨hm, hno2⟩ ih2
    by_cases h2 : m < w.length
    · have hyes2 := any_at (fun n => inW xt n != inW yt n) w h2
      have hnext2 := any_take (fun n => inW xt n != inW yt n) w h2 hno2
      have k1 := fok69 xt w[m] hcx.1.1
      have k2 := fok69 yt w[m] hcy.1.1
      generalize inW xt w[m] = x1 at k1 hyes2 hnext2
      generalize inW yt w[m] = x2 at k2 hyes2 hnext2
      simp (disch := omega) [h2, wrap_i64, ha, hb, hX, hY, unitV]
      refine CallG.lent rfl rfl rfl rfl k1 rfl ?_
      simp (disch := omega) [wrap_i64, ha, hb, hX, hY, unitV]
      refine CallG.lent rfl rfl rfl rfl k2 rfl ?_
      by_cases hx12 : x1 = x2
      · simp (disch := omega) [wrap_i64, hx12]
        exact ih2 (m + 1) _ ⟨by omega, hnext2 (by simp [hx12])⟩ (by omega) (by simp)
      · rw [if_pos (hyes (hyes2 (by simpa using hx12)))] at hr
        subst hr
        simp (disch := omega) [wrap_i64, hx12]
        exact Ends.v rfl (by simp [c2])
    · have hmw : m = w.length := by omega
      subst hmw
      rw [List.take_length] at hno2
      simp (disch := omega) [wrap_i64]
      exact ih (g + 1) _ ⟨by omega, hnext (any_end _ _ hno2)⟩ (by omega) (by simp)
  · have hgG : g = G.length := by omega
    subst hgG
    rw [List.take_length] at hno
    rw [any_end _ _ hno] at hr
    subst hr
    simp
    exact Ends.v rfl (by simp [c2])

end Go.Proofs
