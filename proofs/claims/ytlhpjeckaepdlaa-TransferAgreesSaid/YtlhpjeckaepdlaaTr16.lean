/- The walk. -/
import Derived.Test.YtlhpjeckaepdlaaTr15
import Derived.Test.YtlhpjeckaepdlaaProg
import Derived.KernelRfl
set_option linter.all false
set_option maxHeartbeats 2000000
namespace Go.Proofs
open Go Go.AM
attribute [local irreducible] Run Ends
/-- ablaut/ablautlaw28.TransferAgrees -/
def c5 : MC :=
  .seq (.reg false [.op .none 5 (.box false (.t 2)),
    .op .none 6 (.mv (.c (.w (.bool false))))]) <|
  .seq (.seq (.reg false [.op .none 11 (.mv (.t 0)),
    .call .none 12 (.f 9) [(.t 11)],
    .op .none 13 (.mv (.t 12)),
    .op (.some (13, false)) 14 (.mv (.t 1)),
    .op (.some (13, false)) 15 (.len false (.t 14)),
    .op (.some (13, false)) 16 (.bin .gtr (.t 15) (.c (.w (.int .i64 1000)))),
    .op .none 17 (.pick (.t 13) (.c (.w (.bool true))) (.t 16)),
    .op .none 18 (.mv (.t 17)),
    .op (.some (18, false)) 19 (.mv (.t 1)),
    .call (.some (18, false)) 20 (.f 23) [(.t 19)],
    .op .none 21 (.pick (.t 18) (.c (.w (.bool true))) (.t 20))]) <|
  .cond (.t 21)
    (.seq (.reg false [.call .none 22 (.f 10) [],
      .op .none 6 (.mv (.t 22))]) <|
    .ret)
    (.skip)) <|
  .seq (.reg false [.op .none 24 (.mv (.t 0)),
    .op .none 25 (.mv (.t 1)),
    .op .none 26 (.iaA 2 1 (.t 5) (.c (.w (.int .i64 0)))),
    .op .none 27 (.ld false 1 (.t 26)),
    .op .none 28 (.iaA 2 1 (.t 5) (.c (.w (.int .i64 1)))),
    .op .none 29 (.ld false 1 (.t 28)),
    .call .none 30 (.f 24) [(.t 24), (.t 25), (.t 27), (.t 29)],
    .op .none 23 (.mv (.t 30)),
    .op .none 31 (.ext (.t 23) 0),
    .op .none 32 (.ext (.t 23) 1),
    .op .none 7 (.mv (.t 31)),
    .op .none 8 (.mv (.t 32))]) <|
  .seq (.reg false [.op .none 34 (.mv (.t 0)),
    .op .none 35 (.mv (.t 1)),
    .op .none 36 (.iaA 2 1 (.t 5) (.c (.w (.int .i64 0)))),
    .op .none 37 (.ld false 1 (.t 36)),
    .op .none 38 (.iaA 2 1 (.t 5) (.c (.w (.int .i64 1)))),
    .op .none 39 (.ld false 1 (.t 38)),
    .call .none 40 (.f 25) [(.t 34), (.t 35), (.t 37), (.t 39)],
    .op .none 33 (.mv (.t 40)),
    .op .none 41 (.ext (.t 33) 0),
    .op .none 42 (.ext (.t 33) 1),
    .op .none 9 (.mv (.t 41)),
    .op .none 10 (.mv (.t 42))]) <|
  .seq (.reg false [.op .none 43 (.mv (.t 7)),
    .op .none 44 (.mv (.t 9)),
    .op .none 45 (.eqb false (.t 43) (.t 44)),
    .op .none 46 (.mv (.t 45)),
    .op (.some (46, true)) 47 (.mv (.t 8)),
    .op (.some (46, true)) 48 (.mv (.t 10)),
    .op (.some (46, true)) 49 (.bin .eql (.t 47) (.t 48)),
    .op .none 50 (.pick (.t 46) (.t 49) (.c (.w (.bool false)))),
    .op .none 51 (.mv (.t 50)),
    .call (.some (51, true)) 52 (.f 10) [],
    .op .none 53 (.pick (.t 51) (.t 52) (.c (.w (.bool false)))),
    .op .none 6 (.mv (.t 53))]) <|
  .ret
theorem k5 : FnCode Try.prog 5 [] 54 [6] c5 := ⟨Try.f5, Try.func5, fun xs W => Try.call5 xs W, by kernel_rfl, by kernel_rfl, by kernel_rfl⟩

theorem fok25 (l : List UnitT) (G : List (List Bs)) (i k : Int) (hl : l.length ≤ 200000000000000) (hs : ∀ u ∈ l, unitS u) (hG : G.length ≤ 200000000000000) (hw : ∀ w ∈ G, wordS w) (hi : intC i) (hk : intC k) :
    FOk Try.prog 25 [.v (.sl 2 (l.map unitV)), .v (wordsV G), .I i, .I k] [] (.tup [.B (agreeF l G i k).1, .I (agreeF l G i k).2]) [] := by
  have h1 := fok14 l hl hs
  refine FOk.val k25 (by simp) (by simp) (by decide) ?_
  simp only [agreeF]
  generalize unitsF l = v at h1 ⊢
  generalize hr : (if 0 ≤ i ∧ i < l.length ∧ 0 ≤ k ∧ k < l.length then (if G.any (disW (tagsAt l i) (tagsAt l k)) = true then ((false, 0) : Bool × Int) else (true, 0)) else (false, 4)) = r
  generalize hr3 : (if G.any (fun w => !ascN none w) = true then ((false, 1) : Bool × Int) else r) = r3
  generalize hr2 : (if G.any lngW = true then ((false, 3) : Bool × Int) else r3) = r2
  simp [c25, wordsV]
  refine CallG.lent rfl rfl rfl rfl h1 rfl ?_
  by_cases c1 : v = 0
  case neg =>
    simp [c1]
    exact Ends.v rfl (by simp [c1])
  subst c1
  by_cases c2 : 24 < G.length
  · simp [c2]
    exact Ends.v rfl (by simp [c2])
  have hfin : (if (0 : Int) = 0 then (if 24 < G.length then ((false, 3) : Bool × Int) else r2) else (false, 0)) = r2 := by simp [c2]
  rw [hfin]
  simp [c2]
  clear hfin h1
  refine Run.loopA (ι := Nat) [] (fun g => g ≤ G.length ∧ ∀ w ∈ G.take g, lngW w = false) (fun g => ⟨[(0, .v (.sl 2 (l.map unitV))), (1, .v (.sl 1 (G.map PV.word))), (2, .I i), (3, .I k), (11, .I g)], [], 1024⟩) (fun g => G.length - g) 0 (by decide) (by simp) (by simp) ?_
  rintro g ⟨hg, hno⟩ ih
  by_cases h : g < G.length
  · have hyes := any_at lngW G h
    have hnext := any_take lngW G h hno
    have k1 := fok46 G[g] (hw _ (List.getElem_mem h)).1
    generalize lngW G[g] = x1 at k1 hyes hnext
    simp (disch := omega) [h, wrap_i64]
    refine CallG.lent rfl rfl rfl rfl k1 rfl ?_
    cases x1
    case true =>
      rw [if_pos (hyes rfl)] at hr2
      subst hr2
      simp (disch := omega) [wrap_i64]
      exact Ends.v rfl (by simp)
    simp (disch := omega) [wrap_i64]
    exact ih (g + 1) _ ⟨by omega, hnext rfl⟩ (by omega) (by simp)
  have hgG : g = G.length := by omega
  subst hgG
  rw [List.take_length] at hno
  rw [any_end lngW G hno] at hr2
  simp only [Bool.false_eq_true, if_false] at hr2
  subst hr2
  clear ih h hno
  simp
  refine Run.loopA (ι := Nat) [] (fun g => g ≤ G.length ∧ ∀ w ∈ G.take g, (!ascN none w) = false) (fun g => ⟨[(0, .v (.sl 2 (l.map unitV))), (1, .v (.sl 1 (G.map PV.word))), (2, .I i), (3, .I k), (12, .I g)], [], 1024⟩) (fun g => G.length - g) 0 (by decide) (by simp) (by simp) ?_
  rintro g ⟨hg, hno⟩ ih
  by_cases h : g < G.length
  · have hyes := any_at (fun w => !ascN none w) G h
    have hnext := any_take (fun w => !ascN none w) G h hno
    have k1 := fok70 G[g] (hw _ (List.getElem_mem h))
    generalize ascN none G[g] = x1 at k1 hyes hnext
    simp (disch := omega) [h, wrap_i64]
    refine CallG.lent rfl rfl rfl rfl k1 rfl ?_
    cases x1
    case false =>
      rw [if_pos (hyes rfl)] at hr3
      subst hr3
      simp (disch := omega) [wrap_i64]
      exact Ends.v rfl (by simp)
    simp (disch := omega) [wrap_i64]
    exact ih (g + 1) _ ⟨by omega, hnext rfl⟩ (by omega) (by simp)
  have hgG : g = G.length := by omega
  subst hgG
  rw [List.take_length] at hno
  rw [any_end (fun w => !ascN none w) G hno] at hr3
  simp only [Bool.false_eq_true, if_false] at hr3
  subst hr3
  clear ih h hno
  by_cases good : 0 ≤ i ∧ i < l.length ∧ 0 ≤ k ∧ k < l.length
  case neg =>
    rw [if_neg good] at hr
    subst hr
    by_cases q1 : i < 0
    · simp [q1]
      exact Ends.v rfl (by simp)
    by_cases q2 : (l.length : Int) ≤ i
    · simp [q1, q2]
      exact Ends.v rfl (by simp)
    by_cases q3 : k < 0
    · simp [q1, q2, q3]
      exact Ends.v rfl (by simp)
    have q4 : (l.length : Int) ≤ k := by omega
    simp [q1, q2, q3, q4]
    exact Ends.v rfl (by simp)
  obtain ⟨g1, g2, g3, g4⟩ := good
  rw [if_pos ⟨g1, g2, g3, g4⟩] at hr
  obtain ⟨a, rfl⟩ := Int.eq_ofNat_of_zero_le g1
  obtain ⟨b, rfl⟩ := Int.eq_ofNat_of_zero_le g3
  have ha : a < l.length := by omega
  have hb : b < l.length := by omega
  have hcx := hs _ (List.getElem_mem ha)
  have hcy := hs _ (List.getElem_mem hb)
  have hx : tagsAt l a = l[a].2.1 := by simp [tagsAt, ha]
  have hy : tagsAt l b = l[b].2.1 := by simp [tagsAt, hb]
  rw [hx, hy] at hr
  clear hx hy g1 g2 g3 g4
  have ha2 : ¬ l.length ≤ a := by omega
  have hb2 : ¬ l.length ≤ b := by omega
  simp (disch := omega) [ha2, hb2]
  generalize hX : l[a] = X at hcx hr
  generalize hY : l[b] = Y at hcy hr
  obtain ⟨xb, xt, xu⟩ := X
  obtain ⟨yb, yt, yu⟩ := Y
  simp only at hr
  refine Run.loopA (ι := Nat) [] (fun g => g ≤ G.length ∧ ∀ w ∈ G.take g, disW xt yt w = false) (fun g => ⟨[(0, .v (.sl 2 (l.map unitV))), (1, .v (.sl 1 (G.map PV.word))), (2, .I a), (3, .I b), (13, .I g)], [], 1024⟩) (fun g => G.length - g) 0 (by decide) (by simp) (by simp) ?_
  rintro g ⟨hg, hno⟩ ih
  by_cases h : g < G.length
  · have hyes := any_at (disW xt yt) G h
    have hnext := any_take (disW xt yt) G h hno
    have hwg := hw _ (List.getElem_mem h)
    have hwl := hwg.1
    generalize hx : G[g] = w at hyes hnext hwl
    simp (disch := omega) [h, wrap_i64]
    refine Run.loopA (ι := Nat) [] (fun m => m ≤ w.length ∧ ∀ n ∈ w.take m, (inW xt n != inW yt n) = false) (fun m => ⟨[(0, .v (.sl 2 (l.map unitV))), (1, .v (.sl 1 (G.map PV.word))), (2, .I a), (3, .I b), (13, .I g), (14, .I m)], [], 1024⟩) (fun m => w.length - m) 0 (by decide) (by simp) (by simp) ?_
    rintro m ⟨hm, hno2⟩ ih2
    by_cases h2 : m < w.length
    · have hyes2 := any_at (fun n => inW xt n != inW yt n) w h2
      have hnext2 := any_take (fun n => inW xt n != inW yt n) w h2 hno2
      have k1 := fok71 xt w[m] hcx.1.1
      have k2 := fok71 yt w[m] hcy.1.1
      generalize inW xt w[m] = x1 at k1 hyes2 hnext2
      generalize inW yt w[m] = x2 at k2 hyes2 hnext2
      simp (disch := omega) [h, h2, wrap_i64, ha, hb, hX, hY, hx, unitV]
      refine CallG.lent rfl rfl rfl rfl k1 rfl ?_
      simp (disch := omega) [h, h2, wrap_i64, ha, hb, hX, hY, hx, unitV]
      refine CallG.lent rfl rfl rfl rfl k2 rfl ?_
      by_cases hx12 : x1 = x2
      · simp (disch := omega) [wrap_i64, hx12]
        exact ih2 (m + 1) _ ⟨by omega, hnext2 (by simp [hx12])⟩ (by omega) (by simp)
      · rw [if_pos (hyes (hyes2 (by simpa using hx12)))] at hr
        subst hr
        simp (disch := omega) [wrap_i64, hx12]
        exact Ends.v rfl (by simp)
    · have hmw : m = w.length := by omega
      subst hmw
      rw [List.take_length] at hno2
      simp (disch := omega) [wrap_i64, h, hx]
      exact ih (g + 1) _ ⟨by omega, hnext (any_end _ _ hno2)⟩ (by omega) (by simp)
  · have hgG : g = G.length := by omega
    subst hgG
    rw [List.take_length] at hno
    rw [any_end _ _ hno] at hr
    subst hr
    simp
    exact Ends.v rfl (by simp)

end Go.Proofs
