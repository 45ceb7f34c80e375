/- The walk. -/
import Derived.Test.YtepjlojlkionfaaRo1
import Derived.Test.YtepjlojlkionfaaProg
import Derived.KernelRfl
set_option linter.all false
set_option maxHeartbeats 2000000
namespace Go.Proofs
open Go Go.AM
attribute [local irreducible] Run Ends
/-- ablaut/row.Validate -/
def c22 : MC :=
  .seq (.reg false [.op .none 1 (.box false (.t 0)),
    .op .none 2 (.mv (.c (.w (.int .i64 0))))]) <|
  .seq (.seq (.reg false [.op .none 11 (.fa 0 (.t 1)),
    .op .none 12 (.ld false 1 (.t 11)),
    .op .none 13 (.len false (.t 12)),
    .op .none 14 (.bin .gtr (.t 13) (.c (.w (.int .i64 16)))),
    .op .none 15 (.mv (.t 14)),
    .op (.some (15, false)) 16 (.fa 4 (.t 1)),
    .op (.some (15, false)) 17 (.ld false 1 (.t 16)),
    .op (.some (15, false)) 18 (.len false (.t 17)),
    .op (.some (15, false)) 19 (.bin .gtr (.t 18) (.c (.w (.int .i64 300)))),
    .op .none 20 (.pick (.t 15) (.c (.w (.bool true))) (.t 19)),
    .op .none 21 (.mv (.t 20)),
    .op (.some (21, false)) 22 (.fa 4 (.t 1)),
    .op (.some (21, false)) 23 (.ld false 1 (.t 22)),
    .call (.some (21, false)) 24 (.f 54) [(.t 23), (.f 55)],
    .op .none 25 (.pick (.t 21) (.c (.w (.bool true))) (.t 24))]) <|
  .cond (.t 25)
    (.seq (.reg false [.op .none 2 (.mv (.c (.w (.int .i64 3))))]) <|
    .ret)
    (.skip)) <|
  .seq (.reg false [.op .none 26 (.fa 0 (.t 1)),
    .op .none 27 (.ld false 1 (.t 26)),
    .op .none 28 (.len false (.t 27)),
    .op .none 3 (.mv (.t 28))]) <|
  .seq (.seq (.reg false [.op .none 29 (.fa 0 (.t 1)),
    .op .none 30 (.ld false 1 (.t 29)),
    .op .none 31 (.len false (.t 30)),
    .op .none 32 (.mv (.c (.w (.int .i64 0))))]) <|
  .block 0 <|
    .loop <|
      .seq (.reg false [.op .none 33 (.bin .lss (.t 32) (.t 31))]) <|
      .seq (.cond (.t 33)
        (.skip)
        (.exit 0)) <|
      .seq (.block 1 <|
        .seq (.reg false [.op .none 34 (.mv (.t 32)),
          .op .none 35 (.ia 1 (.t 30) (.t 32)),
          .op .none 36 (.ld false 1 (.t 35)),
          .op .none 4 (.mv (.t 34)),
          .op .none 5 (.mv (.t 36))]) <|
        .seq (.reg false [.op .none 37 (.mv (.t 5)),
          .call .none 38 (.f 56) [(.t 37)],
          .op .none 39 (.un .not (.t 38)),
          .op .none 40 (.mv (.t 39)),
          .op (.some (40, false)) 41 (.mv (.t 4)),
          .op (.some (40, false)) 42 (.bin .gtr (.t 41) (.c (.w (.int .i64 0)))),
          .op (.some (40, false)) 43 (.mv (.t 42)),
          .op (.some (43, true)) 44 (.fa 0 (.t 1)),
          .op (.some (43, true)) 45 (.ld false 1 (.t 44)),
          .op (.some (43, true)) 46 (.mv (.t 4)),
          .op (.some (43, true)) 47 (.bin .sub (.t 46) (.c (.w (.int .i64 1)))),
          .op (.some (43, true)) 48 (.ia 1 (.t 45) (.t 47)),
          .op (.some (43, true)) 49 (.ld false 1 (.t 48)),
          .op (.some (43, true)) 50 (.mv (.t 5)),
          .op (.some (43, true)) 51 (.bin .geq (.t 49) (.t 50)),
          .op (.some (40, false)) 52 (.pick (.t 43) (.t 51) (.c (.w (.bool false)))),
          .op .none 53 (.pick (.t 40) (.c (.w (.bool true))) (.t 52))]) <|
        .cond (.t 53)
          (.seq (.reg false [.op .none 2 (.mv (.c (.w (.int .i64 1))))]) <|
          .ret)
          (.skip)) <|
      .reg false [.op .none 54 (.bin .add (.t 32) (.c (.w (.int .i64 1)))),
        .op .none 32 (.mv (.t 54))]) <|
  .seq (.reg false [.op .none 55 (.fa 1 (.t 1)),
    .op .none 56 (.ld false 1 (.t 55)),
    .op .none 57 (.mv (.t 3)),
    .call .none 58 (.f 57) [(.t 56), (.t 57), (.c (.w (.int .i64 0)))],
    .op .none 59 (.mv (.t 58)),
    .op (.some (59, true)) 60 (.fa 2 (.t 1)),
    .op (.some (59, true)) 61 (.ld false 1 (.t 60)),
    .op (.some (59, true)) 62 (.mv (.t 3)),
    .call (.some (59, true)) 63 (.f 57) [(.t 61), (.t 62), (.c (.w (.int .i64 0)))],
    .op .none 64 (.pick (.t 59) (.t 63) (.c (.w (.bool false)))),
    .op .none 65 (.mv (.t 64)),
    .op (.some (65, true)) 66 (.fa 5 (.t 1)),
    .op (.some (65, true)) 67 (.ld false 1 (.t 66)),
    .op (.some (65, true)) 68 (.mv (.t 3)),
    .call (.some (65, true)) 69 (.f 57) [(.t 67), (.t 68), (.c (.w (.int .i64 (-1))))],
    .op .none 70 (.pick (.t 65) (.t 69) (.c (.w (.bool false)))),
    .op .none 71 (.mv (.t 70)),
    .op (.some (71, true)) 72 (.fa 3 (.t 1)),
    .op (.some (71, true)) 73 (.ld false 1 (.t 72)),
    .op (.some (71, true)) 74 (.len false (.t 73)),
    .op (.some (71, true)) 75 (.mv (.t 3)),
    .op (.some (71, true)) 76 (.bin .eql (.t 74) (.t 75)),
    .op .none 77 (.pick (.t 71) (.t 76) (.c (.w (.bool false)))),
    .op .none 6 (.mv (.t 77))]) <|
  .seq (.seq (.reg false [.op .none 78 (.fa 3 (.t 1)),
    .op .none 79 (.ld false 1 (.t 78)),
    .op .none 80 (.len false (.t 79)),
    .op .none 81 (.mv (.c (.w (.int .i64 0))))]) <|
  .block 2 <|
    .loop <|
      .seq (.reg false [.op .none 82 (.bin .lss (.t 81) (.t 80))]) <|
      .seq (.cond (.t 82)
        (.skip)
        (.exit 2)) <|
      .seq (.block 3 <|
        .seq (.reg false [.op .none 83 (.ia 1 (.t 79) (.t 81)),
          .op .none 84 (.ld false 1 (.t 83)),
          .op .none 8 (.mv (.t 84))]) <|
        .reg false [.op .none 85 (.mv (.t 6)),
          .op .none 86 (.mv (.t 85)),
          .op (.some (86, true)) 87 (.mv (.t 8)),
          .op (.some (86, true)) 88 (.mv (.t 3)),
          .call (.some (86, true)) 89 (.f 57) [(.t 87), (.t 88), (.c (.w (.int .i64 0)))],
          .op .none 90 (.pick (.t 86) (.t 89) (.c (.w (.bool false)))),
          .op .none 6 (.mv (.t 90))]) <|
      .reg false [.op .none 91 (.bin .add (.t 81) (.c (.w (.int .i64 1)))),
        .op .none 81 (.mv (.t 91))]) <|
  .seq (.seq (.reg false [.op .none 92 (.fa 4 (.t 1)),
    .op .none 93 (.ld false 1 (.t 92)),
    .op .none 94 (.len false (.t 93)),
    .op .none 95 (.mv (.c (.w (.int .i64 0))))]) <|
  .block 4 <|
    .loop <|
      .seq (.reg false [.op .none 96 (.bin .lss (.t 95) (.t 94))]) <|
      .seq (.cond (.t 96)
        (.skip)
        (.exit 4)) <|
      .seq (.block 5 <|
        .seq (.reg false [.op .none 97 (.mv (.t 95)),
          .op .none 98 (.ia 2 (.t 93) (.t 95)),
          .op .none 99 (.ld true 2 (.t 98)),
          .op .none 10 (.alloc true [(.w (.string ⟨#[]⟩)), (.sl 1 [])]),
          .op .none 9 (.mv (.t 97)),
          .store .none true 2 (.t 10) (.t 99)]) <|
        .reg true [.op .none 100 (.mv (.t 6)),
          .op .none 101 (.mv (.t 100)),
          .op (.some (101, true)) 102 (.fa 1 (.t 10)),
          .op (.some (101, true)) 103 (.ld false 1 (.t 102)),
          .op (.some (101, true)) 104 (.mv (.t 3)),
          .call (.some (101, true)) 105 (.f 57) [(.t 103), (.t 104), (.c (.w (.int .i64 (-1))))],
          .op .none 106 (.pick (.t 101) (.t 105) (.c (.w (.bool false)))),
          .op .none 107 (.mv (.t 106)),
          .op (.some (107, true)) 108 (.mv (.t 9)),
          .op (.some (107, true)) 109 (.bin .eql (.t 108) (.c (.w (.int .i64 0)))),
          .op (.some (107, true)) 110 (.mv (.t 109)),
          .op (.some (110, false)) 111 (.fa 4 (.t 1)),
          .op (.some (110, false)) 112 (.ld false 1 (.t 111)),
          .op (.some (110, false)) 113 (.mv (.t 9)),
          .op (.some (110, false)) 114 (.bin .sub (.t 113) (.c (.w (.int .i64 1)))),
          .op (.some (110, false)) 115 (.ia 2 (.t 112) (.t 114)),
          .op (.some (110, false)) 116 (.fa 0 (.t 115)),
          .op (.some (110, false)) 117 (.ld false 1 (.t 116)),
          .op (.some (110, false)) 118 (.fa 0 (.t 10)),
          .op (.some (110, false)) 119 (.ld false 1 (.t 118)),
          .op (.some (110, false)) 120 (.bin .lss (.t 117) (.t 119)),
          .op (.some (107, true)) 121 (.pick (.t 110) (.c (.w (.bool true))) (.t 120)),
          .op .none 122 (.pick (.t 107) (.t 121) (.c (.w (.bool false)))),
          .op .none 6 (.mv (.t 122))]) <|
      .reg false [.op .none 123 (.bin .add (.t 95) (.c (.w (.int .i64 1)))),
        .op .none 95 (.mv (.t 123))]) <|
  .seq (.seq (.reg false [.op .none 124 (.mv (.t 6)),
    .op .none 125 (.un .not (.t 124))]) <|
  .cond (.t 125)
    (.seq (.reg false [.op .none 2 (.mv (.c (.w (.int .i64 1))))]) <|
    .ret)
    (.skip)) <|
  .seq (.reg false [.op .none 2 (.mv (.c (.w (.int .i64 0))))]) <|
  .ret
theorem k22 : FnCode Try.prog 22 [] 126 [2] c22 := ⟨Try.f22, Try.func22, fun xs W => Try.call22 xs W, by kernel_rfl, by kernel_rfl, by kernel_rfl⟩

/-- ablaut/row.checked -/
def c42 : MC :=
  .seq (.reg false [.op .none 2 (.box false (.t 0)),
    .op .none 4 (.mv (.c (.w (.int .i64 0))))]) <|
  .seq (.seq (.reg false [.op .none 6 (.ld true 6 (.t 2)),
    .call .none 7 (.f 22) [(.t 6)],
    .op .none 5 (.mv (.t 7))]) <|
  .seq (.reg false [.op .none 8 (.mv (.t 5)),
    .op .none 9 (.bin .neq (.t 8) (.c (.w (.int .i64 0))))]) <|
  .cond (.t 9)
    (.seq (.reg false [.op .none 10 (.mv (.t 5)),
      .op .none 4 (.mv (.t 10))]) <|
    .ret)
    (.skip)) <|
  .seq (.seq (.reg false [.op .none 11 (.mv (.t 1)),
    .op .none 12 (.len false (.t 11)),
    .op .none 13 (.bin .gtr (.t 12) (.c (.w (.int .i64 200))))]) <|
  .cond (.t 13)
    (.seq (.reg false [.op .none 4 (.mv (.c (.w (.int .i64 3))))]) <|
    .ret)
    (.skip)) <|
  .seq (.reg false [.op .none 4 (.mv (.c (.w (.int .i64 0))))]) <|
  .ret
theorem k42 : FnCode Try.prog 42 [] 14 [4] c42 := ⟨Try.f42, Try.func42, fun xs W => Try.call42 xs W, by kernel_rfl, by kernel_rfl, by kernel_rfl⟩

def pv {α : Type} : List α → Nat → Option α
  | _, 0 => none
  | l, i + 1 => l[i]?
theorem pv_succ {α : Type} (l : List α) {i : Nat} (h : i < l.length) : pv l (i + 1) = some l[i] := List.getElem?_eq_getElem h
def prOk (n : Nat) : List (List Int) → Bool → Bool
  | [], ok => ok
  | l :: P, ok => prOk n P (ok && csB n 0 l)
def woOk (n : Nat) : Option WorthT → List WorthT → Bool → Bool
  | _, [], ok => ok
  | none, w :: W, ok => woOk n (some w) W (ok && csB n (-1) w.2.1)
  | some a, w :: W, ok => woOk n (some w) W (ok && (csB n (-1) w.2.1 && ltB a.1 w.1))
def lngWo (w : WorthT) : Bool := decide (400 < w.1.length)
def okF (t : TagT) : Bool := woOk t.1.length none t.2.2.2.2.1 (prOk t.1.length t.2.2.2.1 (((csB t.1.length 0 t.2.1 && csB t.1.length 0 t.2.2.1) && csB t.1.length (-1) t.2.2.2.2.2.1) && decide (t.2.2.2.1.length = t.1.length)))
def valF (t : TagT) : Int :=
  if 16 < t.1.length then 3 else if 300 < t.2.2.2.2.1.length then 3 else if t.2.2.2.2.1.any lngWo = true then 3 else
  if ascN none t.1 = false then 1 else if okF t = true then 0 else 1
def intsS (l : List Int) : Prop := l.length ≤ 200000000000000 ∧ True
def worthS (w : WorthT) : Prop := smB w.1 ∧ intsS w.2.1
structure tagS (t : TagT) : Prop where
  g : wordS t.1
  f : intsS t.2.1
  z : intsS t.2.2.1
  p : t.2.2.2.1.length ≤ 200000000000000 ∧ ∀ l ∈ t.2.2.2.1, intsS l
  w : t.2.2.2.2.1.length ≤ 200000000000000 ∧ ∀ w ∈ t.2.2.2.2.1, worthS w
  u : intsS t.2.2.2.2.2.1
theorem fok22 (t : TagT) (ht : tagS t) : FOk Try.prog 22 [.v (tagV t)] [] (.I (valF t)) [] := by
  obtain ⟨G, Fi, Z, P, W, U, uu⟩ := t
  obtain ⟨⟨g1, g2⟩, ⟨f1, _⟩, ⟨z1, _⟩, ⟨p1, p2⟩, ⟨w1, w2⟩, ⟨u1, _⟩⟩ := ht
  simp only at g1 g2 f1 z1 p1 p2 w1 w2 u1
  have hW := fok54 W _ _ _ (fixF0 55) lngWo (fun x _ => fok55 x) w1
  refine FOk.val k22 (by simp) (by simp) (by decide) ?_
  simp only [valF]
  have hok : okF (G, Fi, Z, P, W, U, uu) = woOk G.length none W (prOk G.length P (((csB G.length 0 Fi && csB G.length 0 Z) && csB G.length (-1) U) && decide (P.length = G.length))) := rfl
  generalize okF (G, Fi, Z, P, W, U, uu) = res at hok ⊢
  simp [c22, tagV]
  by_cases c1 : 16 < G.length
  · have c1' : ¬ G.length ≤ 16 := by omega
    simp [c1, c1']
    exact Ends.v rfl (by simp)
  have c1' : G.length ≤ 16 := by omega
  by_cases c2 : 300 < W.length
  · have c2' : ¬ W.length ≤ 300 := by omega
    simp [c1, c1', c2, c2']
    exact Ends.v rfl (by simp)
  have c2' : W.length ≤ 300 := by omega
  simp [c1, c1', c2, c2']
  refine CallG.lent rfl rfl rfl rfl hW rfl ?_
  cases h3 : W.any lngWo
  case true =>
    simp
    exact Ends.v rfl (by simp)
  simp
  refine Run.loopA (ι := Nat) [(1, 1)] (fun i => i ≤ G.length ∧ ascN (pv G i) (G.drop i) = ascN none G) (fun i => ⟨[(1, .ptr 1 0 0), (3, .I G.length), (30, .v (.word G)), (31, .I G.length), (32, .I i)], [(1, ⟨false, 6, [tagV (G, Fi, Z, P, W, U, uu)]⟩)], 1024⟩) (fun i => G.length - i) 0 (by decide) (by simp [tagV]) ⟨by omega, by simp [pv]⟩ ?_
  rintro i ⟨hi, hall⟩ ih
  by_cases h : i < G.length
  · rw [drop_at h] at hall
    have hnm := fok56 G[i] (g2 _ (List.getElem_mem h))
    have hnext : ascN (some G[i]) (G.drop (i + 1)) = ascN none G → ascN (pv G (i + 1)) (G.drop (i + 1)) = ascN none G := by
      intro q; rw [pv_succ G h]; exact q
    simp (disch := omega) [h, wrap_i64]
    refine CallG.lent rfl rfl rfl rfl hnm rfl ?_
    rcases i with _ | i
    · simp only [pv, ascN] at hall
      cases hn : isNm G[0]
      · rw [hn, Bool.false_and] at hall
        simp (disch := omega) [wrap_i64]
        exact Ends.v rfl (by simp [← hall])
      · rw [hn, Bool.true_and] at hall
        simp (disch := omega) [wrap_i64]
        exact ih 1 _ ⟨by omega, hnext hall⟩ (by omega) (by simp [tagV])
    · have h' : i < G.length := by omega
      simp only [pv_succ G h', ascN] at hall
      cases hn : isNm G[i + 1]
      · rw [hn, Bool.false_and] at hall
        simp (disch := omega) [wrap_i64]
        exact Ends.v rfl (by simp [← hall])
      · rw [hn, Bool.true_and] at hall
        have e2 : (((i : Int) + 1) - 1) = (i : Int) := by omega
        cases hlt : ltB G[i] G[i + 1]
        · rw [hlt, Bool.false_and] at hall
          simp (disch := omega) [wrap_i64, h', e2, hlt, tagV]
          exact Ends.v rfl (by simp [← hall])
        · rw [hlt, Bool.true_and] at hall
          simp (disch := omega) [wrap_i64, h', e2, hlt, tagV]
          exact ih (i + 1 + 1) _ ⟨by omega, hnext hall⟩ (by omega) (by simp [tagV])
  · rw [drop_no h] at hall
    simp only [ascN] at hall
    rw [← hall]
    have k1 := fok57 Fi G.length 0 f1
    have k2 := fok57 Z G.length 0 z1
    have k3 := fok57 U G.length (-1) u1
    have k4 := fun (l : List Int) (hl : l ∈ P) => fok57 l G.length 0 (p2 l hl).1
    have k5 := fun (w : WorthT) (hw : w ∈ W) => fok57 w.2.1 G.length (-1) (w2 w hw).2.1
    simp only [intsV] at k1 k2 k3 k4 k5
    generalize csB G.length 0 Fi = x1 at k1 hok
    generalize csB G.length 0 Z = x2 at k2 hok
    generalize csB G.length (-1) U = x3 at k3 hok
    clear ih hW h3 g1 g2
    generalize hn : G.length = n at *
    simp [h, tagV, intsV]
    refine CallG.lent rfl rfl rfl rfl k1 rfl ?_
    cases x1
    case' false =>
      simp [hn]
      have hok : res = woOk n none W (prOk n P false) := by simpa using hok
    case' true =>
      simp [hn]
      refine CallG.lent rfl rfl rfl rfl k2 rfl ?_
      cases x2
      case' false =>
        simp [hn]
        have hok : res = woOk n none W (prOk n P false) := by simpa using hok
      case' true =>
        simp [hn]
        refine CallG.lent rfl rfl rfl rfl k3 rfl ?_
        cases x3
        case' false =>
          simp [hn]
          have hok : res = woOk n none W (prOk n P false) := by simpa using hok
        case' true =>
          by_cases hP : P.length = n
          case' pos =>
            have hP' : (P.length : Int) = (n : Int) := by omega
            simp [hn, hP, hP']
            have hok : res = woOk n none W (prOk n P true) := by simpa [hP] using hok
          case' neg =>
            have hP' : ¬ (P.length : Int) = (n : Int) := by omega
            simp [hn, hP, hP']
            have hok : res = woOk n none W (prOk n P false) := by simpa [hP] using hok
    all_goals
      first
        | refine Run.loopA (ι := Nat × Bool) [(1, 1)] (fun q => q.1 ≤ P.length ∧ res = woOk n none W (prOk n (P.drop q.1) q.2)) (fun q => ⟨[(1, .ptr 1 0 0), (3, .I n), (6, .B q.2), (79, .v (.sl 1 (P.map intsV))), (80, .I P.length), (81, .I q.1)], [(1, ⟨false, 6, [tagV (G, Fi, Z, P, W, U, uu)]⟩)], 1024⟩) (fun q => P.length - q.1) (0, false) (by decide) (by first | (simp [tagV, intsV]; done) | (simp [tagV, intsV]; omega)) ⟨by simp, by simpa using hok⟩ ?_
        | refine Run.loopA (ι := Nat × Bool) [(1, 1)] (fun q => q.1 ≤ P.length ∧ res = woOk n none W (prOk n (P.drop q.1) q.2)) (fun q => ⟨[(1, .ptr 1 0 0), (3, .I n), (6, .B q.2), (79, .v (.sl 1 (P.map intsV))), (80, .I P.length), (81, .I q.1)], [(1, ⟨false, 6, [tagV (G, Fi, Z, P, W, U, uu)]⟩)], 1024⟩) (fun q => P.length - q.1) (0, true) (by decide) (by first | (simp [tagV, intsV]; done) | (simp [tagV, intsV]; omega)) ⟨by simp, by simpa using hok⟩ ?_
      rintro ⟨i, ok⟩ ⟨hi, hall⟩ ih
      simp only at hi hall ih
      by_cases h : i < P.length
      · rw [drop_at h] at hall
        simp only [prOk] at hall
        have kk := k4 P[i] (List.getElem_mem h)
        generalize csB n 0 P[i] = y at kk hall
        cases ok
        · simp (disch := omega) [h, wrap_i64, intsV]
          exact ih (i + 1, false) _ ⟨by simp; omega, by simpa using hall⟩ (by simp; omega) (by simp [tagV, intsV])
        · simp (disch := omega) [h, wrap_i64, intsV]
          refine CallG.lent rfl rfl rfl rfl kk rfl ?_
          simp (disch := omega) [wrap_i64]
          exact ih (i + 1, y) _ ⟨by simp; omega, by simpa using hall⟩ (by simp; omega) (by simp [tagV, intsV])
      · rw [drop_no h] at hall
        simp only [prOk] at hall
        simp [h, tagV]
        refine Run.loopA (ι := Nat × Bool) [(1, 1)] (fun q => q.1 ≤ W.length ∧ res = woOk n (pv W q.1) (W.drop q.1) q.2) (fun q => ⟨[(1, .ptr 1 0 0), (3, .I n), (6, .B q.2), (93, .v (.sl 2 (W.map worthV))), (94, .I W.length), (95, .I q.1)], [(1, ⟨false, 6, [tagV (G, Fi, Z, P, W, U, uu)]⟩)], 1024⟩) (fun q => W.length - q.1) (0, ok) (by decide) (by simp [tagV, intsV]) ⟨by simp, by simpa [pv] using hall⟩ ?_
        clear ih hall h hi i
        rintro ⟨i, ok⟩ ⟨hi, hall⟩ ih
        simp only at hi hall ih
        by_cases h : i < W.length
        · rw [drop_at h] at hall
          have kk := k5 W[i] (List.getElem_mem h)
          have hnx := pv_succ W h
          generalize hx : W[i] = x at kk hnx hall
          obtain ⟨xw, xc, xu⟩ := x
          simp only at kk
          generalize hy : csB n (-1) xc = y at kk
          cases ok
          · have hall2 : res = woOk n (pv W (i + 1)) (W.drop (i + 1)) false := by
              rw [hnx]
              cases hq : pv W i <;> rw [hq] at hall <;> simpa [woOk, hy] using hall
            simp (disch := omega) [h, wrap_i64, hx, worthV, intsV, tagV]
            exact ih (i + 1, false) _ ⟨by simp; omega, hall2⟩ (by simp; omega) (by simp [tagV, intsV])
          · simp (disch := omega) [h, wrap_i64, hx, worthV, intsV, tagV]
            refine CallG.lent rfl rfl rfl rfl kk rfl ?_
            cases y
            · have hall2 : res = woOk n (pv W (i + 1)) (W.drop (i + 1)) false := by
                rw [hnx]
                cases hq : pv W i <;> rw [hq] at hall <;> simpa [woOk, hy] using hall
              simp (disch := omega) [wrap_i64, hx, worthV, intsV, tagV]
              exact ih (i + 1, false) _ ⟨by simp; omega, hall2⟩ (by simp; omega) (by simp [tagV, intsV])
            · rcases i with _ | i
              · simp (disch := omega) [wrap_i64, hx, worthV, intsV, tagV]
                exact ih (1, true) _ ⟨by simp; omega, by rw [hnx]; simpa [pv, woOk, hy] using hall⟩ (by simp; omega) (by simp [tagV, intsV])
              · have h' : i < W.length := by omega
                rw [pv_succ W h'] at hall
                have e2 : (((i : Int) + 1) - 1) = (i : Int) := by omega
                have e3 : ¬ ((i : Int) + 1 = 0) := by omega
                generalize hz : W[i] = z at hall
                obtain ⟨zw, zc, zu⟩ := z
                simp (disch := omega) [wrap_i64, hx, worthV, intsV, tagV, e2, e3, h', hz]
                exact ih (i + 1 + 1, ltB zw xw) _ ⟨by simp; omega, by rw [hnx]; simpa [woOk, hy] using hall⟩ (by simp; omega) (by simp [tagV, intsV])
        · rw [drop_no h] at hall
          simp only [woOk] at hall
          subst hall
          cases res
          · simp [h]
            exact Ends.v rfl (by simp)
          · simp [h]
            exact Ends.v rfl (by simp)
def chkF (t : TagT) (n : Nat) : Int := if valF t = 0 then (if 200 < n then 3 else 0) else valF t
theorem fok42 (t : TagT) (l : List Bs) (ht : tagS t) (hl : l.length ≤ 200000000000000) : FOk Try.prog 42 [.v (tagV t), .v (.word l)] [] (.I (chkF t l.length)) [] := by
  have h1 := fok22 t ht
  obtain ⟨G, Fi, Z, P, W, U, uu⟩ := t
  refine FOk.val k42 (by simp) (by simp) (by decide) ?_
  simp only [chkF]
  generalize valF (G, Fi, Z, P, W, U, uu) = v at h1 ⊢
  simp only [tagV] at h1
  simp [c42, tagV]
  refine CallG.lent rfl rfl rfl rfl h1 rfl ?_
  by_cases hv : v = 0
  case neg =>
    simp [hv]
    exact Ends.v rfl (by simp [hv])
  subst hv
  by_cases h2 : 200 < l.length
  · simp [h2]
    exact Ends.v rfl (by simp [h2])
  · simp [h2]
    exact Ends.v rfl (by simp [h2])

end Go.Proofs
