/- The walk. -/
import Derived.Test.YtphjjlhpepmofaaKl1
import Derived.Test.YtphjjlhpepmofaaSo
import Derived.Test.YtphjjlhpepmofaaAM30
import Derived.Test.YtphjjlhpepmofaaSC23
import Derived.Test.YtphjjlhpepmofaaF2
import Derived.Test.YtphjjlhpepmofaaProg
import Derived.KernelRfl
set_option linter.all false
set_option maxHeartbeats 2000000
namespace Go.Proofs
open Go Go.AM
attribute [local irreducible] Run Ends
/-- ablaut/ablautref23.rank -/
def c68 : MC :=
  .seq (.reg false [.op .none 2 (.nilS 3)]) <|
  .seq (.reg false [.op .none 3 (.nilS 3)]) <|
  .seq (.seq (.reg false [.op .none 4 (.mv (.c (.w (.int .i64 0))))]) <|
  .block 0 <|
    .loop <|
      .seq (.seq (.reg false [.op .none 7 (.mv (.t 4)),
        .op .none 8 (.mv (.t 0)),
        .op .none 9 (.len false (.t 8)),
        .op .none 10 (.bin .lss (.t 7) (.t 9))]) <|
      .cond (.t 10)
        (.skip)
        (.exit 0)) <|
      .seq (.block 1 <|
        .seq (.reg false [.op .none 13 (.mv (.t 3)),
          .op .none 14 (.len false (.t 13)),
          .op .none 5 (.mv (.t 14))]) <|
        .seq (.block 2 <|
          .loop <|
            .seq (.seq (.reg true [.op .none 15 (.mv (.t 5)),
              .op .none 16 (.bin .gtr (.t 15) (.c (.w (.int .i64 0)))),
              .op .none 17 (.mv (.t 16)),
              .op (.some (17, true)) 18 (.mv (.t 3)),
              .op (.some (17, true)) 19 (.mv (.t 5)),
              .op (.some (17, true)) 20 (.bin .sub (.t 19) (.c (.w (.int .i64 1)))),
              .op (.some (17, true)) 21 (.ia 3 (.t 18) (.t 20)),
              .op (.some (17, true)) 22 (.fa 0 (.t 21)),
              .op (.some (17, true)) 23 (.ld false 1 (.t 22)),
              .op (.some (17, true)) 24 (.mv (.t 0)),
              .op (.some (17, true)) 25 (.mv (.t 4)),
              .op (.some (17, true)) 26 (.ia 3 (.t 24) (.t 25)),
              .op (.some (17, true)) 27 (.fa 0 (.t 26)),
              .op (.some (17, true)) 28 (.ld false 1 (.t 27)),
              .op (.some (17, true)) 29 (.bin .gtr (.t 23) (.t 28)),
              .op (.some (17, true)) 30 (.mv (.t 29)),
              .op (.some (30, false)) 31 (.mv (.t 3)),
              .op (.some (30, false)) 32 (.mv (.t 5)),
              .op (.some (30, false)) 33 (.bin .sub (.t 32) (.c (.w (.int .i64 1)))),
              .op (.some (30, false)) 34 (.ia 3 (.t 31) (.t 33)),
              .op (.some (30, false)) 35 (.fa 0 (.t 34)),
              .op (.some (30, false)) 36 (.ld false 1 (.t 35)),
              .op (.some (30, false)) 37 (.mv (.t 0)),
              .op (.some (30, false)) 38 (.mv (.t 4)),
              .op (.some (30, false)) 39 (.ia 3 (.t 37) (.t 38)),
              .op (.some (30, false)) 40 (.fa 0 (.t 39)),
              .op (.some (30, false)) 41 (.ld false 1 (.t 40)),
              .op (.some (30, false)) 42 (.bin .eql (.t 36) (.t 41)),
              .op (.some (30, false)) 43 (.mv (.t 42)),
              .op (.some (43, true)) 44 (.mv (.t 3)),
              .op (.some (43, true)) 45 (.mv (.t 5)),
              .op (.some (43, true)) 46 (.bin .sub (.t 45) (.c (.w (.int .i64 1)))),
              .op (.some (43, true)) 47 (.ia 3 (.t 44) (.t 46)),
              .op (.some (43, true)) 48 (.fa 1 (.t 47)),
              .op (.some (43, true)) 49 (.ld false 1 (.t 48)),
              .op (.some (43, true)) 50 (.mv (.t 0)),
              .op (.some (43, true)) 51 (.mv (.t 4)),
              .op (.some (43, true)) 52 (.ia 3 (.t 50) (.t 51)),
              .op (.some (43, true)) 53 (.fa 1 (.t 52)),
              .op (.some (43, true)) 54 (.ld false 1 (.t 53)),
              .op (.some (43, true)) 55 (.bin .gtr (.t 49) (.t 54)),
              .op (.some (30, false)) 56 (.pick (.t 43) (.t 55) (.c (.w (.bool false)))),
              .op (.some (17, true)) 57 (.pick (.t 30) (.c (.w (.bool true))) (.t 56)),
              .op .none 58 (.pick (.t 17) (.t 57) (.c (.w (.bool false))))]) <|
            .cond (.t 58)
              (.skip)
              (.exit 2)) <|
            .block 3 <|
              .reg false [.op .none 59 (.mv (.t 5)),
                .op .none 60 (.bin .sub (.t 59) (.c (.w (.int .i64 1)))),
                .op .none 5 (.mv (.t 60))]) <|
        .seq (.reg false [.op .none 61 (.buildS false 3 0 true [(.w (.string ⟨#[]⟩)), (.w (.string ⟨#[]⟩)), (.w (.int .i64 0))] []),
          .op .none 62 (.mv (.t 3)),
          .op .none 63 (.mv (.t 5)),
          .op .none 64 (.slc false 3 (.t 62) .none (.some (.t 63))),
          .op .none 65 (.app 3 40 (.t 61) (.t 64)),
          .op .none 6 (.mv (.t 65))]) <|
        .seq (.reg false [.op .none 66 (.mv (.t 6)),
          .op .none 67 (.mv (.t 0)),
          .op .none 68 (.mv (.t 4)),
          .op .none 69 (.ia 3 (.t 67) (.t 68)),
          .op .none 70 (.ld true 3 (.t 69)),
          .op .none 71 (.buildS false 3 1 true [(.w (.string ⟨#[]⟩)), (.w (.string ⟨#[]⟩)), (.w (.int .i64 0))] [(0, (.t 70))]),
          .op .none 72 (.app 3 40 (.t 66) (.t 71)),
          .op .none 6 (.mv (.t 72))]) <|
        .reg false [.op .none 73 (.mv (.t 6)),
          .op .none 74 (.mv (.t 3)),
          .op .none 75 (.mv (.t 5)),
          .op .none 76 (.slc false 3 (.t 74) (.some (.t 75)) .none),
          .op .none 77 (.app 3 40 (.t 73) (.t 76)),
          .op .none 3 (.mv (.t 77))]) <|
      .reg false [.op .none 11 (.mv (.t 4)),
        .op .none 12 (.bin .add (.t 11) (.c (.w (.int .i64 1)))),
        .op .none 4 (.mv (.t 12))]) <|
  .seq (.reg false [.op .none 78 (.mv (.t 3)),
    .op .none 2 (.mv (.t 78))]) <|
  .ret
theorem k68 : FnCode Try.prog 68 [] 79 [2] c68 := ⟨Try.f68, Try.func68, fun xs W => Try.call68 xs W, by kernel_rfl, by kernel_rfl, by kernel_rfl⟩

/-- ablaut/ablautref23.near -/
def c67 : MC :=
  .seq (.reg false [.op .none 6 (.alloc true [(.w (.string ⟨#[]⟩)), (.w (.string ⟨#[]⟩)), (.w (.int .i64 0))])]) <|
  .seq (.seq (.reg false [.op .none 7 (.mv (.t 0)),
    .op .none 8 (.mv (.t 1)),
    .op .none 9 (.bin .gtr (.t 7) (.t 8))]) <|
  .cond (.t 9)
    (.reg false [.op .none 10 (.mv (.t 1)),
      .op .none 11 (.mv (.t 0)),
      .op .none 0 (.mv (.t 10)),
      .op .none 1 (.mv (.t 11))])
    (.skip)) <|
  .seq (.reg false [.op .none 12 (.mv (.t 0)),
    .op .none 13 (.mv (.t 1)),
    .op .none 14 (.mv (.t 2)),
    .op .none 15 (.build false [(.w (.string ⟨#[]⟩)), (.w (.string ⟨#[]⟩)), (.w (.int .i64 0))] [(0, 1, (.t 12)), (1, 1, (.t 13)), (2, 1, (.t 14))]),
    .store .none (.stt true 3 (.t 6) (.t 15))]) <|
  .ret
theorem k67 : FnCode Try.prog 67 [] 16 [7000071000006] c67 := ⟨Try.f67, Try.func67, fun xs W => Try.call67 xs W, by kernel_rfl, by kernel_rfl, by kernel_rfl⟩

def cmpK (a b : PairT) : Int := cmpW [a.1, a.2] [b.1, b.2]
theorem linK : Lin cmpK where
  self a := cmpW_self _
  zero {a b} h := by
    have := cmpW_zero h
    simp only [List.cons.injEq, and_true] at this
    exact Prod.ext this.1 this.2
  tr h1 h2 := cmpW_neg_trans h1 h2
  pos := cmpW_pos
def nrG (g : PairT → Int) (k : PairT) : NearT := (k.1, k.2, g k, ())
def decK : PV → PairT
  | .st [.w (.string a), .w (.string b), _] => (a.data.toList, b.data.toList)
  | _ => ([], [])
theorem decK_nr (g : PairT → Int) (k : PairT) : decK (nearV (nrG g k)) = k := by simp [decK, nearV, nrG, bs_list]
theorem cmpN_nr (g g' : PairT → Int) (a b : PairT) : cmpN (nrG g a) (nrG g' b) = cmpK a b := rfl
def nrV (g : PairT → Int) (l : List PairT) : List PV := l.map fun k => nearV (nrG g k)

theorem fok65 (g : PairT → Int) (l : List PairT) (hl : l.length ≤ 1000000) : FOk Try.prog 65 [.h 0, .fn 41 []] [(0, ⟨false, 3, nrV g l⟩)] (.tup []) [(0, ⟨false, 3, nrV g (srt cmpK l)⟩)] := by
  refine FOk.sortK Try.laysF65 (k := 3) (by decide) ?_ ?_ (caps := []) (fun p => ∃ a : PairT, p = nearV (nrG g a)) (fun p q => cmpK (decK p) (decK q)) ?_ ?_ ?_ ?_ ?_ ?_ (by simp [nrV]; omega)
  · intro w
    refine (AM.run_isAgg (P := Try.prog) (by kernel_rfl) w).trans (congrArg (fun b : Bool => Result.ok b w) ?_)
    kernel_rfl
  · intro w
    refine (AM.run_sizeOf (P := Try.prog) (by kernel_rfl) w).trans (congrArg (fun b : Nat => Result.ok b w) ?_)
    kernel_rfl
  · intro p hp
    obtain ⟨a, ha, rfl⟩ := List.mem_map.1 hp
    exact ⟨⟨a, rfl⟩, rfl⟩
  · rintro _ _ ⟨a, rfl⟩ ⟨b, rfl⟩
    rw [decK_nr, decK_nr]
    exact fok41 (nrG g a) (nrG g b)
  · intro p _; exact linK.irr _
  · intro p q r _ _ _ h1 h2; exact linK.tr h1 h2
  · intro p q r _ _ _ h1 h2; exact linK.le_tr h2 h1
  · intro m hm hs
    exact srt_pv linK (decK_nr g) hm hs

theorem fok67 (a b : Bs) (c : Int) : FOk Try.prog 67 [.S a, .S b, .I c] [] (.v (nearV (nrG (fun _ => c) (loS a b, hiS a b)))) [] := by
  refine FOk.val k67 (by simp) (by simp) (by decide) ?_
  simp [c67, nearV, nrG]
  refine ⟨fun h1 h2 => ?_, fun h1 => ?_⟩
  · exact Ends.v rfl (by simp [loS, hiS, h1, h2])
  · by_cases h2 : ltB a b = true
    · exact Ends.v rfl (by simp [loS, hiS, h2])
    · have h3 := h1 (by simpa using h2)
      subst h3
      exact Ends.v rfl (by simp [loS, hiS, h2])
/-- The first one that is above: all behind it are above. -/
def gtK (x o : PairT) : Bool := decide (cmpK x o < 0)
theorem gtK_eq (x o : PairT) : gtK x o = (!(ltB o.1 x.1 || decide (o.1 = x.1)) || decide (o.1 = x.1) && !(ltB o.2 x.2 || decide (o.2 = x.2))) := by
  obtain ⟨a, b⟩ := x
  obtain ⟨c, d⟩ := o
  unfold gtK cmpK
  simp only [cmpW, cmpB]
  by_cases h1 : c = a
  · subst h1
    by_cases h2 : d = b
    · subst h2; simp [ltB_irrefl]
    · cases h3 : ltB d b
      · have h4 : ltB b d = true := by
          cases h4 : ltB b d
          · exact absurd (ltB_total h3 h4) h2
          · rfl
        simp [ltB_irrefl, h2, h4]
      · have h4 := ltB_asymm h3
        have h5 : b ≠ d := fun e => h2 e.symm
        simp [ltB_irrefl, h2, h4, h5]
  · have h5 : a ≠ c := fun e => h1 e.symm
    cases h3 : ltB c a
    · have h4 : ltB a c = true := by
        cases h4 : ltB a c
        · exact absurd (ltB_total h3 h4) h1
        · rfl
      simp [h1, h4]
    · have h4 := ltB_asymm h3
      simp [h1, h4, h5]
theorem nrV_len (g : PairT → Int) (l : List PairT) : (nrV g l).length = l.length := by simp [nrV]
theorem nrV_get {g : PairT → Int} {l : List PairT} {i : Nat} (h : i < l.length) : (nrV g l)[i]? = some (.st [.w (.string (bs l[i].1)), .w (.string (bs l[i].2)), .w (.int .i64 (g l[i]))]) := by
  simp [nrV, List.getElem?_eq_getElem h, nearV, nrG]
/-- One goes into its place. -/
theorem ins_srt {l : List PairT} {x : PairT} {t : Nat} {o : List PairT} (ho : o = srt cmpK l) (ht : t ≤ o.length) (h1 : ∀ j (hj : j < o.length), t ≤ j → gtK x o[j] = true) (h2 : t = 0 ∨ ∃ h : t - 1 < o.length, gtK x o[t - 1] = false) :
    o.take t ++ x :: o.drop t = srt cmpK (l ++ [x]) := by
  have hp : o.Perm l := by rw [ho]; exact srt_perm l
  have hs : o.Pairwise (fun a b => ¬ cmpK b a < 0) := by rw [ho]; exact srt_pw linK l
  refine srt_uniq linK ?_ ?_
  · have : (o.take t ++ x :: o.drop t).Perm (x :: (o.take t ++ o.drop t)) := List.perm_middle
    rw [List.take_append_drop] at this
    exact this.trans ((hp.cons x).trans (List.perm_append_singleton x l).symm)
  · have hs' := hs
    rw [← List.take_append_drop t o] at hs'
    rw [List.pairwise_append] at hs' ⊢
    obtain ⟨q1, q2, q3⟩ := hs'
    refine ⟨q1, List.pairwise_cons.2 ⟨fun b hb => ?_, q2⟩, fun a ha b hb => ?_⟩
    · obtain ⟨j, hj, rfl⟩ := List.getElem_of_mem hb
      rw [List.length_drop] at hj
      have := h1 (t + j) (by omega) (by omega)
      rw [List.getElem_drop]
      simp only [gtK, decide_eq_true_eq] at this
      exact linK.asy this
    · rcases List.mem_cons.1 hb with rfl | hb
      · rcases h2 with rfl | ⟨hlt, h2⟩
        · simp at ha
        · simp only [gtK, decide_eq_false_iff_not] at h2
          obtain ⟨j, hj, rfl⟩ := List.getElem_of_mem ha
          rw [List.length_take] at hj
          rw [List.getElem_take]
          by_cases hjt : j = t - 1
          · subst hjt; exact h2
          · have := List.pairwise_iff_getElem.1 hs j (t - 1) (by omega) hlt (by omega)
            exact linK.le_tr this h2
      · exact q3 a ha b hb

set_option maxRecDepth 100000 in
theorem fok68 (g : PairT → Int) (l : List PairT) (hl : l.length ≤ 1000000) : FOk Try.prog 68 [.v (.sl 3 (nrV g l))] [] (.v (.sl 3 (nrV g (srt cmpK l)))) [] := by
  refine FOk.val k68 (by simp) (by simp) (by decide) ?_
  simp [c68]
  refine Run.loopA (ι := Nat) [(1, 3)] (fun i => i ≤ l.length) (fun i => ⟨[(0, .v (.sl 3 (nrV g l))), (3, .h 1), (4, .I i)], [(1, ⟨false, 3, nrV g (srt cmpK (l.take i))⟩)], 1024⟩) (fun i => l.length - i) 0 (by decide) (by simp [nrV, srt]) (by simp) ?_
  rintro i hi ih
  by_cases h : i < l.length
  · simp (disch := omega) [h, wrap_i64, nrV_len]
    have hol : (srt cmpK (l.take i)).length ≤ 1000000 := by rw [srt_len, List.length_take]; omega
    have hoe : ∃ o, o = srt cmpK (l.take i) := ⟨_, rfl⟩
    obtain ⟨o, ho⟩ := hoe
    rw [← ho] at hol ⊢
    have hxg : (nrV g l)[i]? = some (.st [.w (.string (bs l[i].1)), .w (.string (bs l[i].2)), .w (.int .i64 (g l[i]))]) := nrV_get h
    have hnext : l.take (i + 1) = l.take i ++ [l[i]] := by simp
    generalize hx : l[i] = x at hxg hnext
    refine Run.loopA (ι := Nat) [(1, 3)] (fun t => t ≤ o.length ∧ ∀ j (hj : j < o.length), t ≤ j → gtK x o[j] = true) (fun t => ⟨[(0, .v (.sl 3 (nrV g l))), (3, .h 1), (4, .I i), (5, .I t)], [(1, ⟨false, 3, nrV g o⟩)], 1024⟩) (fun t => t) o.length (by decide) (by simp) ⟨by omega, fun j hj hj2 => by omega⟩ ?_
    rintro t ⟨ht, hgt⟩ iht
    have fin : (t = 0 ∨ ∃ h : t - 1 < o.length, gtK x o[t - 1] = false) → o.take t ++ x :: o.drop t = srt cmpK (l.take (i + 1)) := fun h2 => by
      rw [hnext]; exact ins_srt ho ht hgt h2
    have hnr : nrV g (o.take t ++ x :: o.drop t) = (nrV g o).take t ++ (.st [.w (.string (bs x.1)), .w (.string (bs x.2)), .w (.int .i64 (g x))]) :: (nrV g o).drop t := by
      simp [nrV, List.map_take, List.map_drop, nearV, nrG]
    by_cases h0 : 0 < t
    · obtain ⟨t', rfl⟩ : ∃ t', t = t' + 1 := ⟨t - 1, by omega⟩
      have hlt : t' < o.length := by omega
      have hog := nrV_get (g := g) hlt
      have heq := gtK_eq x o[t']
      have mn : min (t' + 1) o.length = t' + 1 := by omega
      have ml : (t' : Int) + 1 ≤ (o.length : Int) := by omega
      have htk : (nrV g o).take o.length = nrV g o := List.take_of_length_le (by rw [nrV_len]; omega)
      obtain ⟨b1, b2, b3⟩ : (t' + 1 + 1000) * 40 ≤ 70368744177664 ∧ (t' + 1 + 1 + 1000) * 40 ≤ 70368744177664 ∧ (t' + 1 + 1 + (o.length - (t' + 1)) + 1000) * 40 ≤ 70368744177664 := by refine ⟨?_, ?_, ?_⟩ <;> omega
      generalize hy : o[t'] = y at hog heq
      have hex : gtK x y = false → nrV g (srt cmpK (l.take (i + 1))) = (nrV g o).take (t' + 1) ++ (.st [.w (.string (bs x.1)), .w (.string (bs x.2)), .w (.int .i64 (g x))]) :: (nrV g o).drop (t' + 1) := fun h2 => by
        rw [← fin (.inr ⟨hlt, by simp only [Nat.add_sub_cancel, hy]; exact h2⟩), hnr]
      have hco : gtK x y = true → ∀ j (hj : j < o.length), t' ≤ j → gtK x o[j] = true := fun h2 j hj hj2 => by
        rcases Nat.lt_or_ge t' j with h3 | h3
        · exact hgt j hj (by clear b1 b2 b3; omega)
        · obtain rfl : j = t' := by clear b1 b2 b3; omega
          rw [hy]; exact h2
      obtain ⟨y1, y2⟩ := y
      obtain ⟨x1, x2⟩ := x
      simp only at heq hog hxg hex
      by_cases c1 : y1 = x1
      · by_cases c2 : y2 = x2
        · have hg : gtK (x1, x2) (y1, y2) = false := by rw [heq]; simp [c1, c2]
          have hex := hex hg
          simp (disch := (clear b1 b2 b3; omega)) [h0, wrap_i64, nrV_len, hxg, hog, h, c1, c2, b1, b2, b3, mn, ml]
          exact ih (i + 1) _ (by clear b1 b2 b3; omega) (by clear b1 b2 b3; omega) (by rw [hex]; simp [htk])
        · cases c3 : ltB y2 x2
          · have hg : gtK (x1, x2) (y1, y2) = true := by rw [heq]; simp [c1, c2, c3]
            simp (disch := (clear b1 b2 b3; omega)) [h0, wrap_i64, nrV_len, hxg, hog, h, c1, c2, c3, b1, b2, b3, mn]
            exact iht t' _ ⟨by clear b1 b2 b3; omega, hco hg⟩ (by clear b1 b2 b3; omega) (by simp)
          · have hg : gtK (x1, x2) (y1, y2) = false := by rw [heq]; simp [c1, c3]
            have hex := hex hg
            simp (disch := (clear b1 b2 b3; omega)) [h0, wrap_i64, nrV_len, hxg, hog, h, c1, c2, c3, b1, b2, b3, mn, ml]
            exact ih (i + 1) _ (by clear b1 b2 b3; omega) (by clear b1 b2 b3; omega) (by rw [hex]; simp [htk])
      · cases c3 : ltB y1 x1
        · have hg : gtK (x1, x2) (y1, y2) = true := by rw [heq]; simp [c1, c3]
          simp (disch := (clear b1 b2 b3; omega)) [h0, wrap_i64, nrV_len, hxg, hog, h, c1, c3, b1, b2, b3, mn]
          exact iht t' _ ⟨by clear b1 b2 b3; omega, hco hg⟩ (by clear b1 b2 b3; omega) (by simp)
        · have hg : gtK (x1, x2) (y1, y2) = false := by rw [heq]; simp [c1, c3]
          have hex := hex hg
          simp (disch := (clear b1 b2 b3; omega)) [h0, wrap_i64, nrV_len, hxg, hog, h, c1, c3, b1, b2, b3, mn, ml]
          exact ih (i + 1) _ (by clear b1 b2 b3; omega) (by clear b1 b2 b3; omega) (by rw [hex]; simp [htk])
    · have : t = 0 := by omega
      subst this
      have b1 : (1 + o.length + 1000) * 40 ≤ 70368744177664 := by omega
      have hex := fin (.inl rfl)
      simp only [List.take_zero, List.drop_zero, List.nil_append] at hex
      have htk : (nrV g o).take o.length = nrV g o := List.take_of_length_le (by rw [nrV_len]; omega)
      simp (disch := (clear b1; omega)) [wrap_i64, nrV_len, hxg, h, b1, htk]
      exact ih (i + 1) _ (by clear b1; omega) (by clear b1; omega) (by rw [← hex]; simp [nrV, nearV, nrG])
  · have : l.take i = l := List.take_of_length_le (by omega)
    rw [this]
    simp [h, nrV_len]
    exact Ends.v rfl (by simp)

end Go.Proofs
