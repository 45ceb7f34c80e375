/- The walk. -/
import Derived.Test.YtlhpjeckaepdlaaSd4
import Derived.Test.YtlhpjeckaepdlaaProg
import Derived.KernelRfl
set_option linter.all false
set_option maxHeartbeats 2000000
namespace Go.Proofs
open Go Go.AM
attribute [local irreducible] Run Ends
/-- ablaut/ablautref28.apart -/
def c79 : MC :=
  .seq (.reg false [.op .none 4 (.mv (.c (.w (.int .i64 0))))]) <|
  .seq (.reg false [.op .none 11 (.mv (.t 1)),
    .op .none 12 (.len false (.t 11)),
    .op .none 13 (.bin .add (.t 12) (.c (.w (.int .i64 1)))),
    .op .none 14 (.mkS 1 8 false [(.w (.int .i64 0))] (.t 13) (.t 13)),
    .op .none 5 (.mv (.t 14))]) <|
  .seq (.seq (.reg false [.op .none 6 (.mv (.c (.w (.int .i64 0))))]) <|
  .block 0 <|
    .loop <|
      .seq (.seq (.reg false [.op .none 15 (.mv (.t 6)),
        .op .none 16 (.mv (.t 1)),
        .op .none 17 (.len false (.t 16)),
        .op .none 18 (.bin .leq (.t 15) (.t 17))]) <|
      .cond (.t 18)
        (.skip)
        (.exit 0)) <|
      .seq (.block 1 <|
        .reg false [.op .none 21 (.mv (.t 5)),
          .op .none 22 (.mv (.t 6)),
          .op .none 23 (.mv (.t 6)),
          .op .none 24 (.ia 1 (.t 21) (.t 22)),
          .store .none false 1 (.t 24) (.t 23)]) <|
      .reg false [.op .none 19 (.mv (.t 6)),
        .op .none 20 (.bin .add (.t 19) (.c (.w (.int .i64 1)))),
        .op .none 6 (.mv (.t 20))]) <|
  .seq (.seq (.reg false [.op .none 7 (.mv (.c (.w (.int .i64 1))))]) <|
  .block 2 <|
    .loop <|
      .seq (.seq (.reg false [.op .none 25 (.mv (.t 7)),
        .op .none 26 (.mv (.t 0)),
        .op .none 27 (.len false (.t 26)),
        .op .none 28 (.bin .leq (.t 25) (.t 27))]) <|
      .cond (.t 28)
        (.skip)
        (.exit 2)) <|
      .seq (.block 3 <|
        .seq (.reg false [.op .none 31 (.mv (.t 1)),
          .op .none 32 (.len false (.t 31)),
          .op .none 33 (.bin .add (.t 32) (.c (.w (.int .i64 1)))),
          .op .none 34 (.mkS 1 8 false [(.w (.int .i64 0))] (.t 33) (.t 33)),
          .op .none 8 (.mv (.t 34))]) <|
        .seq (.reg false [.op .none 35 (.mv (.t 8)),
          .op .none 36 (.mv (.t 7)),
          .op .none 37 (.ia 1 (.t 35) (.c (.w (.int .i64 0)))),
          .store .none false 1 (.t 37) (.t 36)]) <|
        .seq (.seq (.reg false [.op .none 9 (.mv (.c (.w (.int .i64 1))))]) <|
        .block 4 <|
          .loop <|
            .seq (.seq (.reg false [.op .none 38 (.mv (.t 9)),
              .op .none 39 (.mv (.t 1)),
              .op .none 40 (.len false (.t 39)),
              .op .none 41 (.bin .leq (.t 38) (.t 40))]) <|
            .cond (.t 41)
              (.skip)
              (.exit 4)) <|
            .seq (.block 5 <|
              .seq (.reg false [.op .none 44 (.mv (.t 5)),
                .op .none 45 (.mv (.t 9)),
                .op .none 46 (.bin .sub (.t 45) (.c (.w (.int .i64 1)))),
                .op .none 47 (.ia 1 (.t 44) (.t 46)),
                .op .none 48 (.ld false 1 (.t 47)),
                .op .none 10 (.mv (.t 48))]) <|
              .seq (.seq (.reg true [.op .none 49 (.mv (.t 0)),
                .op .none 50 (.mv (.t 7)),
                .op .none 51 (.bin .sub (.t 50) (.c (.w (.int .i64 1)))),
                .op .none 52 (.ia 1 (.t 49) (.t 51)),
                .op .none 53 (.ld false 1 (.t 52)),
                .op .none 54 (.mv (.t 1)),
                .op .none 55 (.mv (.t 9)),
                .op .none 56 (.bin .sub (.t 55) (.c (.w (.int .i64 1)))),
                .op .none 57 (.ia 1 (.t 54) (.t 56)),
                .op .none 58 (.ld false 1 (.t 57)),
                .op .none 59 (.bin .neq (.t 53) (.t 58))]) <|
              .cond (.t 59)
                (.reg false [.op .none 60 (.mv (.t 10)),
                  .op .none 61 (.bin .add (.t 60) (.c (.w (.int .i64 1)))),
                  .op .none 10 (.mv (.t 61))])
                (.skip)) <|
              .reg true [.op .none 62 (.mv (.t 8)),
                .op .none 63 (.mv (.t 9)),
                .op .none 64 (.mv (.t 10)),
                .op .none 65 (.mv (.t 5)),
                .op .none 66 (.mv (.t 9)),
                .op .none 67 (.ia 1 (.t 65) (.t 66)),
                .op .none 68 (.ld false 1 (.t 67)),
                .op .none 69 (.bin .add (.t 68) (.c (.w (.int .i64 1)))),
                .op .none 70 (.mv (.t 8)),
                .op .none 71 (.mv (.t 9)),
                .op .none 72 (.bin .sub (.t 71) (.c (.w (.int .i64 1)))),
                .op .none 73 (.ia 1 (.t 70) (.t 72)),
                .op .none 74 (.ld false 1 (.t 73)),
                .op .none 75 (.bin .add (.t 74) (.c (.w (.int .i64 1)))),
                .op .none 76 (.mm3 false (.t 64) (.t 69) (.t 75)),
                .op .none 77 (.ia 1 (.t 62) (.t 63)),
                .store .none false 1 (.t 77) (.t 76)]) <|
            .reg false [.op .none 42 (.mv (.t 9)),
              .op .none 43 (.bin .add (.t 42) (.c (.w (.int .i64 1)))),
              .op .none 9 (.mv (.t 43))]) <|
        .reg false [.op .none 78 (.mv (.t 8)),
          .op .none 5 (.mv (.t 78))]) <|
      .reg false [.op .none 29 (.mv (.t 7)),
        .op .none 30 (.bin .add (.t 29) (.c (.w (.int .i64 1)))),
        .op .none 7 (.mv (.t 30))]) <|
  .seq (.reg false [.op .none 79 (.mv (.t 5)),
    .op .none 80 (.mv (.t 1)),
    .op .none 81 (.len false (.t 80)),
    .op .none 82 (.ia 1 (.t 79) (.t 81)),
    .op .none 83 (.ld false 1 (.t 82)),
    .op .none 4 (.mv (.t 83))]) <|
  .ret
theorem k79 : FnCode Try.prog 79 [] 84 [4] c79 := ⟨Try.f79, Try.func79, fun xs W => Try.call79 xs W, by kernel_rfl, by kernel_rfl, by kernel_rfl⟩

def AdjE : List Int → Prop
  | a :: b :: l => a ≤ b + 1 ∧ b ≤ a + 1 ∧ AdjE (b :: l)
  | _ => True
def NearE : List Int → List Int → Prop
  | a :: l, b :: m => a ≤ b + 1 ∧ b ≤ a + 1 ∧ NearE l m
  | _, _ => True
theorem AdjE_at : ∀ (l : List Int) (k : Nat) (h : k + 1 < l.length), AdjE l → l[k] ≤ l[k + 1] + 1 ∧ l[k + 1] ≤ l[k] + 1
  | [], k, h, _ => by simp at h
  | [_], k, h, _ => by simp at h
  | a :: b :: l, 0, _, ha => ⟨ha.1, ha.2.1⟩
  | a :: b :: l, k + 1, h, ha => AdjE_at (b :: l) k (by simp at h ⊢; omega) ha.2.2
theorem NearE_at : ∀ (l m : List Int) (k : Nat) (h : k < l.length) (h2 : k < m.length), NearE l m → l[k] ≤ m[k] + 1 ∧ m[k] ≤ l[k] + 1
  | [], _, k, h, _, _ => by simp at h
  | _ :: _, [], k, _, h2, _ => by simp at h2
  | a :: l, b :: m, 0, _, _, ha => ⟨ha.1, ha.2.1⟩
  | a :: l, b :: m, k + 1, h, h2, ha => NearE_at l m k (by simp at h ⊢; omega) (by simp at h2 ⊢; omega) ha.2.2
theorem nxE_good (x : Bs) (M : Int) : ∀ (b : List Bs) (d0 : Int) (ds : List Int) (cur : Int), AdjE (d0 :: ds) → d0 ≤ cur + 1 → cur ≤ d0 + 1 → (∀ v ∈ d0 :: ds, 0 ≤ v ∧ v ≤ M) → 0 ≤ cur → cur ≤ M + 1 → AdjE (cur :: nxE x (d0 :: ds) b cur) ∧ NearE (d0 :: ds) (cur :: nxE x (d0 :: ds) b cur) ∧ ∀ v ∈ nxE x (d0 :: ds) b cur, 0 ≤ v ∧ v ≤ M + 1
  | [], d0, ds, cur, ha, h1, h2, hv, h3, h4 => by
    have e : nxE x (d0 :: ds) [] cur = [] := by cases ds <;> rfl
    rw [e]
    exact ⟨trivial, ⟨h1, h2, by cases ds <;> trivial⟩, by simp⟩
  | y :: b, d0, [], cur, ha, h1, h2, hv, h3, h4 => by
    simp only [nxE]
    exact ⟨trivial, ⟨h1, h2, trivial⟩, by simp⟩
  | y :: b, d0, d1 :: ds, cur, ha, h1, h2, hv, h3, h4 => by
    simp only [nxE]
    have hd0 := hv d0 (by simp)
    have hd1 := hv d1 (by simp)
    have ha1 := ha.1
    have ha2 := ha.2.1
    obtain ⟨v, hvv⟩ : ∃ v, v = (if x = y then d0 else min (min d0 d1) cur + 1) := ⟨_, rfl⟩
    rw [← hvv]
    have hr : d1 ≤ v + 1 ∧ v ≤ d1 + 1 ∧ cur ≤ v + 1 ∧ v ≤ cur + 1 ∧ 0 ≤ v ∧ v ≤ M + 1 := by
      split at hvv <;> omega
    have ih := nxE_good x M b d1 ds v ha.2.2 hr.1 hr.2.1 (fun u hu => hv u (List.mem_cons_of_mem _ hu)) hr.2.2.2.2.1 hr.2.2.2.2.2
    refine ⟨⟨hr.2.2.1, hr.2.2.2.1, ih.1⟩, ⟨h1, h2, ih.2.1⟩, fun u hu => ?_⟩
    rcases List.mem_cons.1 hu with rfl | hu
    · exact hr.2.2.2.2
    · exact ih.2.2 u hu
theorem nxE_at (x : Bs) : ∀ (b : List Bs) (d0 : Int) (ds : List Int) (cur : Int) (k : Nat) (hk : k < b.length) (hp : b.length ≤ ds.length), (cur :: nxE x (d0 :: ds) b cur)[k + 1]? = some (if x = b[k] then (d0 :: ds)[k]'(by simp; omega) else min (min ((d0 :: ds)[k]'(by simp; omega)) (ds[k]'(by omega))) ((cur :: nxE x (d0 :: ds) b cur).getD k 0) + 1)
  | [], _, _, _, _, hk, _ => by simp at hk
  | y :: b, d0, [], cur, _, _, hp => by simp at hp
  | y :: b, d0, d1 :: ds, cur, 0, _, _ => by simp [nxE]
  | y :: b, d0, d1 :: ds, cur, k + 1, hk, hp => by
    have ih := nxE_at x b d1 ds (if x = y then d0 else min (min d0 d1) cur + 1) k (by simp at hk; omega) (by simp at hp; omega)
    simp only [nxE, List.getElem?_cons_succ, List.getElem_cons_succ, List.getD_cons_succ] at ih ⊢
    exact ih
structure GdE (n : Nat) (i : Nat) (P : List Int) : Prop where
  len : P.length = n + 1
  hd : P.head? = some (i : Int)
  adj : AdjE P
  bd : ∀ v ∈ P, 0 ≤ v ∧ v ≤ 20 + i
theorem GdE.step {x : Bs} {b : List Bs} {i : Nat} {P : List Int} (h : GdE b.length i P) : GdE b.length (i + 1) (rowE x P b i) ∧ NearE P (rowE x P b i) ∧ ∀ (k : Nat) (hk : k < b.length), (rowE x P b i)[k + 1]? = some (if x = b[k] then P.getD k 0 else min (min (P.getD k 0) (P.getD (k + 1) 0)) ((rowE x P b i).getD k 0) + 1) := by
  obtain ⟨d0, ds, rfl⟩ : ∃ d0 ds, P = d0 :: ds := by
    cases P with
    | nil => have := h.len; simp at this
    | cons x y => exact ⟨x, y, rfl⟩
  have e : d0 = i := by simpa using h.hd
  have hl := h.len
  simp at hl
  have g := nxE_good x (20 + i) b d0 ds (i + 1) h.adj (by omega) (by omega) h.bd (by omega) (by omega)
  refine ⟨⟨?_, by simp [rowE], g.1, fun v hv => ?_⟩, g.2.1, fun k hk => ?_⟩
  · simp only [rowE, List.length_cons]
    rw [nxE_len _ _ _ _ (by simp; omega)]
  · unfold rowE at hv
    rcases List.mem_cons.1 hv with rfl | hv
    · simp; omega
    · have := g.2.2 v hv; simp; omega
  · have := nxE_at x b d0 ds (i + 1) k hk (by omega)
    unfold rowE
    rw [this]
    have e1 : k < (d0 :: ds).length := by simp; omega
    have e2 : k < ds.length := by omega
    simp only [List.getD, List.getElem?_eq_getElem e1, List.getElem?_cons_succ, List.getElem?_eq_getElem e2, Option.getD_some]
theorem gdE0 : ∀ n, n ≤ 20 → GdE n 0 (row0 n) := by
  intro n hn
  refine ⟨by simp [row0], by simp [row0, List.range_succ_eq_map], ?_, fun v hv => ?_⟩
  · unfold row0
    generalize n + 1 = m
    have : ∀ (m k : Nat), AdjE ((List.range' k m).map fun k : Nat => (k : Int)) := by
      intro m
      induction m with
      | zero => intro k; trivial
      | succ m ih =>
        intro k
        cases m with
        | zero => trivial
        | succ m =>
          have := ih (k + 1)
          rw [List.range'_succ, List.range'_succ] at *
          simp only [List.map_cons] at this ⊢
          exact ⟨by omega, by omega, this⟩
    rw [List.range_eq_range']
    exact this m 0
  · obtain ⟨k, hk, rfl⟩ := List.mem_map.1 hv
    rw [List.mem_range] at hk
    omega

theorem take_set_succ {α : Type} (L : List α) (k : Nat) (v : α) (h : k < L.length) : (L.set k v).take (k + 1) = L.take k ++ [v] := by
  rw [List.set_eq_take_append_cons_drop, if_pos h, List.take_append, List.take_of_length_le (by simp; omega)]
  have hmi : min k L.length = k := by omega
  simp [hmi]
theorem fok79 (a b : List Bs) (ha : a.length ≤ 20) (hb : b.length ≤ 20) : FOk Try.prog 79 [.v (.word a), .v (.word b)] [] (.I (edF a b)) [] := by
  refine FOk.val k79 (by simp) (by simp) (by decide) ?_
  unfold edF
  have g0 := gdE0 b.length hb
  generalize hres : (rowsE b a (row0 b.length) 0).getD b.length 0 = res
  have hm1 : ((b.length : Int) + 1) * 8 ≤ 70368744177664 := by omega
  have hm2 : (b.length : Int) + 1 ≤ 1000000000000 := by omega
  have hm3 : ¬ ((b.length : Int) + 1 < 0) := by omega
  simp (disch := (clear hm1; omega)) [c79, wrap_i64, hm1, hm2]
  obtain ⟨Z, hZ⟩ : ∃ Z : List Int, Z = List.replicate (b.length + 1) 0 := ⟨_, rfl⟩
  have hZl : Z.length = b.length + 1 := by rw [hZ]; simp
  refine Run.loopA (ι := Nat × List Int) [(1, 5)] (fun q => q.1 ≤ b.length + 1 ∧ q.2.length = b.length + 1 ∧ q.2.take q.1 = (List.range q.1).map fun k : Nat => (k : Int)) (fun q => ⟨[(0, .v (.word a)), (1, .v (.word b)), (5, .h 1), (6, .I q.1)], [(1, ⟨false, 1, q.2.map .i⟩)], 1024⟩) (fun q => b.length + 1 - q.1) (0, Z) (by decide) (by simp [PV.i, hZ]) ⟨by simp, hZl, by simp⟩ ?_
  rintro ⟨k, L⟩ ⟨hk, hL, hall⟩ ih
  simp only at hk hL hall ih
  by_cases h : k ≤ b.length
  · have h' : ¬ b.length < k := by omega
    have hi : k < L.length := by omega
    simp (disch := (clear hm1; omega)) [h, h', hi, wrap_i64]
    refine ih (k + 1, L.set k (k : Int)) _ ⟨by simp; omega, by simp [hL], ?_⟩ (by simp; omega) (by simp)
    simp only
    rw [List.range_succ, List.map_append, ← hall, take_set_succ _ _ _ hi]
    rfl
  have hk' : k = b.length + 1 := by omega
  subst hk'
  rw [List.take_of_length_le (by omega)] at hall
  have hr0 : L = row0 b.length := by rw [hall]; rfl
  subst hr0
  clear ih hall
  have hn : ¬ (b.length : Int) + 1 ≤ b.length := by omega
  have hn2 : (b.length : Int) < b.length + 1 := by omega
  simp (disch := (clear hm1; omega)) [wrap_i64, hn, hn2]
  refine Run.loopA (ι := Nat × List Int) [(1, 5)] (fun q => q.1 ≤ a.length ∧ GdE b.length q.1 q.2 ∧ (rowsE b (a.drop q.1) q.2 q.1).getD b.length 0 = res) (fun q => ⟨[(0, .v (.word a)), (1, .v (.word b)), (5, .h 1), (7, .I ((q.1 : Int) + 1))], [(1, ⟨false, 1, q.2.map .i⟩)], 1024⟩) (fun q => a.length - q.1) (0, row0 b.length) (by decide) (by simp) ⟨by simp, g0, by simpa using hres⟩ ?_
  rintro ⟨i, P⟩ ⟨hi, hg, hall⟩ ih
  simp only at hi hg hall ih
  have hPl := hg.len
  by_cases h : i < a.length
  case neg =>
    rw [drop_no h] at hall
    simp only [rowsE] at hall
    have hbl : b.length < P.length := by omega
    have e : P.getD b.length 0 = P[b.length] := by simp [hbl]
    rw [e] at hall
    have h1 : ¬ (i : Int) + 1 ≤ a.length := by omega
    have h2 : (a.length : Int) < i + 1 := by omega
    simp (disch := (clear hm1; omega)) [h, h1, h2, hPl, hbl, hall]
    exact Ends.v rfl (by simp)
  have h1 : (i : Int) + 1 ≤ a.length := by omega
  have h2 : ¬ (a.length : Int) < i + 1 := by omega
  simp (disch := (clear hm1; omega)) [h, h1, h2, hPl, wrap_i64, hm1, hm2]
  obtain ⟨hgR, hnear, hstep⟩ := hg.step (x := a[i])
  rw [drop_at h] at hall
  simp only [rowsE] at hall
  generalize hR : rowE a[i] P b i = R at hgR hnear hstep hall
  have hRl := hgR.len
  have hR0 : R.take 1 = [(i : Int) + 1] := by rw [← hR]; simp [rowE]
  clear hR
  obtain ⟨N0, hN0⟩ : ∃ N0 : List Int, N0 = (List.replicate (b.length + 1) 0).set 0 ((i : Int) + 1) := ⟨_, rfl⟩
  have hN0l : N0.length = b.length + 1 := by rw [hN0]; simp
  have hN0t : N0.take 1 = [(i : Int) + 1] := by rw [hN0]; simp [List.replicate_succ]
  refine Run.loopA (ι := Nat × List Int) [(1, 5), (2, 8)] (fun q => q.1 ≤ b.length ∧ q.2.length = b.length + 1 ∧ q.2.take (q.1 + 1) = R.take (q.1 + 1)) (fun q => ⟨[(0, .v (.word a)), (1, .v (.word b)), (5, .h 1), (7, .I ((i : Int) + 1)), (8, .h 2), (9, .I ((q.1 : Int) + 1))], [(1, ⟨false, 1, P.map .i⟩), (2, ⟨false, 1, q.2.map .i⟩)], 1024⟩) (fun q => b.length - q.1) (0, N0) (by decide) (by simp [hN0]) ⟨by simp, hN0l, by rw [hN0t, hR0]⟩ ?_
  rintro ⟨j, N⟩ ⟨hj, hNl, htk⟩ ih2
  simp only at hj hNl htk ih2
  by_cases h3 : j < b.length
  case neg =>
    have hje : j = b.length := by omega
    subst hje
    rw [List.take_of_length_le (by omega), List.take_of_length_le (by omega)] at htk
    subst htk
    clear ih2
    have h4 : ¬ (b.length : Int) + 1 ≤ b.length := by omega
    have h5 : (b.length : Int) < b.length + 1 := by omega
    simp (disch := (clear hm1; omega)) [h4, h5, wrap_i64]
    refine ih (i + 1, N) _ ⟨by simp; omega, hgR, hall⟩ (by simp; omega) (by simp)
  have h4 : (j : Int) + 1 ≤ b.length := by omega
  have h5 : ¬ (b.length : Int) < j + 1 := by omega
  have k1 : j < P.length := by omega
  have k2 : j + 1 < P.length := by omega
  have k3 : j < N.length := by omega
  have k4 : j + 1 < N.length := by omega
  have k5 : j < R.length := by omega
  have k6 : j + 1 < R.length := by omega
  have eN : N[j] = R[j] := by
    have : (N.take (j + 1))[j]? = (R.take (j + 1))[j]? := by rw [htk]
    simpa [k3, k5] using this
  have hs := hstep j h3
  simp only [List.getD, List.getElem?_eq_getElem k1, List.getElem?_eq_getElem k2, List.getElem?_eq_getElem k5, List.getElem?_eq_getElem k6, Option.getD_some, Option.some.injEq] at hs
  have a1 := AdjE_at P j k2 hg.adj
  have a2 := NearE_at P R j k1 k5 hnear
  have b1 := hg.bd _ (List.getElem_mem k1)
  have b2 := hg.bd _ (List.getElem_mem k2)
  have b3 := hgR.bd _ (List.getElem_mem k5)
  have done : ∀ v : Int, v = R[j + 1] → (N.set (j + 1) v).take (j + 1 + 1) = R.take (j + 1 + 1) := by
    intro v hv
    rw [take_set_succ _ _ _ k4, htk, hv]
    simp [List.take_succ, k6]
  rcases Classical.em (a[i] = b[j]) with heq | heq
  · simp (disch := (clear hm1; omega)) [h3, h4, h5, k1, k2, k3, k4, wrap_i64, heq]
    rw [if_pos heq] at hs
    refine ih2 (j + 1, N.set (j + 1) R[j + 1]) _ ⟨by simp; omega, by simp [hNl], done _ rfl⟩ (by simp; omega) (by simp [eN, hs]; congr 3; repeat' split <;> omega)
  · simp (disch := (clear hm1; omega)) [h3, h4, h5, k1, k2, k3, k4, wrap_i64, heq]
    rw [if_neg heq] at hs
    refine ih2 (j + 1, N.set (j + 1) R[j + 1]) _ ⟨by simp; omega, by simp [hNl], done _ rfl⟩ (by simp; omega) (by simp [eN, hs]; congr 3; repeat' split <;> omega)

end Go.Proofs
