/- The walk. -/
import Derived.Test.YtlhpjeckaepdlaaSd3
import Derived.Test.YtlhpjeckaepdlaaProg
import Derived.KernelRfl
set_option linter.all false
set_option maxHeartbeats 2000000
namespace Go.Proofs
open Go Go.AM
attribute [local irreducible] Run Ends
/-- ablaut/transfer.edits -/
def c73 : MC :=
  .seq (.reg false [.op .none 4 (.mv (.c (.w (.int .i64 0))))]) <|
  .seq (.reg false [.op .none 5 (.alloc true (List.replicate 21 (.w (.int .i64 0)))),
    .op .none 6 (.alloc true (List.replicate 21 (.w (.int .i64 0))))]) <|
  .seq (.seq (.reg false [.op .none 13 (.mv (.c (.w (.int .i64 0))))]) <|
  .block 0 <|
    .loop <|
      .seq (.reg false [.op .none 14 (.bin .lss (.t 13) (.c (.w (.int .i64 21))))]) <|
      .seq (.cond (.t 14)
        (.skip)
        (.exit 0)) <|
      .seq (.block 1 <|
        .seq (.reg false [.op .none 15 (.mv (.t 13)),
          .op .none 7 (.mv (.t 15))]) <|
        .reg false [.op .none 16 (.mv (.t 7)),
          .op .none 17 (.mv (.t 7)),
          .op .none 18 (.iaA 21 1 (.t 5) (.t 16)),
          .store .none false 1 (.t 18) (.t 17)]) <|
      .reg false [.op .none 19 (.bin .add (.t 13) (.c (.w (.int .i64 1)))),
        .op .none 13 (.mv (.t 19))]) <|
  .seq (.seq (.reg false [.op .none 20 (.mv (.t 0)),
    .op .none 21 (.len false (.t 20)),
    .op .none 22 (.mv (.c (.w (.int .i64 0))))]) <|
  .block 2 <|
    .loop <|
      .seq (.reg false [.op .none 23 (.bin .lss (.t 22) (.t 21))]) <|
      .seq (.cond (.t 23)
        (.skip)
        (.exit 2)) <|
      .seq (.block 3 <|
        .seq (.reg false [.op .none 24 (.mv (.t 22)),
          .op .none 25 (.ia 1 (.t 20) (.t 22)),
          .op .none 26 (.ld false 1 (.t 25)),
          .op .none 8 (.mv (.t 24)),
          .op .none 9 (.mv (.t 26))]) <|
        .seq (.reg false [.op .none 27 (.mv (.t 8)),
          .op .none 28 (.bin .add (.t 27) (.c (.w (.int .i64 1)))),
          .op .none 29 (.iaA 21 1 (.t 6) (.c (.w (.int .i64 0)))),
          .store .none false 1 (.t 29) (.t 28)]) <|
        .seq (.seq (.reg false [.op .none 30 (.mv (.t 1)),
          .op .none 31 (.len false (.t 30)),
          .op .none 32 (.mv (.c (.w (.int .i64 0))))]) <|
        .block 4 <|
          .loop <|
            .seq (.reg false [.op .none 33 (.bin .lss (.t 32) (.t 31))]) <|
            .seq (.cond (.t 33)
              (.skip)
              (.exit 4)) <|
            .seq (.block 5 <|
              .seq (.reg false [.op .none 34 (.mv (.t 32)),
                .op .none 35 (.ia 1 (.t 30) (.t 32)),
                .op .none 36 (.ld false 1 (.t 35)),
                .op .none 10 (.mv (.t 34)),
                .op .none 11 (.mv (.t 36))]) <|
              .seq (.reg false [.op .none 37 (.mv (.t 10)),
                .op .none 38 (.iaA 21 1 (.t 5) (.t 37)),
                .op .none 39 (.ld false 1 (.t 38)),
                .op .none 12 (.mv (.t 39))]) <|
              .seq (.seq (.reg false [.op .none 40 (.mv (.t 9)),
                .op .none 41 (.mv (.t 11)),
                .op .none 42 (.bin .neq (.t 40) (.t 41))]) <|
              .cond (.t 42)
                (.reg true [.op .none 43 (.mv (.t 12)),
                  .op .none 44 (.mv (.t 10)),
                  .op .none 45 (.bin .add (.t 44) (.c (.w (.int .i64 1)))),
                  .op .none 46 (.iaA 21 1 (.t 5) (.t 45)),
                  .op .none 47 (.ld false 1 (.t 46)),
                  .op .none 48 (.mv (.t 10)),
                  .op .none 49 (.iaA 21 1 (.t 6) (.t 48)),
                  .op .none 50 (.ld false 1 (.t 49)),
                  .op .none 51 (.mm3 false (.t 43) (.t 47) (.t 50)),
                  .op .none 52 (.bin .add (.t 51) (.c (.w (.int .i64 1)))),
                  .op .none 12 (.mv (.t 52))])
                (.skip)) <|
              .reg false [.op .none 53 (.mv (.t 10)),
                .op .none 54 (.bin .add (.t 53) (.c (.w (.int .i64 1)))),
                .op .none 55 (.mv (.t 12)),
                .op .none 56 (.iaA 21 1 (.t 6) (.t 54)),
                .store .none false 1 (.t 56) (.t 55)]) <|
            .reg false [.op .none 57 (.bin .add (.t 32) (.c (.w (.int .i64 1)))),
              .op .none 32 (.mv (.t 57))]) <|
        .reg false [.op .none 58 (.ld true 21 (.t 6)),
          .store .none true 21 (.t 5) (.t 58)]) <|
      .reg false [.op .none 59 (.bin .add (.t 22) (.c (.w (.int .i64 1)))),
        .op .none 22 (.mv (.t 59))]) <|
  .seq (.reg false [.op .none 60 (.mv (.t 1)),
    .op .none 61 (.len false (.t 60)),
    .op .none 62 (.iaA 21 1 (.t 5) (.t 61)),
    .op .none 63 (.ld false 1 (.t 62)),
    .op .none 4 (.mv (.t 63))]) <|
  .ret
theorem k73 : FnCode Try.prog 73 [] 64 [4] c73 := ⟨Try.f73, Try.func73, fun xs W => Try.call73 xs W, by kernel_rfl, by kernel_rfl, by kernel_rfl⟩

def nxE (x : Bs) : List Int → List Bs → Int → List Int
  | d0 :: d1 :: ds, y :: b, cur => (if x = y then d0 else min (min d0 d1) cur + 1) :: nxE x (d1 :: ds) b (if x = y then d0 else min (min d0 d1) cur + 1)
  | _, _, _ => []
def rowE (x : Bs) (prev : List Int) (b : List Bs) (i : Nat) : List Int := ((i : Int) + 1) :: nxE x prev b ((i : Int) + 1)
def rowsE (b : List Bs) : List Bs → List Int → Nat → List Int
  | [], prev, _ => prev
  | x :: a, prev, i => rowsE b a (rowE x prev b i) (i + 1)
def row0 (n : Nat) : List Int := (List.range (n + 1)).map fun k : Nat => (k : Int)
def edF (a b : List Bs) : Int := (rowsE b a (row0 b.length) 0).getD b.length 0
theorem nxE_take (x : Bs) : ∀ (b : List Bs) (prev : List Int) (cur : Int), nxE x (prev.take (b.length + 1)) b cur = nxE x prev b cur
  | [], prev, cur => by
    cases prev with
    | nil => rfl
    | cons d ds => cases ds <;> simp [nxE]
  | y :: b, [], cur => rfl
  | y :: b, [d0], cur => rfl
  | y :: b, d0 :: d1 :: ds, cur => by
    have := nxE_take x b (d1 :: ds)
    simp only [List.length_cons, List.take_succ_cons] at this ⊢
    simp only [nxE]
    rw [this]
theorem nxE_len (x : Bs) : ∀ (b : List Bs) (prev : List Int) (cur : Int), b.length < prev.length → (nxE x prev b cur).length = b.length
  | [], prev, cur, _ => by
    cases prev with
    | nil => rfl
    | cons d ds => cases ds <;> simp [nxE]
  | y :: b, [], cur, h => by simp at h
  | y :: b, [d0], cur, h => by simp at h
  | y :: b, d0 :: d1 :: ds, cur, h => by
    simp only [nxE, List.length_cons]
    rw [nxE_len x b (d1 :: ds) _ (by simp at h ⊢; omega)]
theorem fok73 (a b : List Bs) (ha : a.length ≤ 20) (hb : b.length ≤ 20) : FOk Try.prog 73 [.v (.word a), .v (.word b)] [] (.I (edF a b)) [] := by
  refine FOk.val k73 (by simp) (by simp) (by decide) ?_
  generalize hres : edF a b = res
  simp [c73]
  obtain ⟨Z, hZ⟩ : ∃ Z : List Int, Z = List.replicate 21 0 := ⟨_, rfl⟩
  have hZl : Z.length = 21 := by rw [hZ]; simp
  refine Run.loopA (ι := Nat × List Int) [(1, 5), (2, 6)] (fun q => q.1 ≤ 21 ∧ q.2.length = 21 ∧ q.2.take q.1 = (List.range q.1).map fun k : Nat => (k : Int)) (fun q => ⟨[(0, .v (.word a)), (1, .v (.word b)), (5, .ptr 1 0 0), (6, .ptr 2 0 0), (13, .I q.1)], [(1, ⟨false, 21, [.st (q.2.map .i)]⟩), (2, ⟨false, 21, [.st (Z.map .i)]⟩)], 1024⟩) (fun q => 21 - q.1) (0, Z) (by decide) (by simp [hZ]) ⟨by simp, hZl, by simp⟩ ?_
  rintro ⟨i, L⟩ ⟨hi, hL, hall⟩ ih
  simp only at hi hL hall ih
  by_cases h : i < 21
  · have h' : i ≤ 20 := by omega
    simp (disch := omega) [h, h', wrap_i64, hL]
    refine ih (i + 1, L.take i ++ (i : Int) :: L.drop (i + 1)) _ ⟨by simp; omega, by simp [hL]; omega, ?_⟩ (by simp; omega) (by simp)
    simp only
    have hmi : min i L.length = i := by omega
    rw [List.range_succ, List.map_append, ← hall, List.take_append, List.take_of_length_le (by simp; omega)]
    simp [hmi]
  have hi21 : i = 21 := by omega
  subst hi21
  rw [List.take_of_length_le (by omega)] at hall
  have hrow : L.take (b.length + 1) = row0 b.length := by
    rw [hall]
    unfold row0
    rw [← List.map_take, List.take_range]
    congr 2
    omega
  have hbd : ∀ v ∈ L, 0 ≤ v ∧ v ≤ 20 := by
    rw [hall]
    intro v hv
    obtain ⟨k, hk, rfl⟩ := List.mem_map.1 hv
    rw [List.mem_range] at hk
    omega
  unfold edF at hres
  rw [← hrow] at hres
  clear hall hrow ih
  simp
  refine Run.loopA (ι := Nat × List Int × List Int) [(1, 5), (2, 6)] (fun q => q.1 ≤ a.length ∧ q.2.1.length = 21 ∧ q.2.2.length = 21 ∧ (∀ v ∈ q.2.1.take (b.length + 1), 0 ≤ v ∧ v ≤ 20 + q.1) ∧ (rowsE b (a.drop q.1) (q.2.1.take (b.length + 1)) q.1).getD b.length 0 = res) (fun q => ⟨[(1, .v (.word b)), (5, .ptr 1 0 0), (6, .ptr 2 0 0), (20, .v (.word a)), (21, .I a.length), (22, .I q.1)], [(1, ⟨false, 21, [.st (q.2.1.map .i)]⟩), (2, ⟨false, 21, [.st (q.2.2.map .i)]⟩)], 1024⟩) (fun q => a.length - q.1) (0, L, Z) (by decide) (by simp) ⟨by simp, hL, hZl, fun v hv => by have := hbd v (List.mem_of_mem_take hv); simp; omega, by simpa using hres⟩ ?_
  rintro ⟨i, Bf, Nw⟩ ⟨hi, hBf, hNw, hbd2, hall⟩ ih
  simp only at hi hBf hNw hbd2 hall ih
  clear hbd hres
  by_cases h : i < a.length
  case neg =>
    rw [drop_no h] at hall
    simp only [rowsE] at hall
    have hbl : b.length < Bf.length := by omega
    have hbl2 : b.length ≤ 20 := hb
    have e : (Bf.take (b.length + 1)).getD b.length 0 = Bf[b.length] := by simp [hbl]
    rw [e] at hall
    have hb3 : b.length < 21 := by omega
    simp (disch := omega) [h, hBf, hbl, hb3, hall]
    exact Ends.v rfl (by simp)
  have hbq : a.length ≤ 20 := ha
  simp (disch := omega) [h, wrap_i64, hBf, hNw]
  obtain ⟨w0, Ws, hWs⟩ : ∃ w0 Ws, Nw = w0 :: Ws := by
    cases Nw with
    | nil => simp at hNw
    | cons x y => exact ⟨x, y, rfl⟩
  subst hWs
  simp at hNw
  have hWB : ∀ x : Nat, x < 21 → b.length < 21 := fun _ _ => by omega
  refine Run.loopA (ι := Nat × List Int) [(1, 5), (2, 6)] (fun q => q.1 ≤ b.length ∧ q.2.length = 21 ∧ (∀ v ∈ q.2.take (q.1 + 1), 0 ≤ v ∧ v ≤ 20 + (i + 1)) ∧ q.2.take (q.1 + 1) ++ nxE a[i] (Bf.drop q.1) (b.drop q.1) (q.2.getD q.1 0) = rowE a[i] Bf b i) (fun q => ⟨[(1, .v (.word b)), (5, .ptr 1 0 0), (6, .ptr 2 0 0), (9, .v (.w (.string (bs a[i])))), (20, .v (.word a)), (21, .I a.length), (22, .I i), (30, .v (.word b)), (31, .I b.length), (32, .I q.1)], [(1, ⟨false, 21, [.st (Bf.map .i)]⟩), (2, ⟨false, 21, [.st (q.2.map .i)]⟩)], 1024⟩) (fun q => b.length - q.1) (0, ((i : Int) + 1) :: Ws) (by decide) (by simp) ⟨by simp, by simp; omega, by simp; omega, by simp [rowE]⟩ ?_
  rintro ⟨k, Nk⟩ ⟨hk, hNk, hbd3, hrow⟩ ih2
  simp only at hk hNk hbd3 hrow ih2
  by_cases h2 : k < b.length
  case neg =>
    have hke : k = b.length := by omega
    subst hke
    have e0 : nxE a[i] (Bf.drop b.length) (b.drop b.length) (Nk.getD b.length 0) = [] := by
      rw [List.drop_length]
      cases Bf.drop b.length with
      | nil => rfl
      | cons d ds => cases ds <;> rfl
    rw [e0, List.append_nil] at hrow
    clear ih2 hWB
    simp (disch := omega) [h2, hBf, hNk, wrap_i64]
    have e21 : (Nk.map PV.i).take 21 = Nk.map PV.i := List.take_of_length_le (by simp; omega)
    have e22 : (Bf.map PV.i).drop 21 = [] := List.drop_eq_nil_of_le (by simp; omega)
    refine ih (i + 1, Nk, Nk) _ ⟨by simp; omega, hNk, hNk, fun v hv => by have := hbd3 v hv; simp; omega, ?_⟩ (by simp; omega) (by simp [e21, e22])
    simp only
    rw [hrow, ← hall, drop_at h]
    simp only [rowsE, rowE, nxE_take]
  have h2' : ¬ b.length ≤ k := by omega
  have hk1 : k < Bf.length := by omega
  have hk2 : k + 1 < Bf.length := by omega
  have hk3 : k < Nk.length := by omega
  have hk4 : k < 21 := by omega
  have hk5 : k + 1 < 21 := by omega
  have hk6 : k + 1 < Nk.length := by omega
  have hk7 : k ≤ 19 := by omega
  have v1 : 0 ≤ Bf[k] ∧ Bf[k] ≤ 20 + i := hbd2 _ (List.mem_take_iff_getElem.2 ⟨k, by omega, rfl⟩)
  have v2 : 0 ≤ Bf[k + 1] ∧ Bf[k + 1] ≤ 20 + i := hbd2 _ (List.mem_take_iff_getElem.2 ⟨k + 1, by omega, rfl⟩)
  have v3 : 0 ≤ Nk[k] ∧ Nk[k] ≤ 20 + (i + 1) := hbd3 _ (List.mem_take_iff_getElem.2 ⟨k, by omega, rfl⟩)
  have eb : b.drop k = b[k] :: b.drop (k + 1) := drop_at h2
  have eB : Bf.drop k = Bf[k] :: Bf[k + 1] :: Bf.drop (k + 1 + 1) := by rw [drop_at hk1, drop_at hk2]
  have eB2 : Bf.drop (k + 1) = Bf[k + 1] :: Bf.drop (k + 1 + 1) := by rw [drop_at hk2]
  rw [eb, eB] at hrow
  simp only [nxE] at hrow
  have eN : Nk.getD k 0 = Nk[k] := by simp [hk3]
  rw [eN] at hrow
  have step : ∀ v : Int, 0 ≤ v → v ≤ 20 + (i + 1) → v = (if a[i] = b[k] then Bf[k] else min (min Bf[k] Bf[k + 1]) Nk[k] + 1) →
      (Nk.take (k + 1) ++ v :: Nk.drop (k + 1 + 1)).length = 21 ∧ (∀ x ∈ (Nk.take (k + 1) ++ v :: Nk.drop (k + 1 + 1)).take (k + 1 + 1), 0 ≤ x ∧ x ≤ 20 + (i + 1)) ∧ (Nk.take (k + 1) ++ v :: Nk.drop (k + 1 + 1)).take (k + 1 + 1) ++ nxE a[i] (Bf.drop (k + 1)) (b.drop (k + 1)) ((Nk.take (k + 1) ++ v :: Nk.drop (k + 1 + 1)).getD (k + 1) 0) = rowE a[i] Bf b i := by
    intro v hv0 hv1 hv
    have et : (Nk.take (k + 1) ++ v :: Nk.drop (k + 1 + 1)).take (k + 1 + 1) = Nk.take (k + 1) ++ [v] := by
      have : min (k + 1) Nk.length = k + 1 := by omega
      rw [List.take_append, List.take_of_length_le (by simp; omega)]
      simp [this]
    have eg : (Nk.take (k + 1) ++ v :: Nk.drop (k + 1 + 1)).getD (k + 1) 0 = v := by
      have : min (k + 1) Nk.length = k + 1 := by omega
      simp [List.getD, List.getElem?_append, this]
    refine ⟨by simp; omega, ?_, ?_⟩
    · rw [et]
      intro x hx
      rcases List.mem_append.1 hx with hx | hx
      · exact hbd3 x hx
      · have := List.mem_singleton.1 hx
        omega
    · rw [et, eg, List.append_assoc, List.singleton_append, ← hrow, eB2, ← hv]
  have heq : (a[i] = b[k]) ∨ ¬ (a[i] = b[k]) := Classical.em _
  rcases heq with heq | heq
  · simp (disch := omega) [h2, hBf, hNk, wrap_i64, heq, hk1, hk2, hk3, hk4, hk5, hk6, hk7]
    refine ih2 (k + 1, Nk.take (k + 1) ++ Bf[k] :: Nk.drop (k + 1 + 1)) _ ⟨by simp; omega, step _ (by omega) (by omega) (by rw [if_pos heq])⟩ (by simp; omega) (by simp [heq])
  · simp (disch := omega) [h2, hBf, hNk, wrap_i64, heq, hk1, hk2, hk3, hk4, hk5, hk6, hk7]
    refine ih2 (k + 1, Nk.take (k + 1) ++ (min Bf[k] (min Bf[k + 1] Nk[k]) + 1) :: Nk.drop (k + 1 + 1)) _ ⟨by simp; omega, step _ (by omega) (by omega) (by rw [if_neg heq]; omega)⟩ (by simp; omega) (by simp; repeat' split <;> omega)

end Go.Proofs
