/- The walk. -/
import Derived.Test.YtepjlojlkionfaaRo5
import Derived.Test.YtepjlojlkionfaaProg
import Derived.KernelRfl
set_option linter.all false
set_option maxHeartbeats 2000000
namespace Go.Proofs
open Go Go.AM
attribute [local irreducible] Run Ends
/-- ablaut/row.Cost -/
def c20 : MC :=
  .seq (.reg false [.op .none 3 (.box false (.t 0)),
    .op .none 6 (.mv (.c (.w (.int .i64 0)))),
    .op .none 7 (.mv (.c (.w (.bool false)))),
    .op .none 8 (.mv (.c (.w (.int .i64 0))))]) <|
  .seq (.seq (.reg false [.op .none 19 (.ld true 6 (.t 3)),
    .op .none 20 (.mv (.t 1)),
    .call .none 21 (.f 42) [(.t 19), (.t 20)],
    .op .none 9 (.mv (.t 21))]) <|
  .seq (.reg false [.op .none 22 (.mv (.t 9)),
    .op .none 23 (.bin .neq (.t 22) (.c (.w (.int .i64 0))))]) <|
  .cond (.t 23)
    (.seq (.reg false [.op .none 24 (.mv (.t 9)),
      .op .none 6 (.mv (.c (.w (.int .i64 0)))),
      .op .none 7 (.mv (.c (.w (.bool false)))),
      .op .none 8 (.mv (.t 24))]) <|
    .ret)
    (.skip)) <|
  .seq (.seq (.reg false [.op .none 25 (.mv (.t 2)),
    .op .none 26 (.len false (.t 25)),
    .op .none 27 (.mv (.t 1)),
    .op .none 28 (.len false (.t 27)),
    .op .none 29 (.bin .neq (.t 26) (.t 28))]) <|
  .cond (.t 29)
    (.seq (.reg false [.op .none 6 (.mv (.c (.w (.int .i64 0)))),
      .op .none 7 (.mv (.c (.w (.bool false)))),
      .op .none 8 (.mv (.c (.w (.int .i64 10))))]) <|
    .ret)
    (.skip)) <|
  .seq (.reg false [.op .none 10 (.nilS 1)]) <|
  .seq (.seq (.reg false [.op .none 30 (.mv (.t 2)),
    .op .none 31 (.len false (.t 30)),
    .op .none 32 (.mv (.c (.w (.int .i64 0))))]) <|
  .block 0 <|
    .loop <|
      .seq (.reg false [.op .none 33 (.bin .lss (.t 32) (.t 31))]) <|
      .seq (.cond (.t 33)
        (.skip)
        (.exit 0)) <|
      .seq (.block 1 <|
        .seq (.reg false [.op .none 34 (.ia 1 (.t 30) (.t 32)),
          .op .none 35 (.ld false 1 (.t 34)),
          .op .none 12 (.mv (.t 35))]) <|
        .seq (.reg false [.op .none 36 (.fa 0 (.t 3)),
          .op .none 37 (.ld false 1 (.t 36)),
          .op .none 38 (.mv (.t 12)),
          .call .none 39 (.f 51) [(.t 37), (.t 38)],
          .op .none 13 (.mv (.t 39))]) <|
        .seq (.seq (.reg false [.op .none 40 (.mv (.t 13)),
          .op .none 41 (.bin .lss (.t 40) (.c (.w (.int .i64 0))))]) <|
        .cond (.t 41)
          (.seq (.reg false [.op .none 6 (.mv (.c (.w (.int .i64 0)))),
            .op .none 7 (.mv (.c (.w (.bool false)))),
            .op .none 8 (.mv (.c (.w (.int .i64 4))))]) <|
          .ret)
          (.skip)) <|
        .reg false [.op .none 42 (.mv (.t 10)),
          .op .none 43 (.mv (.t 13)),
          .op .none 44 (.buildS false 1 1 false [(.w (.int .i64 0))] [(0, (.t 43))]),
          .op .none 45 (.app 1 8 (.t 42) (.t 44)),
          .op .none 10 (.mv (.t 45))]) <|
      .reg false [.op .none 46 (.bin .add (.t 32) (.c (.w (.int .i64 1)))),
        .op .none 32 (.mv (.t 46))]) <|
  .seq (.reg false [.op .none 14 (.mv (.c (.w (.int .i64 0)))),
    .op .none 15 (.mv (.c (.w (.int .i64 (-1)))))]) <|
  .seq (.seq (.reg false [.op .none 47 (.mv (.t 10)),
    .op .none 48 (.len false (.t 47)),
    .op .none 49 (.mv (.c (.w (.int .i64 0))))]) <|
  .block 2 <|
    .loop <|
      .seq (.reg false [.op .none 50 (.bin .lss (.t 49) (.t 48))]) <|
      .seq (.cond (.t 50)
        (.skip)
        (.exit 2)) <|
      .seq (.block 3 <|
        .seq (.reg false [.op .none 51 (.mv (.t 49)),
          .op .none 52 (.ia 1 (.t 47) (.t 49)),
          .op .none 53 (.ld false 1 (.t 52)),
          .op .none 16 (.mv (.t 51)),
          .op .none 17 (.mv (.t 53))]) <|
        .seq (.reg true [.op .none 54 (.ld true 6 (.t 3)),
          .op .none 55 (.mv (.t 1)),
          .op .none 56 (.mv (.t 16)),
          .op .none 57 (.ia 1 (.t 55) (.t 56)),
          .op .none 58 (.ld false 1 (.t 57)),
          .call .none 59 (.f 44) [(.t 54), (.t 58)],
          .op .none 60 (.mv (.t 17)),
          .op .none 61 (.ia 1 (.t 59) (.t 60)),
          .op .none 62 (.ld false 1 (.t 61)),
          .op .none 18 (.mv (.t 62))]) <|
        .seq (.seq (.reg false [.op .none 63 (.mv (.t 18)),
          .op .none 64 (.bin .lss (.t 63) (.c (.w (.int .i64 0))))]) <|
        .cond (.t 64)
          (.seq (.reg false [.op .none 6 (.mv (.c (.w (.int .i64 0)))),
            .op .none 7 (.mv (.c (.w (.bool false)))),
            .op .none 8 (.mv (.c (.w (.int .i64 0))))]) <|
          .ret)
          (.skip)) <|
        .seq (.reg false [.op .none 65 (.mv (.t 14)),
          .op .none 66 (.mv (.t 18)),
          .op .none 67 (.ld true 6 (.t 3)),
          .op .none 68 (.mv (.t 15)),
          .op .none 69 (.mv (.t 17)),
          .call .none 70 (.f 45) [(.t 67), (.t 68), (.t 69)],
          .op .none 71 (.bin .add (.t 66) (.t 70)),
          .op .none 72 (.bin .add (.t 65) (.t 71)),
          .op .none 14 (.mv (.t 72))]) <|
        .reg false [.op .none 73 (.mv (.t 17)),
          .op .none 15 (.mv (.t 73))]) <|
      .reg false [.op .none 74 (.bin .add (.t 49) (.c (.w (.int .i64 1)))),
        .op .none 49 (.mv (.t 74))]) <|
  .seq (.seq (.reg false [.op .none 75 (.mv (.t 15)),
    .op .none 76 (.bin .geq (.t 75) (.c (.w (.int .i64 0))))]) <|
  .cond (.t 76)
    (.reg false [.op .none 77 (.mv (.t 14)),
      .op .none 78 (.fa 2 (.t 3)),
      .op .none 79 (.ld false 1 (.t 78)),
      .op .none 80 (.mv (.t 15)),
      .op .none 81 (.ia 1 (.t 79) (.t 80)),
      .op .none 82 (.ld false 1 (.t 81)),
      .op .none 83 (.bin .add (.t 77) (.t 82)),
      .op .none 14 (.mv (.t 83))])
    (.skip)) <|
  .seq (.reg false [.op .none 84 (.mv (.t 14)),
    .op .none 6 (.mv (.t 84)),
    .op .none 7 (.mv (.c (.w (.bool true)))),
    .op .none 8 (.mv (.c (.w (.int .i64 0))))]) <|
  .ret
theorem k20 : FnCode Try.prog 20 [] 85 [6, 7, 8] c20 := ⟨Try.f20, Try.func20, fun xs W => Try.call20 xs W, by kernel_rfl, by kernel_rfl, by kernel_rfl⟩

/-- ablaut/ablautref19.Cost -/
def c21 : MC :=
  .seq (.reg false [.op .none 3 (.box false (.t 0)),
    .op .none 6 (.mv (.c (.w (.int .i64 0)))),
    .op .none 7 (.mv (.c (.w (.bool false)))),
    .op .none 8 (.mv (.c (.w (.int .i64 0))))]) <|
  .seq (.seq (.reg false [.op .none 15 (.ld true 6 (.t 3)),
    .op .none 16 (.mv (.t 1)),
    .call .none 17 (.f 38) [(.t 15), (.t 16)],
    .op .none 9 (.mv (.t 17))]) <|
  .seq (.reg false [.op .none 18 (.mv (.t 9)),
    .op .none 19 (.bin .neq (.t 18) (.c (.w (.int .i64 0))))]) <|
  .cond (.t 19)
    (.seq (.reg false [.op .none 20 (.mv (.t 9)),
      .op .none 6 (.mv (.c (.w (.int .i64 0)))),
      .op .none 7 (.mv (.c (.w (.bool false)))),
      .op .none 8 (.mv (.t 20))]) <|
    .ret)
    (.skip)) <|
  .seq (.seq (.reg false [.op .none 21 (.mv (.t 1)),
    .op .none 22 (.len false (.t 21)),
    .op .none 23 (.mv (.t 2)),
    .op .none 24 (.len false (.t 23)),
    .op .none 25 (.bin .neq (.t 22) (.t 24))]) <|
  .cond (.t 25)
    (.seq (.reg false [.op .none 6 (.mv (.c (.w (.int .i64 0)))),
      .op .none 7 (.mv (.c (.w (.bool false)))),
      .op .none 8 (.mv (.c (.w (.int .i64 10))))]) <|
    .ret)
    (.skip)) <|
  .seq (.seq (.reg false [.op .none 26 (.mv (.t 2)),
    .op .none 27 (.fa 0 (.t 3)),
    .op .none 28 (.ld false 1 (.t 27)),
    .call .none 29 (.f 52) [(.t 26), (.t 28)],
    .op .none 30 (.un .not (.t 29))]) <|
  .cond (.t 30)
    (.seq (.reg false [.op .none 6 (.mv (.c (.w (.int .i64 0)))),
      .op .none 7 (.mv (.c (.w (.bool false)))),
      .op .none 8 (.mv (.c (.w (.int .i64 4))))]) <|
    .ret)
    (.skip)) <|
  .seq (.reg false [.op .none 10 (.mv (.c (.w (.int .i64 0)))),
    .op .none 11 (.mv (.c (.w (.int .i64 (-1)))))]) <|
  .seq (.seq (.reg false [.op .none 12 (.mv (.c (.w (.int .i64 0))))]) <|
  .block 0 <|
    .loop <|
      .seq (.seq (.reg false [.op .none 31 (.mv (.t 12)),
        .op .none 32 (.mv (.t 1)),
        .op .none 33 (.len false (.t 32)),
        .op .none 34 (.bin .lss (.t 31) (.t 33))]) <|
      .cond (.t 34)
        (.skip)
        (.exit 0)) <|
      .seq (.block 1 <|
        .seq (.reg false [.op .none 13 (.mv (.c (.w (.int .i64 0))))]) <|
        .seq (.block 2 <|
          .loop <|
            .seq (.seq (.reg true [.op .none 37 (.fa 0 (.t 3)),
              .op .none 38 (.ld false 1 (.t 37)),
              .op .none 39 (.mv (.t 13)),
              .op .none 40 (.ia 1 (.t 38) (.t 39)),
              .op .none 41 (.ld false 1 (.t 40)),
              .op .none 42 (.mv (.t 2)),
              .op .none 43 (.mv (.t 12)),
              .op .none 44 (.ia 1 (.t 42) (.t 43)),
              .op .none 45 (.ld false 1 (.t 44)),
              .op .none 46 (.bin .neq (.t 41) (.t 45))]) <|
            .cond (.t 46)
              (.skip)
              (.exit 2)) <|
            .block 3 <|
              .reg false [.op .none 47 (.mv (.t 13)),
                .op .none 48 (.bin .add (.t 47) (.c (.w (.int .i64 1)))),
                .op .none 13 (.mv (.t 48))]) <|
        .seq (.reg true [.op .none 49 (.ld true 6 (.t 3)),
          .op .none 50 (.mv (.t 1)),
          .op .none 51 (.mv (.t 12)),
          .op .none 52 (.ia 1 (.t 50) (.t 51)),
          .op .none 53 (.ld false 1 (.t 52)),
          .call .none 54 (.f 53) [(.t 49), (.t 53)],
          .op .none 55 (.mv (.t 13)),
          .op .none 56 (.ia 1 (.t 54) (.t 55)),
          .op .none 57 (.ld false 1 (.t 56)),
          .op .none 14 (.mv (.t 57))]) <|
        .seq (.seq (.reg false [.op .none 58 (.mv (.t 14)),
          .op .none 59 (.bin .lss (.t 58) (.c (.w (.int .i64 0))))]) <|
        .cond (.t 59)
          (.seq (.reg false [.op .none 6 (.mv (.c (.w (.int .i64 0)))),
            .op .none 7 (.mv (.c (.w (.bool false)))),
            .op .none 8 (.mv (.c (.w (.int .i64 0))))]) <|
          .ret)
          (.skip)) <|
        .seq (.reg false [.op .none 60 (.mv (.t 10)),
          .op .none 61 (.mv (.t 14)),
          .op .none 62 (.bin .add (.t 60) (.t 61)),
          .op .none 10 (.mv (.t 62))]) <|
        .seq (.seq (.reg false [.op .none 63 (.mv (.t 11)),
          .op .none 64 (.bin .lss (.t 63) (.c (.w (.int .i64 0))))]) <|
        .cond (.t 64)
          (.reg false [.op .none 65 (.mv (.t 10)),
            .op .none 66 (.fa 1 (.t 3)),
            .op .none 67 (.ld false 1 (.t 66)),
            .op .none 68 (.mv (.t 13)),
            .op .none 69 (.ia 1 (.t 67) (.t 68)),
            .op .none 70 (.ld false 1 (.t 69)),
            .op .none 71 (.bin .add (.t 65) (.t 70)),
            .op .none 10 (.mv (.t 71))])
          (.reg false [.op .none 72 (.mv (.t 10)),
            .op .none 73 (.fa 3 (.t 3)),
            .op .none 74 (.ld false 1 (.t 73)),
            .op .none 75 (.mv (.t 11)),
            .op .none 76 (.ia 1 (.t 74) (.t 75)),
            .op .none 77 (.ld false 1 (.t 76)),
            .op .none 78 (.mv (.t 13)),
            .op .none 79 (.ia 1 (.t 77) (.t 78)),
            .op .none 80 (.ld false 1 (.t 79)),
            .op .none 81 (.bin .add (.t 72) (.t 80)),
            .op .none 10 (.mv (.t 81))])) <|
        .reg false [.op .none 82 (.mv (.t 13)),
          .op .none 11 (.mv (.t 82))]) <|
      .reg false [.op .none 35 (.mv (.t 12)),
        .op .none 36 (.bin .add (.t 35) (.c (.w (.int .i64 1)))),
        .op .none 12 (.mv (.t 36))]) <|
  .seq (.seq (.reg false [.op .none 83 (.mv (.t 11)),
    .op .none 84 (.bin .geq (.t 83) (.c (.w (.int .i64 0))))]) <|
  .cond (.t 84)
    (.reg false [.op .none 85 (.mv (.t 10)),
      .op .none 86 (.fa 2 (.t 3)),
      .op .none 87 (.ld false 1 (.t 86)),
      .op .none 88 (.mv (.t 11)),
      .op .none 89 (.ia 1 (.t 87) (.t 88)),
      .op .none 90 (.ld false 1 (.t 89)),
      .op .none 91 (.bin .add (.t 85) (.t 90)),
      .op .none 10 (.mv (.t 91))])
    (.skip)) <|
  .seq (.reg false [.op .none 92 (.mv (.t 10)),
    .op .none 6 (.mv (.t 92)),
    .op .none 7 (.mv (.c (.w (.bool true)))),
    .op .none 8 (.mv (.c (.w (.int .i64 0))))]) <|
  .ret
theorem k21 : FnCode Try.prog 21 [] 93 [6, 7, 8] c21 := ⟨Try.f21, Try.func21, fun xs W => Try.call21 xs W, by kernel_rfl, by kernel_rfl, by kernel_rfl⟩

def idN (G : List Bs) (s : Bs) : Nat := (idxF (fun x => decide (s = x)) G 0).toNat
theorem idx_cases (G : List Bs) (s : Bs) : (inW G s = false ∧ idxF (fun x => decide (s = x)) G 0 = -1) ∨ (inW G s = true ∧ idxF (fun x => decide (s = x)) G 0 = idN G s ∧ ∃ h : idN G s < G.length, G[idN G s] = s ∧ ∀ x ∈ G.take (idN G s), x ≠ s) := by
  have h0 := idxF_in s G 0
  unfold idN
  rcases idxF_find (fun x => decide (s = x)) G 0 with ⟨h1, _⟩ | ⟨k, h1, h2, _, h3, h4⟩
  · rw [h1] at h0 ⊢
    exact .inl ⟨by simpa using h0.symm, rfl⟩
  · rw [h1] at h0 ⊢
    have e : ((0 + k : Nat) : Int).toNat = k := by omega
    refine .inr ⟨?_, ?_, ?_⟩
    · rw [← h0]; simp
    · rw [e]; simp
    · rw [e]
      refine ⟨h2, by simpa using (of_decide_eq_true h3).symm, fun x hx => ?_⟩
      have := h4 x hx
      simp only [decide_eq_false_iff_not] at this
      exact fun e => this e.symm
def goC (t : TagT) : List Bs → List Nat → Option Nat → Int → Int × Bool × Int
  | w :: l, k :: ks, b, n => if at0 (costsF t w) k < 0 then (0, false, 0) else goC t l ks (some k) (n + at0 (costsF t w) k + stepF t b k)
  | _, _, b, n => ((match b with | some k => n + at0 t.2.2.1 k | none => n), true, 0)
def costF (t : TagT) (l tags : List Bs) : Int × Bool × Int :=
  if chkF t l.length ≠ 0 then (0, false, chkF t l.length) else if tags.length ≠ l.length then (0, false, 10) else if tags.all (inW t.1) = false then (0, false, 4) else goC t l (tags.map (idN t.1)) none 0
theorem fok20 (t : TagT) (l tags : List Bs) (ht : tagS t) (hl : l.length ≤ 200000000000000) (htl : tags.length ≤ 200000000000000) : FOk Try.prog 20 [.v (tagV t), .v (.word l), .v (.word tags)] [] (.tup [.I (costF t l tags).1, .B (costF t l tags).2.1, .I (costF t l tags).2.2]) [] := by
  have h1 := fok42 t l ht hl
  have hO := chkF_ok (t := t) (n := l.length)
  have k1 := fun s => fok51 t.1 s ht.g.1
  have k2 := fun w (h : OkT t) => fok44 t w h
  have k3 := fun b k (h : OkT t) => fok45 t b k h
  have q2 := fun w (h : OkT t) => costsF_ok h w
  have q3 := fun (h : OkT t) b k => stepF_rng h (b := b) (k := k)
  have qz := fun (h : OkT t) k => csB_at h.z (k := k)
  have qzl := fun (h : OkT t) => csB_len h.z
  refine FOk.val k20 (by simp) (by simp) (by decide) ?_
  unfold costF
  generalize chkF t l.length = v at h1 hO ⊢
  generalize hgc : goC t = gc
  have hgcn : ∀ b n, gc [] [] b n = ((match b with | some k => n + at0 t.2.2.1 k | none => n), true, 0) := fun b n => by rw [← hgc]; rfl
  have hgcc : ∀ w l k ks b n, gc (w :: l) (k :: ks) b n = if at0 (costsF t w) k < 0 then (0, false, 0) else gc l ks (some k) (n + at0 (costsF t w) k + stepF t b k) := fun w l k ks b n => by rw [← hgc]; rfl
  clear hgc
  generalize costsF t = cF at k2 q2 hgcc
  generalize stepF t = sF at k3 q3 hgcc
  obtain ⟨G, Fi, Z, P, W, U, uu⟩ := t
  simp only at k1 q2 q3 qz qzl hgcn k3
  simp only [tagV] at h1 k2 k3
  simp only
  generalize hres : (if v ≠ 0 then ((0, false, v) : Int × Bool × Int) else if tags.length ≠ l.length then (0, false, 10) else if tags.all (inW G) = false then (0, false, 4) else gc l (tags.map (idN G)) none 0) = res
  simp [c20, tagV]
  refine CallG.lent rfl rfl rfl rfl h1 rfl ?_
  by_cases hv : v = 0
  case neg =>
    rw [if_pos hv] at hres
    subst hres
    simp [hv]
    exact Ends.v rfl (by simp)
  obtain ⟨hO, hn⟩ := hO hv
  have k2 := fun w => k2 w hO
  have k3 := fun b k => k3 b k hO
  have q2 := fun w => q2 w hO
  have q3 := q3 hO
  have qz := qz hO
  have qzl := qzl hO
  subst hv
  rw [if_neg (by simp)] at hres
  by_cases hlen : tags.length = l.length
  case neg =>
    rw [if_pos hlen] at hres
    subst hres
    have hlen' : ¬ (tags.length : Int) = (l.length : Int) := by omega
    simp [hlen, hlen']
    exact Ends.v rfl (by simp)
  rw [if_neg (by simpa using hlen)] at hres
  have hlen' : (tags.length : Int) = (l.length : Int) := by omega
  simp [hlen, hlen']
  refine Run.loopA (ι := Nat) [(1, 3), (2, 10)] (fun i => i ≤ tags.length ∧ ∀ s ∈ tags.take i, (!inW G s) = false) (fun i => ⟨[(1, .v (.word l)), (3, .ptr 1 0 0), (10, .h 2), (30, .v (.word tags)), (31, .I l.length), (32, .I i)], [(2, ⟨false, 1, (tags.take i).map fun s => .i (idN G s)⟩), (1, ⟨false, 6, [tagV (G, Fi, Z, P, W, U, uu)]⟩)], 1024⟩) (fun i => tags.length - i) 0 (by decide) (by simp [tagV]) (by simp) ?_
  rintro i ⟨hi, hno⟩ ih
  by_cases h : i < tags.length
  · have h2 : i < l.length := by omega
    have hyes := any_at (fun s => !inW G s) tags h
    have hnext := any_take (fun s => !inW G s) tags h hno
    have hst : List.take i (tags.map fun s => PV.w (Value.int IntKind.i64 (idN G s))) ++ [PV.w (Value.int IntKind.i64 (idN G tags[i]))] = List.take (i + 1) (tags.map fun s => PV.w (Value.int IntKind.i64 (idN G s))) := by
      rw [← List.map_take, ← List.map_take, List.take_succ_eq_append_getElem h, List.map_append]; rfl
    have kk := k1 tags[i]
    simp (disch := omega) [h, h2, wrap_i64, tagV]
    refine CallG.lent rfl rfl rfl rfl kk rfl ?_
    have hbl : (i + 1 + 1000) * 8 ≤ 70368744177664 := by omega
    have hmn : min i tags.length = i := by omega
    rcases idx_cases G tags[i] with ⟨e1, e2⟩ | ⟨e1, e2, e3⟩
    · rw [e2]
      have hall : tags.all (inW G) = false := by
        rw [List.all_eq_false]; exact ⟨tags[i], List.getElem_mem h, by simp [e1]⟩
      rw [if_pos hall] at hres
      subst hres
      simp (disch := (clear hbl; omega)) [wrap_i64]
      exact Ends.v rfl (by simp)
    · rw [e2]
      simp (disch := (clear hbl; omega)) [wrap_i64, hbl, hmn]
      exact ih (i + 1) _ ⟨by clear hbl; omega, hnext (by simp [e1])⟩ (by clear hbl; omega) (by simp [hst, tagV])
  have hil : i = tags.length := by omega
  subst hil
  rw [List.take_length] at hno ⊢
  have hin : ∀ s ∈ tags, inW G s = true := fun s hs => by simpa using hno s hs
  have hall : tags.all (inW G) = true := by rw [List.all_eq_true]; exact hin
  rw [hall] at hres
  simp only [Bool.true_eq_false, if_false] at hres
  clear ih h hi hno hall
  have hks : ∀ k ∈ tags.map (idN G), k < G.length := by
    intro k hk
    obtain ⟨s, hs, rfl⟩ := List.mem_map.1 hk
    rcases idx_cases G s with ⟨e1, _⟩ | ⟨_, _, e3, _⟩
    · rw [hin s hs] at e1; cases e1
    · exact e3
  have hkl : (tags.map (idN G)).length = l.length := by simpa using hlen
  have hmm : tags.map (fun s => PV.i (idN G s)) = (tags.map (idN G)).map fun k : Nat => PV.i k := by rw [List.map_map]; rfl
  rw [hmm]
  clear hmm
  generalize tags.map (idN G) = ks at hks hkl hres
  have hl3 : ¬ tags.length < l.length := by omega
  simp [hl3, hkl, tagV]
  refine Run.loopA (ι := Nat × Option Nat × Int) [(1, 3), (2, 47)] (fun q => q.1 ≤ l.length ∧ (∀ b', q.2.1 = some b' → b' < G.length) ∧ 0 ≤ q.2.2 ∧ q.2.2 ≤ q.1 * 200000000 ∧ gc (l.drop q.1) (ks.drop q.1) q.2.1 q.2.2 = res) (fun q => ⟨[(1, .v (.word l)), (3, .ptr 1 0 0), (14, .I q.2.2), (15, .I (bI9 q.2.1)), (47, .h 2), (48, .I l.length), (49, .I q.1)], [(2, ⟨false, 1, ks.map fun k : Nat => .i k⟩), (1, ⟨false, 6, [tagV (G, Fi, Z, P, W, U, uu)]⟩)], 1024⟩) (fun q => l.length - q.1) (0, none, 0) (by decide) (by simp [tagV, bI9]) ⟨by simp, by simp, by simp, by simp, by simpa using hres⟩ ?_
  rintro ⟨i, b, n⟩ ⟨hi, hb, hn0, hn1, hall⟩ ih
  simp only at hi hb hn0 hn1 hall ih
  by_cases h : i < l.length
  · have h2 : i < ks.length := by omega
    rw [drop_at h, drop_at h2, hgcc] at hall
    have hk := hks _ (List.getElem_mem h2)
    have hc := k2 l[i]
    have hcs := csB_at (q2 l[i]) hk
    have hcl := csB_len (q2 l[i])
    have hst := k3 b ks[i] hk hb
    have hsr := q3 b ks[i] hk hb
    generalize hk0 : ks[i] = k at hk hcs hst hsr hall
    generalize cF l[i] = c at hc hcs hcl hall
    generalize sF b k = x at hst hsr hall
    have hkc : k < c.length := by omega
    rw [at0_eq hkc] at hcs hall
    generalize hck : c[k] = ck at hcs hall
    simp (disch := omega) [h, h2, hk0, wrap_i64, tagV]
    refine CallG.plain rfl rfl rfl rfl hc (by simp) (by simp) ?_
    by_cases hneg : ck < 0
    · rw [if_pos hneg] at hall
      subst hall
      simp (disch := omega) [intsV, hkc, hck, wrap_i64, hneg]
      exact Ends.v rfl (by simp)
    · rw [if_neg hneg] at hall
      simp (disch := omega) [intsV, hkc, hck, wrap_i64, hneg]
      simp only [intsV] at hst
      refine CallG.lent rfl rfl rfl rfl hst rfl ?_
      simp (disch := omega) [wrap_i64]
      refine ih (i + 1, some k, n + ck + x) _ ⟨by simp; omega, by simp; exact hk, by simp; omega, by simp; omega, hall⟩ (by simp; omega) ?_
      simp [tagV, bI9, intsV]
      omega
  · rw [drop_no h, drop_no (show ¬ i < ks.length by omega), hgcn] at hall
    cases b with
    | none =>
      simp only at hall
      subst hall
      simp [h, bI9]
      exact Ends.v rfl (by simp)
    | some b =>
      simp only at hall
      have hbl := hb b rfl
      have hzb := qz b hbl
      have hbz : b < Z.length := by omega
      rw [at0_eq hbz] at hzb hall
      generalize hx : Z[b] = x at hzb hall
      subst hall
      have hnb : ¬ (b : Int) < 0 := by omega
      simp (disch := omega) [h, bI9, hnb, tagV, intsV, hbz, hx, wrap_i64]
      exact Ends.v rfl (by simp)
theorem fok21 (t : TagT) (l tags : List Bs) (ht : tagS t) (hl : l.length ≤ 200000000000000) (htl : tags.length ≤ 200000000000000) : FOk Try.prog 21 [.v (tagV t), .v (.word l), .v (.word tags)] [] (.tup [.I (costF t l tags).1, .B (costF t l tags).2.1, .I (costF t l tags).2.2]) [] := by
  have h1 := fok38 t l ht hl
  have hO := chkF_ok (t := t) (n := l.length)
  have k1 := fok52 tags t.1 htl ht.g.1
  have k2 := fun w (h : OkT t) => fok53 t w h
  have q2 := fun w (h : OkT t) => costsF_ok h w
  have qf := fun (h : OkT t) => csB_len h.f
  have qpl := fun (h : OkT t) => h.pl
  have qp := fun (h : OkT t) l hl => csB_len (h.p l hl)
  have q3 := fun (h : OkT t) b k => stepF_rng h (b := b) (k := k)
  have qz := fun (h : OkT t) k => csB_at h.z (k := k)
  have qzl := fun (h : OkT t) => csB_len h.z
  refine FOk.val k21 (by simp) (by simp) (by decide) ?_
  unfold costF
  generalize chkF t l.length = v at h1 hO ⊢
  generalize hgc : goC t = gc
  have hgcn : ∀ b n, gc [] [] b n = ((match b with | some k => n + at0 t.2.2.1 k | none => n), true, 0) := fun b n => by rw [← hgc]; rfl
  have hgcc : ∀ w l k ks b n, gc (w :: l) (k :: ks) b n = if at0 (costsF t w) k < 0 then (0, false, 0) else gc l ks (some k) (n + at0 (costsF t w) k + stepF t b k) := fun w l k ks b n => by rw [← hgc]; rfl
  clear hgc
  generalize costsF t = cF at k2 q2 hgcc
  have hsn : ∀ k, stepF t none k = at0 t.2.1 k := fun k => rfl
  have hss : ∀ b k, stepF t (some b) k = at0 (t.2.2.2.1.getD b []) k := fun b k => rfl
  generalize stepF t = sF at q3 hgcc hsn hss
  obtain ⟨G, Fi, Z, P, W, U, uu⟩ := t
  simp only at k1 q2 q3 qz qzl hgcn qf qpl qp hsn hss
  simp only [tagV] at h1 k2
  simp only
  generalize hres : (if v ≠ 0 then ((0, false, v) : Int × Bool × Int) else if tags.length ≠ l.length then (0, false, 10) else if tags.all (inW G) = false then (0, false, 4) else gc l (tags.map (idN G)) none 0) = res
  simp [c21, tagV]
  refine CallG.lent rfl rfl rfl rfl h1 rfl ?_
  by_cases hv : v = 0
  case neg =>
    rw [if_pos hv] at hres
    subst hres
    simp [hv]
    exact Ends.v rfl (by simp)
  obtain ⟨hO, hn⟩ := hO hv
  have k2 := fun w => k2 w hO
  have q2 := fun w => q2 w hO
  have q3 := q3 hO
  have qz := qz hO
  have qzl := qzl hO
  have qf := qf hO
  have qpl := qpl hO
  have qp := qp hO
  have g16 : G.length ≤ 16 := hO.g
  subst hv
  rw [if_neg (by simp)] at hres
  by_cases hlen : tags.length = l.length
  case neg =>
    rw [if_pos hlen] at hres
    subst hres
    have hlen' : ¬ (l.length : Int) = (tags.length : Int) := by omega
    have hlen2 : ¬ l.length = tags.length := by omega
    simp [hlen2, hlen']
    exact Ends.v rfl (by simp)
  rw [if_neg (by simpa using hlen)] at hres
  have hlen' : (l.length : Int) = (tags.length : Int) := by omega
  simp [hlen, hlen']
  simp at k1
  refine CallG.lent rfl rfl rfl rfl k1 rfl ?_
  cases hall : tags.all (inW G)
  case false =>
    rw [if_pos hall] at hres
    subst hres
    simp
    exact Ends.v rfl (by simp)
  rw [hall] at hres
  simp only [Bool.true_eq_false, if_false] at hres
  rw [List.all_eq_true] at hall
  simp
  refine Run.loopA (ι := Nat × Option Nat × Int) [(1, 3)] (fun q => q.1 ≤ l.length ∧ (∀ b', q.2.1 = some b' → b' < G.length) ∧ 0 ≤ q.2.2 ∧ q.2.2 ≤ q.1 * 200000000 ∧ gc (l.drop q.1) ((tags.map (idN G)).drop q.1) q.2.1 q.2.2 = res) (fun q => ⟨[(1, .v (.word l)), (2, .v (.word tags)), (3, .ptr 1 0 0), (10, .I q.2.2), (11, .I (bI9 q.2.1)), (12, .I q.1)], [(1, ⟨false, 6, [tagV (G, Fi, Z, P, W, U, uu)]⟩)], 1024⟩) (fun q => l.length - q.1) (0, none, 0) (by decide) (by simp [tagV, bI9]) ⟨by simp, by simp, by simp, by simp, by simpa using hres⟩ ?_
  rintro ⟨i, b, n⟩ ⟨hi, hb, hn0, hn1, hall2⟩ ih
  simp only at hi hb hn0 hn1 hall2 ih
  by_cases h : i < l.length
  · have h2 : i < tags.length := by omega
    have h3 : i < (tags.map (idN G)).length := by simpa using h2
    rw [drop_at h, drop_at h3, hgcc] at hall2
    have hin := hall tags[i] (List.getElem_mem h2)
    have hmap : (tags.map (idN G))[i] = idN G tags[i] := by simp
    rw [hmap] at hall2
    rcases idx_cases G tags[i] with ⟨e1, _⟩ | ⟨_, _, hk, e3, e4⟩
    · rw [hin] at e1; cases e1
    generalize hk0 : idN G tags[i] = k at hk e3 e4 hall2
    generalize htg : tags[i] = s at e3 e4
    simp (disch := omega) [h, h2, wrap_i64]
    refine Run.loopA (ι := Nat) [(1, 3)] (fun k' => k' ≤ k) (fun k' => ⟨[(1, .v (.word l)), (2, .v (.word tags)), (3, .ptr 1 0 0), (10, .I n), (11, .I (bI9 b)), (12, .I i), (13, .I k')], [(1, ⟨false, 6, [tagV (G, Fi, Z, P, W, U, uu)]⟩)], 1024⟩) (fun k' => k - k') 0 (by decide) (by simp [tagV]) (by simp) ?_
    rintro k' hk' ih2
    have hkg : k' < G.length := by omega
    by_cases hlt : k' < k
    · have hne : G[k'] ≠ s := e4 _ (List.mem_take_iff_getElem.2 ⟨k', by omega, rfl⟩)
      simp (disch := omega) [hkg, h2, htg, hne, wrap_i64, tagV]
      exact ih2 (k' + 1) _ (by omega) (by omega) (by simp [tagV])
    have hkk : k' = k := by omega
    subst hkk
    have hc := k2 l[i]
    have hcs := csB_at (q2 l[i]) hk
    have hcl := csB_len (q2 l[i])
    have hsr := q3 b k' hk hb
    generalize cF l[i] = c at hc hcs hcl hall2
    have hkc : k' < c.length := by omega
    rw [at0_eq hkc] at hcs hall2
    generalize hck : c[k'] = ck at hcs hall2
    simp (disch := omega) [hkg, h, h2, htg, e3, wrap_i64, tagV]
    refine CallG.plain rfl rfl rfl rfl hc (by simp) (by simp) ?_
    by_cases hneg : ck < 0
    · rw [if_pos hneg] at hall2
      subst hall2
      simp (disch := omega) [intsV, hkc, hck, wrap_i64, hneg]
      exact Ends.v rfl (by simp)
    · rw [if_neg hneg] at hall2
      cases b with
      | none =>
        have hf : k' < Fi.length := by omega
        rw [hsn, at0_eq hf] at hall2 hsr
        generalize hx : Fi[k'] = x at hall2 hsr
        simp (disch := omega) [intsV, hkc, hck, wrap_i64, hneg, bI9, hf, hx]
        refine ih (i + 1, some k', n + ck + x) _ ⟨by simp; omega, by simp; exact hk, by simp; omega, by simp; omega, hall2⟩ (by simp; omega) ?_
        simp [tagV, bI9, intsV]
      | some b =>
        have hbG := hb b rfl
        have hbP : b < P.length := by omega
        rw [hss, List.getD_eq_getElem?_getD, List.getElem?_eq_getElem hbP, Option.getD_some] at hall2 hsr
        have hpl := qp P[b] (List.getElem_mem hbP)
        generalize hp : P[b] = p at hall2 hsr hpl
        have hf : k' < p.length := by omega
        rw [at0_eq hf] at hall2 hsr
        generalize hx : p[k'] = x at hall2 hsr
        have hnb : ¬ (b : Int) < 0 := by omega
        simp (disch := omega) [intsV, hkc, hck, wrap_i64, hneg, bI9, hbP, hp, hf, hx, hnb]
        refine ih (i + 1, some k', n + ck + x) _ ⟨by simp; omega, by simp; exact hk, by simp; omega, by simp; omega, hall2⟩ (by simp; omega) ?_
        simp [tagV, bI9, intsV]
  · rw [drop_no h, drop_no (show ¬ i < (tags.map (idN G)).length by simp; omega), hgcn] at hall2
    cases b with
    | none =>
      simp only at hall2
      subst hall2
      simp [h, bI9]
      exact Ends.v rfl (by simp)
    | some b =>
      simp only at hall2
      have hbl := hb b rfl
      have hzb := qz b hbl
      have hbz : b < Z.length := by omega
      rw [at0_eq hbz] at hzb hall2
      generalize hx : Z[b] = x at hzb hall2
      subst hall2
      have hnb : ¬ (b : Int) < 0 := by omega
      simp (disch := omega) [h, bI9, hnb, tagV, intsV, hbz, hx, wrap_i64]
      exact Ends.v rfl (by simp)

end Go.Proofs
