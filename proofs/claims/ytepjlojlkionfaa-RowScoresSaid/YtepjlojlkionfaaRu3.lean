/- The walk. -/
import Derived.Test.YtepjlojlkionfaaRu2
import Derived.Test.YtepjlojlkionfaaAMZ
import Derived.Test.YtepjlojlkionfaaProg
import Derived.KernelRfl
set_option linter.all false
set_option maxHeartbeats 2000000
namespace Go.Proofs
open Go Go.AM
attribute [local irreducible] Run Ends
/-- ablaut/row.Confused -/
def c32 : MC :=
  .seq (.reg false [.op .none 2 (.box false (.t 0)),
    .op .none 4 (.nilS 1),
    .op .none 5 (.mv (.c (.w (.int .i64 0))))]) <|
  .seq (.seq (.reg false [.op .none 18 (.ld true 6 (.t 2)),
    .op .none 19 (.mv (.t 1)),
    .call .none 20 (.f 67) [(.t 18), (.t 19)],
    .op .none 6 (.mv (.t 20))]) <|
  .seq (.reg false [.op .none 21 (.mv (.t 6)),
    .op .none 22 (.bin .neq (.t 21) (.c (.w (.int .i64 0))))]) <|
  .cond (.t 22)
    (.seq (.reg false [.op .none 23 (.mv (.t 6)),
      .op .none 4 (.nilS 1),
      .op .none 5 (.mv (.t 23))]) <|
    .ret)
    (.skip)) <|
  .seq (.reg false [.op .none 24 (.fa 0 (.t 2)),
    .op .none 25 (.ld false 1 (.t 24)),
    .op .none 26 (.len false (.t 25)),
    .op .none 27 (.mkS 1 24 false [(.sl 1 [])] (.t 26) (.t 26)),
    .op .none 7 (.mv (.t 27))]) <|
  .seq (.seq (.reg false [.op .none 28 (.mv (.t 7)),
    .op .none 29 (.len false (.t 28)),
    .op .none 30 (.mv (.c (.w (.int .i64 0))))]) <|
  .block 0 <|
    .loop <|
      .seq (.reg false [.op .none 31 (.bin .lss (.t 30) (.t 29))]) <|
      .seq (.cond (.t 31)
        (.skip)
        (.exit 0)) <|
      .seq (.block 1 <|
        .seq (.reg false [.op .none 32 (.mv (.t 30)),
          .op .none 8 (.mv (.t 32))]) <|
        .reg false [.op .none 33 (.mv (.t 7)),
          .op .none 34 (.mv (.t 8)),
          .op .none 35 (.fa 0 (.t 2)),
          .op .none 36 (.ld false 1 (.t 35)),
          .op .none 37 (.len false (.t 36)),
          .op .none 38 (.mkS 1 8 false [(.w (.int .i64 0))] (.t 37) (.t 37)),
          .op .none 39 (.ia 1 (.t 33) (.t 34)),
          .store .none false 0 (.t 39) (.t 38)]) <|
      .reg false [.op .none 40 (.bin .add (.t 30) (.c (.w (.int .i64 1)))),
        .op .none 30 (.mv (.t 40))]) <|
  .seq (.seq (.reg false [.op .none 41 (.mv (.t 1)),
    .op .none 42 (.len false (.t 41)),
    .op .none 43 (.mv (.c (.w (.int .i64 0))))]) <|
  .block 2 <|
    .loop <|
      .seq (.reg false [.op .none 44 (.bin .lss (.t 43) (.t 42))]) <|
      .seq (.cond (.t 44)
        (.skip)
        (.exit 2)) <|
      .seq (.block 3 <|
        .seq (.reg false [.op .none 45 (.ia 2 (.t 41) (.t 43)),
          .op .none 46 (.ld true 2 (.t 45)),
          .op .none 10 (.alloc true [(.sl 1 []), (.sl 1 [])]),
          .store .none true 2 (.t 10) (.t 46)]) <|
        .seq (.reg false [.op .none 48 (.ld true 6 (.t 2)),
          .op .none 49 (.fa 0 (.t 10)),
          .op .none 50 (.ld false 1 (.t 49)),
          .call .none 51 (.f 15) [(.t 48), (.t 50)],
          .op .none 47 (.mv (.t 51)),
          .op .none 52 (.ext (.t 47) 0),
          .op .none 53 (.ext (.t 47) 1),
          .op .none 54 (.ext (.t 47) 2),
          .op .none 55 (.ext (.t 47) 3),
          .op .none 11 (.mv (.t 52)),
          .op .none 12 (.mv (.t 53)),
          .op .none 13 (.mv (.t 54)),
          .op .none 14 (.mv (.t 55))]) <|
        .seq (.reg false [.op .none 56 (.mv (.t 11)),
          .op .none 57 (.len false (.t 56)),
          .op .none 58 (.mv (.c (.w (.int .i64 0))))]) <|
        .block 4 <|
          .loop <|
            .seq (.reg false [.op .none 59 (.bin .lss (.t 58) (.t 57))]) <|
            .seq (.cond (.t 59)
              (.skip)
              (.exit 4)) <|
            .seq (.block 5 <|
              .seq (.reg false [.op .none 60 (.mv (.t 58)),
                .op .none 15 (.mv (.t 60))]) <|
              .seq (.reg true [.op .none 61 (.fa 0 (.t 2)),
                .op .none 62 (.ld false 1 (.t 61)),
                .op .none 63 (.fa 1 (.t 10)),
                .op .none 64 (.ld false 1 (.t 63)),
                .op .none 65 (.mv (.t 15)),
                .op .none 66 (.ia 1 (.t 64) (.t 65)),
                .op .none 67 (.ld false 1 (.t 66)),
                .call .none 68 (.f 51) [(.t 62), (.t 67)],
                .op .none 69 (.fa 0 (.t 2)),
                .op .none 70 (.ld false 1 (.t 69)),
                .op .none 71 (.mv (.t 11)),
                .op .none 72 (.mv (.t 15)),
                .op .none 73 (.ia 1 (.t 71) (.t 72)),
                .op .none 74 (.ld false 1 (.t 73)),
                .call .none 75 (.f 51) [(.t 70), (.t 74)],
                .op .none 16 (.mv (.t 68)),
                .op .none 17 (.mv (.t 75))]) <|
              .seq (.reg false [.op .none 76 (.mv (.t 16)),
                .op .none 77 (.bin .geq (.t 76) (.c (.w (.int .i64 0))))]) <|
              .cond (.t 77)
                (.reg false [.op .none 78 (.mv (.t 7)),
                  .op .none 79 (.mv (.t 16)),
                  .op .none 80 (.ia 1 (.t 78) (.t 79)),
                  .op .none 81 (.ld false 1 (.t 80)),
                  .op .none 82 (.mv (.t 17)),
                  .op .none 83 (.ia 1 (.t 81) (.t 82)),
                  .op .none 84 (.ld false 1 (.t 83)),
                  .op .none 85 (.bin .add (.t 84) (.c (.w (.int .i64 1)))),
                  .op .none 86 (.ia 1 (.t 81) (.t 82)),
                  .store .none false 1 (.t 86) (.t 85)])
                (.skip)) <|
            .reg false [.op .none 87 (.bin .add (.t 58) (.c (.w (.int .i64 1)))),
              .op .none 58 (.mv (.t 87))]) <|
      .reg false [.op .none 88 (.bin .add (.t 43) (.c (.w (.int .i64 1)))),
        .op .none 43 (.mv (.t 88))]) <|
  .seq (.reg false [.op .none 89 (.mv (.t 7)),
    .op .none 4 (.mv (.t 89)),
    .op .none 5 (.mv (.c (.w (.int .i64 0))))]) <|
  .ret
theorem k32 : FnCode Try.prog 32 [100039] 90 [4, 5] c32 := ⟨Try.f32, Try.func32, fun xs W => Try.call32 xs W, by kernel_rfl, by kernel_rfl, by kernel_rfl⟩

theorem getD_at {α : Type} {l : List α} {i : Nat} {d : α} (h : i < l.length) : l.getD i d = l[i] := by rw [List.getD_eq_getElem?_getD, List.getElem?_eq_getElem h]; rfl
def bump (M : List (List Int)) (a b : Nat) : List (List Int) := M.set a ((M.getD a []).set b (inc ((M.getD a []).getD b 0)))
def cfN (G : List Bs) : List Bs → List Bs → List (List Int) → List (List Int)
  | a :: A, y :: g, M => cfN G A g (if inW G y = true then bump M (idN G y) (idN G a) else M)
  | _, _, M => M
def cfL (t : TagT) : List LineT → List (List Int) → List (List Int)
  | [], M => M
  | x :: l, M => cfL t l (cfN t.1 (bestF t x.1).1 x.2.1 M)
def zeroM (n : Nat) : List (List Int) := List.replicate n (List.replicate n 0)
def cfF (t : TagT) (l : List LineT) : List (List Int) × Int := if tstF t l ≠ 0 then ([], tstF t l) else (cfL t l (zeroM t.1.length), 0)
def Sq (n : Nat) (M : List (List Int)) : Prop := M.length = n ∧ ∀ r ∈ M, r.length = n
theorem bump_sq {n : Nat} {M : List (List Int)} {a b : Nat} (h : Sq n M) : Sq n (bump M a b) := by
  refine ⟨by simp [bump, h.1], fun r hr => ?_⟩
  unfold bump at hr
  by_cases ha : a < M.length
  · rcases List.mem_or_eq_of_mem_set hr with h1 | h1
    · exact h.2 r h1
    · rw [h1, List.length_set, getD_at ha]; exact h.2 _ (List.getElem_mem ha)
  · rw [List.set_eq_of_length_le (by omega)] at hr; exact h.2 r hr
theorem best_in (t : TagT) (l : List Bs) : ∀ x ∈ (bestF t l).1, inW t.1 x = true := by
  have hg : ∀ a ∈ (sevF t l 1).1, ∀ k ∈ a, k < t.1.length := by
    unfold sevF
    by_cases h1 : chkF t l.length = 0
    · have h1' : ¬ chkF t l.length ≠ 0 := by simpa using h1
      rw [if_neg h1', if_neg (by omega)]
      obtain ⟨hT, hn⟩ := chkF_ok h1
      exact fun a ha => (sevP_good hT (1 : Int).toNat l.length (Nat.le_refl _) a (List.mem_of_mem_take ha)).lt
    · rw [if_pos h1]; simp
  unfold bestF
  generalize sevF t l 1 = s at hg ⊢
  obtain ⟨rows, more, e⟩ := s
  simp only at hg ⊢
  split
  · simp
  · cases rows with
    | nil => simp
    | cons a r =>
      intro x hx
      obtain ⟨k, hk, rfl⟩ := List.mem_map.1 hx
      have := hg a (by simp) k hk
      rw [getD_at this]
      exact (inW_iff _ _).2 (List.getElem_mem this)
theorem bump_at {n : Nat} {M : List (List Int)} {a b : Nat} (h : Sq n M) (ha : a < n) (hb : b < n) : ∃ r : List Int, r.length = n ∧ M[a]? = some r ∧ ∃ h : b < r.length, bump M a b = M.set a (r.set b (inc r[b])) := by
  have h1 : a < M.length := by rw [h.1]; exact ha
  have h2 := h.2 _ (List.getElem_mem h1)
  refine ⟨M[a], h2, List.getElem?_eq_getElem h1, by omega, ?_⟩
  unfold bump
  rw [getD_at h1, getD_at (by omega)]
def rowO (r : List Int) : Option (List PV) := some (r.map .i)
theorem fok32 (t : TagT) (l : List LineT) (ht : tagS t) (hl : linesS l) : FOk Try.prog 32 [.v (tagV t), .v (linesV l)] [] (.tup [.v (.sl 1 ((cfF t l).1.map intsV)), .I (cfF t l).2]) [] := by
  have h1 := fok67 t l ht hl.n
  have hfit := tstF_fit (t := t) (l := l)
  have hn16 : tstF t l = 0 → t.1.length ≤ 16 := by
    intro h
    unfold tstF at h
    split at h
    · rename_i h1; exact (h1 h).elim
    · rename_i hv
      have hv : valF t = 0 := by simpa using hv
      unfold valF at hv
      split at hv
      · cases hv
      · omega
  have hb := fun w (h : w.length ≤ 200000000000000) => fok15 t w ht h
  have hbc := bestF_cases t
  have hbi := best_in t
  have hix := fun s => fok51 t.1 s ht.g.1
  obtain ⟨hn, hw⟩ := hl
  have htc2 : tagV t = .st [.word t.1, intsV t.2.1, intsV t.2.2.1, .sl 1 (t.2.2.2.1.map intsV), .sl 2 (t.2.2.2.2.1.map worthV), intsV t.2.2.2.2.2.1] := by
    obtain ⟨G, Fi, Z, P, W, U, uu⟩ := t; rfl
  unfold cfF
  have hsc : ∀ x l M, cfL t (x :: l) M = cfL t l (cfN t.1 (bestF t x.1).1 x.2.1 M) := fun _ _ _ => rfl
  have hs0 : ∀ M, cfL t [] M = M := fun _ => rfl
  generalize cfL t = sc at hsc hs0 ⊢
  generalize bestF t = bF at hb hbc hsc hbi
  generalize tstF t l = v at h1 hfit hn16 ⊢
  rw [htc2] at h1 hb ⊢
  refine FOk.val k32 (by simp) (by simp) (by decide) ?_
  simp [c32]
  refine CallG.lent rfl rfl rfl rfl h1 rfl ?_
  by_cases hv : v = 0
  case neg =>
    simp [hv]
    exact Ends.v rfl (by simp [hv])
  have hfit2 := hfit hv
  have hG := hn16 hv
  clear hfit hn16
  subst hv
  simp only [linesV]
  have c1 : (t.1.length : Int) * 24 ≤ 70368744177664 := by omega
  have c2 : (t.1.length : Int) ≤ 1000000000000 := by omega
  simp [c1, c2]
  refine Run.leA [(1, 2), (2, 7)] (s' := ⟨[(1, .v (.sl 2 (l.map lineV))), (2, .ptr 1 0 0), (7, .h 2), (29, .I t.1.length), (30, .I 0)], [(2, ⟨false, 0, .st [] :: List.replicate t.1.length (.sl 1 [])⟩), (1, ⟨false, 6, [tagV t]⟩)], 1024⟩) (by simp [htc2]) ?_
  refine Run.deepen (id := 2) (c0 := 1024) (sz := 1) (m := 10240) (x := none) (rest := List.replicate t.1.length (.sl 1 [])) (by simp) (by intro p hp; exact .inl ⟨1, [], List.eq_of_mem_replicate hp⟩) (.inl rfl) (by simp) (by simp; omega) (by decide) ?_
  simp
  have hL0 : ∀ k, k ≤ t.1.length → ((List.replicate k (some (List.replicate t.1.length (PV.i 0))) ++ List.replicate (t.1.length - k) none) : List (Option (List PV))).length = t.1.length := fun k hk => by simp; omega
  refine Run.loopD [(1, 2), (2, 7)] 1024 t.1.length (ι := Nat) (fun i => i ≤ t.1.length) (fun i => ⟨[(1, .v (.sl 2 (l.map lineV))), (2, .ptr 1 0 0), (7, .h 2), (29, .I t.1.length), (30, .I i)], (2, ⟨false, 0, encD 1024 :: List.replicate t.1.length (.sl 1 [])⟩) :: (1, ⟨false, 6, [tagV t]⟩) :: matO 1024 1 (List.replicate i (some (List.replicate t.1.length (.i 0))) ++ List.replicate (t.1.length - i) none), 10240⟩) (fun i => t.1.length - i) 0 none (by decide) ?_ (by simp) ?_
  · refine le_tg (kp := [(1, 1), (2, 2)]) (by simp) (by omega) (by simp) (by simp) (by simp) (by simp) (by simp) (by simp) (by simp) (by simp) (by simp) ?_
    simp
    exact tail_none (n := t.1.length) (by simp) (by omega) (fun j hj => by simp [find_idR hj]) (fun j hj => by simp) (by decide)
  rintro i hi ih
  by_cases h : i < t.1.length
  · have c3 : (t.1.length : Int) * 8 ≤ 70368744177664 := by omega
    have c4 : t.1.length ≤ 1000000000000 := by omega
    have hLl : (List.replicate i (some (List.replicate t.1.length (PV.i 0))) ++ List.replicate (t.1.length - i) none : List (Option (List PV))).length = t.1.length := hL0 i hi
    simp only [PV.i] at hLl
    generalize hLL : (List.replicate i (some (List.replicate t.1.length (PV.w (.int .i64 0)))) ++ List.replicate (t.1.length - i) none : List (Option (List PV))) = L at hLl
    have hL3 : L.length ≤ 3000 := by omega
    simp (disch := omega) [h, wrap_i64, htc2, c3, c4, hLL, hL3]
    refine ih (i + 1) (some (i, 26662)) _ (by omega) (by omega) (le_tg (kp := [(1, 1), (2, 2)]) (by simp) (by omega) (by simp) (by simp) (by simp) (by simp) (by simp) (by simp) (by simp) (by simp) (by simp [htc2]) ?_)
    have hLs : (List.replicate (i + 1) (some (List.replicate t.1.length (PV.w (.int .i64 0)))) ++ List.replicate (t.1.length - (i + 1)) none : List (Option (List PV))) = L.set i (some (List.replicate t.1.length (PV.w (.int .i64 0)))) := by
      rw [← hLL, show t.1.length - i = (t.1.length - (i + 1)) + 1 by omega, List.replicate_succ (n := t.1.length - (i + 1)), List.set_append_right _ _ (by simp)]
      simp [List.replicate_succ', List.append_assoc]
    simp [htc2, hLs]
    exact tail_some (n := t.1.length) (c := 26662) (by omega) (by omega) (fun j hj => by simp [find_idR hj]) (fun j hj => by simp [hj]) (by simp) (by decide)
  have hie : i = t.1.length := by omega
  subst hie
  have hz0 : (List.replicate t.1.length (some (List.replicate t.1.length (PV.w (.int .i64 0)))) : List (Option (List PV))) = (zeroM t.1.length).map rowO := by
    simp [zeroM, rowO]
  have hsq0 : Sq t.1.length (zeroM t.1.length) := ⟨by simp [zeroM], fun r hr => by rw [List.eq_of_mem_replicate hr]; simp⟩
  generalize zeroM t.1.length = M0 at hz0 hsq0 ⊢
  have hM0 : (M0.map rowO).length ≤ 3000 := by rw [List.length_map, hsq0.1]; omega
  generalize hres : sc l M0 = res
  simp [hz0, hM0]
  refine Run.cutB (ι := Unit) [(1, 7)] (fun _ => True) (fun _ => ⟨[(7, .h 1)], [(1, ⟨false, 1, res.map intsV⟩)], 1024⟩) (by decide) ?_ ?_
  · intro _ _
    simp
    exact Ends.v rfl (by simp)
  intro hK
  refine Run.loopD [(1, 2), (2, 7)] 1024 t.1.length (ι := Nat × List (List Int)) (fun q => q.1 ≤ l.length ∧ Sq t.1.length q.2 ∧ sc (l.drop q.1) q.2 = res) (fun q => ⟨[(2, .ptr 1 0 0), (7, .h 2), (41, .v (.sl 2 (l.map lineV))), (42, .I l.length), (43, .I q.1)], (2, ⟨false, 0, encD 1024 :: List.replicate t.1.length (.sl 1 [])⟩) :: (1, ⟨false, 6, [tagV t]⟩) :: matO 1024 1 (q.2.map rowO), 10240⟩) (fun q => l.length - q.1) (0, M0) none (by decide) ?_ ⟨by simp, hsq0, by simpa using hres⟩ ?_
  · refine le_tg (kp := [(1, 1), (2, 2)]) (by simp) (by omega) (by simp) (by simp) (by simp) (by simp) (by simp) (by simp) (by simp) (by simp) (by simp) ?_
    simp [htc2]
    exact tail_none (n := t.1.length) (by simp [hsq0.1]) (by omega) (fun j hj => by simp [find_idR hj]) (fun j hj => by simp) (by decide)
  rintro ⟨i, M⟩ ⟨hi, hsq, hall⟩ ih2
  simp only at hi hsq hall ih2
  clear ih
  have hM3 : (M.map rowO).length ≤ 3000 := by rw [List.length_map, hsq.1]; omega
  by_cases h : i < l.length
  · rw [drop_at h, hsc] at hall
    have hbb := hb _ (hw _ (List.getElem_mem h)).1.1
    have hcc := hbc l[i].1
    have hii := hbi l[i].1
    have hff := hfit2 _ (List.getElem_mem h)
    have hyl := (hw _ (List.getElem_mem h)).2.1
    generalize bF l[i].1 = b at hbb hcc hii hall
    generalize hx : l[i] = x at hbb hcc hff hyl hall hii
    obtain ⟨w, g, u⟩ := x
    obtain ⟨A, cst, ok, e⟩ := b
    simp only at hbb hcc hff hyl hall hii
    simp (disch := omega) [h, wrap_i64, hx, lineV, htc2, hM3]
    refine CallG.plain rfl rfl rfl rfl hbb (by simp) (by simp) ?_
    simp (disch := omega) [wrap_i64, hM3]
    generalize hM1 : cfN t.1 A g M = M1 at hall
    refine Run.loopD [(1, 2), (2, 7), (3, 10)] 1024 t.1.length (ι := Nat × List (List Int)) (fun q => q.1 ≤ A.length ∧ Sq t.1.length q.2 ∧ cfN t.1 (A.drop q.1) (g.drop q.1) q.2 = M1) (fun q => ⟨[(2, .ptr 1 0 0), (7, .h 2), (10, .ptr 3 0 0), (11, .v (.word A)), (41, .v (.sl 2 (l.map lineV))), (42, .I l.length), (43, .I i), (57, .I A.length), (58, .I q.1)], (3, ⟨false, 2, [lineV (w, g, u)]⟩) :: (2, ⟨false, 0, encD 1024 :: List.replicate t.1.length (.sl 1 [])⟩) :: (1, ⟨false, 6, [tagV t]⟩) :: matO 1024 1 (q.2.map rowO), 10240⟩) (fun q => A.length - q.1) (0, M) none (by decide) ?_ ⟨by simp, hsq, by simpa using hM1⟩ ?_
    · refine le_tg (kp := [(1, 1), (2, 2), (3, 18442)]) (by simp) (by omega) (by simp) (by simp) (by simp) (by simp) (by simp) (by simp) (by simp) (by simp) (by simp) ?_
      simp [htc2, lineV]
      exact tail_none (n := t.1.length) (by simp [hsq.1]) (by omega) (fun j hj => by simp [find_idR hj]) (fun j hj => by simp [hj]) (by decide)
    rintro ⟨k, M'⟩ ⟨hk, hsq', hm⟩ ihk
    simp only at hk hsq' hm ihk
    have hM3' : (M'.map rowO).length ≤ 3000 := by rw [List.length_map, hsq'.1]; omega
    by_cases hkA : k < A.length
    · have hkg : k < g.length := by
        rcases hcc with ⟨_, hlen⟩ | ⟨_, rfl⟩
        · omega
        · simp at hkA
      rw [drop_at hkA, drop_at hkg] at hm
      simp only [cfN] at hm
      have hAk := hii _ (List.getElem_mem hkA)
      generalize hxa : A[k] = xa at hm hAk
      generalize hxg : g[k] = xg at hm
      have i1 := hix xg
      have i2 := hix xa
      rcases idx_cases t.1 xa with ⟨q1, _⟩ | ⟨_, q2, q3, _⟩
      · rw [hAk] at q1; cases q1
      rw [q2] at i2
      simp (disch := omega) [hkA, hkg, wrap_i64, lineV, htc2, hM3', hxa, hxg]
      refine CallG.lent rfl rfl rfl rfl i1 rfl ?_
      simp (disch := omega) [hkA, hkg, wrap_i64, lineV, htc2, hM3', hxa, hxg]
      refine CallG.lent rfl rfl rfl rfl i2 rfl ?_
      generalize idN t.1 xa = b at q3 hm
      rcases idx_cases t.1 xg with ⟨g1, g2⟩ | ⟨g1, g2, g3, _⟩
      · rw [g2]
        rw [if_neg (by rw [g1]; decide)] at hm
        simp (disch := omega) [wrap_i64]
        refine ihk (k + 1, M') none _ ⟨by simp; omega, hsq', hm⟩ (by simp; omega) (le_tg (kp := [(1, 1), (2, 2), (3, 3)]) (by simp) (by omega) (by simp) (by simp) (by simp) (by simp) (by simp) (by simp) (by simp) (by simp) (by simp) ?_)
        simp [htc2, lineV]
        exact tail_none (n := t.1.length) (by simp [hsq'.1]) (by omega) (fun j hj => by simp [find_idR hj]) (fun j hj => by simp [hj]) (by decide)
      · rw [g2]
        rw [if_pos g1] at hm
        generalize idN t.1 xg = a at g3 hm
        obtain ⟨r, hrl, hra, hrb, hbu⟩ := bump_at hsq' g3 q3
        have hsqb := bump_sq (a := a) (b := b) hsq'
        have hb3 : (bump M' a b).map rowO = (M'.map rowO).set a (some ((r.map PV.i).set b (.i (inc r[b])))) := by
          rw [hbu, List.map_set]; simp [rowO, List.map_set]
        have haL : (M'.map rowO)[a]? = some (some (r.map PV.i)) := by rw [List.getElem?_map, hra]; rfl
        have han : a < 3000 := by omega
        generalize bump M' a b = M2 at hm hsqb hb3
        generalize hLL : M'.map rowO = L at haL hb3 hM3'
        simp only [PV.i, inc] at haL hb3
        have hset := fun e => setIn_mat_at (c0 := 1024) (sz := 1) (l' := e) haL
        simp (disch := omega) [wrap_i64, haL, han, hrb, g3]
        refine ihk (k + 1, M2) none _ ⟨by simp; omega, hsqb, hm⟩ (by simp; omega) (le_tg (kp := [(1, 1), (2, 2), (3, 3)]) (by simp) (by omega) (by simp) (by simp) (by simp) (by simp) (by simp) (by simp) (by simp) (by simp) (by simp) ?_)
        simp [htc2, lineV, hb3, hset]
        exact tail_none (n := t.1.length) (by simp [← hLL, hsq'.1]) (by omega) (fun j hj => by simp [find_idR hj]) (fun j hj => by simp [hj]) (by decide)
    · rw [drop_no hkA] at hm
      have : M' = M1 := by rw [← hm]; cases g.drop k <;> rfl
      subst this
      simp (disch := omega) [hkA, wrap_i64, hM3']
      refine ih2 (i + 1, M') none _ ⟨by simp; omega, hsq', hall⟩ (by simp; omega) (le_tg (kp := [(1, 1), (2, 2)]) (by simp) (by omega) (by simp) (by simp) (by simp) (by simp) (by simp) (by simp) (by simp) (by simp) (by simp) ?_)
      simp [htc2]
      exact tail_none (n := t.1.length) (by simp [hsq'.1]) (by omega) (fun j hj => by simp [find_idR hj]) (fun j hj => by simp [hj]) (by decide)
  · rw [drop_no h, hs0] at hall
    subst hall
    simp [h]
    refine hK () _ trivial ?_
    have hdr : ∀ j, j < t.1.length → newOf [(1, 2)] (dAt 1024 none j) = none ∧ ∃ b, find ((2, (⟨false, 0, encD 1024 :: List.replicate t.1.length (.sl 1 [])⟩ : Ent)) :: (1, ⟨false, 6, [tagV t]⟩) :: matO 1024 1 (M.map rowO)) (dAt 1024 none j) = some ⟨b, 1, (M.getD j []).map .i⟩ := by
      intro j hj
      have hj2 : j < M.length := by rw [hsq.1]; exact hj
      refine ⟨by simp [newOf], false, ?_⟩
      simp [find_cons, hj2, rowO]
    have hdr2 := deepRows_mat (by decide) hdr
    have hdr3 : ((List.range t.1.length).map fun j => PV.sl 1 ((M.getD j []).map .i)) = M.map intsV := by
      apply List.ext_getElem
      · simp [hsq.1]
      · intro j g1 g2
        simp at g1 g2
        simp [intsV, g2]
    rw [hdr3] at hdr2
    simp [hdr2]

end Go.Proofs
