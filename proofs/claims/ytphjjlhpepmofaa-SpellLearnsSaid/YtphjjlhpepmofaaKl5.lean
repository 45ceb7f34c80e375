/- The walk. -/
import Derived.Test.YtphjjlhpepmofaaKl4
import Derived.Test.YtphjjlhpepmofaaProg
import Derived.KernelRfl
set_option linter.all false
set_option maxHeartbeats 2000000
namespace Go.Proofs
open Go Go.AM
attribute [local irreducible] Run Ends
/-- ablaut/ablautref23.SameNear -/
def c32 : MC :=
  .seq (.reg false [.op .none 4 (.mv (.c (.w (.bool false))))]) <|
  .seq (.seq (.reg false [.op .none 6 (.mv (.t 0)),
    .op .none 7 (.len false (.t 6)),
    .op .none 8 (.mv (.t 1)),
    .op .none 9 (.len false (.t 8)),
    .op .none 10 (.bin .neq (.t 7) (.t 9))]) <|
  .cond (.t 10)
    (.seq (.reg false [.op .none 4 (.mv (.c (.w (.bool false))))]) <|
    .ret)
    (.skip)) <|
  .seq (.seq (.reg false [.op .none 5 (.mv (.c (.w (.int .i64 0))))]) <|
  .block 0 <|
    .loop <|
      .seq (.seq (.reg false [.op .none 11 (.mv (.t 5)),
        .op .none 12 (.mv (.t 0)),
        .op .none 13 (.len false (.t 12)),
        .op .none 14 (.bin .lss (.t 11) (.t 13))]) <|
      .cond (.t 14)
        (.skip)
        (.exit 0)) <|
      .seq (.block 1 <|
        .seq (.reg true [.op .none 17 (.mv (.t 0)),
          .op .none 18 (.mv (.t 5)),
          .op .none 19 (.ia 3 (.t 17) (.t 18)),
          .op .none 20 (.ld true 3 (.t 19)),
          .op .none 21 (.mv (.t 1)),
          .op .none 22 (.mv (.t 5)),
          .op .none 23 (.ia 3 (.t 21) (.t 22)),
          .op .none 24 (.ld true 3 (.t 23)),
          .op .none 25 (.eqS true [false, false, true] (.t 20) (.t 24))]) <|
        .cond (.t 25)
          (.seq (.reg false [.op .none 4 (.mv (.c (.w (.bool false))))]) <|
          .ret)
          (.skip)) <|
      .reg false [.op .none 15 (.mv (.t 5)),
        .op .none 16 (.bin .add (.t 15) (.c (.w (.int .i64 1)))),
        .op .none 5 (.mv (.t 16))]) <|
  .seq (.reg false [.op .none 4 (.mv (.c (.w (.bool true))))]) <|
  .ret
theorem k32 : FnCode Try.prog 32 [] 26 [4] c32 := ⟨Try.f32, Try.func32, fun xs W => Try.call32 xs W, by kernel_rfl, by kernel_rfl, by kernel_rfl⟩

/-- ablaut/ablautlaw23.SpellLearns -/
def c10 : MC :=
  .seq (.reg false [.op .none 2 (.mv (.c (.w (.bool false))))]) <|
  .seq (.reg false [.op .none 9 (.mv (.t 0)),
    .op .none 10 (.len false (.t 9)),
    .op .none 3 (.mv (.t 10))]) <|
  .seq (.seq (.reg false [.op .none 4 (.mv (.c (.w (.int .i64 0))))]) <|
  .block 0 <|
    .loop <|
      .seq (.seq (.reg false [.op .none 11 (.mv (.t 4)),
        .op .none 12 (.mv (.t 0)),
        .op .none 13 (.len false (.t 12)),
        .op .none 14 (.bin .lss (.t 11) (.t 13)),
        .op .none 15 (.mv (.t 14)),
        .op (.some (15, true)) 16 (.mv (.t 3)),
        .op (.some (15, true)) 17 (.bin .leq (.t 16) (.c (.w (.int .i64 100000)))),
        .op .none 18 (.pick (.t 15) (.t 17) (.c (.w (.bool false))))]) <|
      .cond (.t 18)
        (.skip)
        (.exit 0)) <|
      .seq (.block 1 <|
        .reg true [.op .none 21 (.mv (.t 3)),
          .op .none 22 (.mv (.t 0)),
          .op .none 23 (.mv (.t 4)),
          .op .none 24 (.ia 2 (.t 22) (.t 23)),
          .op .none 25 (.iaA 2 1 (.t 24) (.c (.w (.int .i64 0)))),
          .op .none 26 (.ld false 1 (.t 25)),
          .op .none 27 (.mv (.t 0)),
          .op .none 28 (.mv (.t 4)),
          .op .none 29 (.ia 2 (.t 27) (.t 28)),
          .op .none 30 (.iaA 2 1 (.t 29) (.c (.w (.int .i64 1)))),
          .op .none 31 (.ld false 1 (.t 30)),
          .op .none 32 (.buildS true 1 2 false [(.sl 1 [])] [(0, (.t 26)), (1, (.t 31))]),
          .call .none 33 (.f 12) [(.t 32)],
          .op .none 34 (.bin .add (.t 21) (.t 33)),
          .op .none 3 (.mv (.t 34))]) <|
      .reg false [.op .none 19 (.mv (.t 4)),
        .op .none 20 (.bin .add (.t 19) (.c (.w (.int .i64 1)))),
        .op .none 4 (.mv (.t 20))]) <|
  .seq (.seq (.reg false [.op .none 35 (.mv (.t 3)),
    .op .none 36 (.bin .gtr (.t 35) (.c (.w (.int .i64 100000))))]) <|
  .cond (.t 36)
    (.seq (.reg false [.call .none 37 (.f 13) [],
      .op .none 2 (.mv (.t 37))]) <|
    .ret)
    (.skip)) <|
  .seq (.reg false [.op .none 39 (.mv (.t 0)),
    .call .none 40 (.f 33) [(.t 39)],
    .op .none 38 (.mv (.t 40)),
    .op .none 41 (.ext (.t 38) 0),
    .op .none 42 (.ext (.t 38) 1),
    .op .none 5 (.alloc true [(.w (.int .i64 0)), (.w (.int .i64 0)), (.w (.int .i64 0)), (.w (.int .i64 0)), (.sl 3 [])]),
    .store .none (.stt true 5 (.t 5) (.t 41)),
    .op .none 6 (.mv (.t 42))]) <|
  .seq (.reg false [.op .none 44 (.mv (.t 0)),
    .call .none 45 (.f 34) [(.t 44)],
    .op .none 43 (.mv (.t 45)),
    .op .none 46 (.ext (.t 43) 0),
    .op .none 47 (.ext (.t 43) 1),
    .op .none 7 (.alloc true [(.w (.int .i64 0)), (.w (.int .i64 0)), (.w (.int .i64 0)), (.w (.int .i64 0)), (.sl 3 [])]),
    .store .none (.stt true 5 (.t 7) (.t 46)),
    .op .none 8 (.mv (.t 47))]) <|
  .seq (.seq (.reg false [.op .none 48 (.fa 0 (.t 5)),
    .op .none 49 (.ld false 1 (.t 48)),
    .op .none 50 (.fa 0 (.t 7)),
    .op .none 51 (.ld false 1 (.t 50)),
    .op .none 52 (.bin .neq (.t 49) (.t 51)),
    .op .none 53 (.mv (.t 52)),
    .op (.some (53, false)) 54 (.fa 1 (.t 5)),
    .op (.some (53, false)) 55 (.ld false 1 (.t 54)),
    .op (.some (53, false)) 56 (.fa 1 (.t 7)),
    .op (.some (53, false)) 57 (.ld false 1 (.t 56)),
    .op (.some (53, false)) 58 (.bin .neq (.t 55) (.t 57)),
    .op .none 59 (.pick (.t 53) (.c (.w (.bool true))) (.t 58)),
    .op .none 60 (.mv (.t 59)),
    .op (.some (60, false)) 61 (.fa 2 (.t 5)),
    .op (.some (60, false)) 62 (.ld false 1 (.t 61)),
    .op (.some (60, false)) 63 (.fa 2 (.t 7)),
    .op (.some (60, false)) 64 (.ld false 1 (.t 63)),
    .op (.some (60, false)) 65 (.bin .neq (.t 62) (.t 64)),
    .op .none 66 (.pick (.t 60) (.c (.w (.bool true))) (.t 65)),
    .op .none 67 (.mv (.t 66)),
    .op (.some (67, false)) 68 (.fa 3 (.t 5)),
    .op (.some (67, false)) 69 (.ld false 1 (.t 68)),
    .op (.some (67, false)) 70 (.fa 3 (.t 7)),
    .op (.some (67, false)) 71 (.ld false 1 (.t 70)),
    .op (.some (67, false)) 72 (.bin .neq (.t 69) (.t 71)),
    .op .none 73 (.pick (.t 67) (.c (.w (.bool true))) (.t 72)),
    .op .none 74 (.mv (.t 73)),
    .op (.some (74, false)) 75 (.fa 4 (.t 5)),
    .op (.some (74, false)) 76 (.ld false 1 (.t 75)),
    .op (.some (74, false)) 77 (.fa 4 (.t 7)),
    .op (.some (74, false)) 78 (.ld false 1 (.t 77)),
    .call (.some (74, false)) 79 (.f 32) [(.t 76), (.t 78)],
    .op (.some (74, false)) 80 (.un .not (.t 79)),
    .op .none 81 (.pick (.t 74) (.c (.w (.bool true))) (.t 80)),
    .op .none 82 (.mv (.t 81)),
    .op (.some (82, false)) 83 (.mv (.t 6)),
    .op (.some (82, false)) 84 (.mv (.t 8)),
    .op (.some (82, false)) 85 (.bin .neq (.t 83) (.t 84)),
    .op .none 86 (.pick (.t 82) (.c (.w (.bool true))) (.t 85))]) <|
  .cond (.t 86)
    (.seq (.reg false [.op .none 2 (.mv (.c (.w (.bool false))))]) <|
    .ret)
    (.skip)) <|
  .seq (.reg false [.op .none 87 (.mv (.t 6)),
    .op .none 88 (.bin .neq (.t 87) (.c (.w (.int .i64 0)))),
    .op .none 89 (.mv (.t 88)),
    .op (.some (89, false)) 90 (.ld true 5 (.t 5)),
    .call (.some (89, false)) 91 (.f 18) [(.t 90)],
    .op (.some (89, false)) 92 (.bin .eql (.t 91) (.c (.w (.int .i64 0)))),
    .op .none 93 (.pick (.t 89) (.c (.w (.bool true))) (.t 92)),
    .op .none 94 (.mv (.t 93)),
    .call (.some (94, true)) 95 (.f 13) [],
    .op .none 96 (.pick (.t 94) (.t 95) (.c (.w (.bool false)))),
    .op .none 2 (.mv (.t 96))]) <|
  .ret
theorem k10 : FnCode Try.prog 10 [32] 97 [2] c10 := ⟨Try.f10, Try.func10, fun xs W => Try.call10 xs W, by kernel_rfl, by kernel_rfl, by kernel_rfl⟩

theorem fok32 (l : List NearT) (hl : l.length ≤ 200000000000000) : FOk Try.prog 32 [.v (.sl 3 (l.map nearV)), .v (.sl 3 (l.map nearV))] [] (.B true) [] := by
  refine FOk.val k32 (by simp) (by simp) (by decide) ?_
  simp [c32]
  refine Run.loopA (ι := Nat) [] (fun i => i ≤ l.length) (fun i => ⟨[(0, .v (.sl 3 (l.map nearV))), (1, .v (.sl 3 (l.map nearV))), (5, .I i)], [], 1024⟩) (fun i => l.length - i) 0 (by decide) (by simp) (by simp) ?_
  rintro i hi ih
  by_cases h : i < l.length
  · simp (disch := omega) [h, wrap_i64, nearV]
    exact ih (i + 1) _ (by omega) (by omega) (by simp)
  · simp (disch := omega) [h, wrap_i64]
    exact Ends.v rfl (by simp)

/-! What is learned are right prices. -/
theorem vWord_syms {b : List Bs} (h : vWord b = 0) : ∀ s ∈ b, symS s = true := by
  have h1 : longW b = false := by
    cases h1 : longW b
    · rfl
    · simp [vWord, h1] at h
  have h2 : badW b = false := by
    cases h2 : badW b
    · rfl
    · simp [vWord, h1, h2] at h
      split at h <;> cases h
  intro s hs
  simp only [longW, badW, List.any_eq_false] at h1 h2
  have a := h1 s hs
  have b := h2 s hs
  simp only [decide_eq_true_eq, Nat.not_lt] at a
  simp only [Bool.not_eq_true', Bool.not_eq_false] at b
  simp [symS, a, b]
theorem cnt_keys : ∀ (K : List PairT) (l : List (PairT × Int)) (k : PairT), k ∈ (cnt K l).map Prod.fst → k ∈ K ∨ k ∈ l.map Prod.fst
  | [], l, k, h => .inr h
  | x :: K, l, k, h => by
    rcases cnt_keys K (bmp x l) k h with h | h
    · exact .inl (List.mem_cons_of_mem _ h)
    · rw [bmp_keys] at h
      split at h
      · exact .inr h
      · rcases List.mem_append.1 h with h | h
        · exact .inr h
        · simp at h; subst h; exact .inl (by simp)
theorem cnt_ok : ∀ (K : List PairT) (l : List (PairT × Int)) (n : Nat), OkC l n → OkC (cnt K l) (n + K.length)
  | [], l, n, h => by simpa [cnt] using h
  | x :: K, l, n, h => (cnt_ok K (bmp x l) (n + 1) (h.bmp x)).mono (by simp; omega)
theorem edKs_ok {ab : List Bs × List Bs} (h1 : vWord ab.1 = 0) (h2 : vWord ab.2 = 0) {k : PairT} (hk : k ∈ edKs ab) : symS k.1 = true ∧ symS k.2 = true ∧ ltB k.1 k.2 = true := by
  obtain ⟨a, b⟩ := ab
  obtain ⟨e, he, hek⟩ := List.mem_filterMap.1 hk
  obtain ⟨_, h3⟩ := edF_3 he
  unfold edK at hek
  split at hek
  · rename_i h4
    obtain ⟨_, g2, g3, g4⟩ := h3 h4
    cases hek
    simp only at h1 h2 g2 g3 g4 ⊢
    generalize a[e.2.1.toNat]?.getD [] = x at g3 g4
    have hx := vWord_syms h1 x g3
    have hs := vWord_syms h2 e.2.2.1 g2
    generalize e.2.2.1 = s at g4 hs
    unfold loS hiS
    by_cases h5 : ltB x s = true
    · simp [h5, hx, hs]
    · have h6 : ltB s x = true := by
        cases h6 : ltB s x
        · exact absurd (ltB_total (by simpa using h5) h6) g4
        · rfl
      simp [h5, g4, hx, hs, h6]
  · cases hek
theorem rows_good {g : PairT → Int} : ∀ (l : List PairT) (pr : Option NearT), (∀ k ∈ l, symS k.1 = true ∧ symS k.2 = true ∧ ltB k.1 k.2 = true ∧ 0 ≤ g k ∧ g k ≤ 100) → l.Pairwise (fun a b => cmpK a b < 0) → (∀ m, pr = some m → ∀ k ∈ l, cmpN m (nrG g k) < 0) → rowsBad 100 pr (l.map (nrG g)) = false
  | [], _, _, _, _ => rfl
  | k :: l, pr, h, hp, hm => by
    obtain ⟨h1, h2, h3, h4, h5⟩ := h k (by simp)
    rw [List.pairwise_cons] at hp
    have hr := rows_good l (some (nrG g k)) (fun x hx => h x (by simp [hx])) hp.2 (fun m e x hx => by cases e; exact hp.1 x hx)
    simp only [List.map_cons, rowsBad, hr, Bool.or_false, nearBad]
    cases pr with
    | none => simp [nrG, h1, h2, h3, within, h4, h5]
    | some m =>
      have h6 : ¬ 0 ≤ cmpN m (nrG g k) := by have := hm m rfl k (by simp); omega
      simp [h6]
      simp [nrG, h1, h2, h3, within, h4, h5]
theorem longN_no : ∀ (l : List NearT), (∀ n ∈ l, symS n.1 = true ∧ symS n.2.1 = true) → longN l = false
  | [], _ => rfl
  | n :: l, h => by
    obtain ⟨h1, h2⟩ := h n (by simp)
    simp only [symS, Bool.and_eq_true, decide_eq_true_eq] at h1 h2
    simp only [longN, longN_no l fun x hx => h x (by simp [hx])]
    simp; omega
theorem vLrn_0 {L : List PrsT} (h : vLrn L = 0) : vPairs L = 0 ∧ (lrnC L).length ≤ 200 := by
  unfold vLrn at h
  split at h
  · omega
  split at h
  · rename_i h1
    split at h
    · omega
    · exact ⟨h1, by omega⟩
  · rename_i h1; exact absurd h h1
theorem lrnP_len (L : List PrsT) : (lrnP L).2.2.2.2.1.length ≤ 200 := by
  unfold lrnP
  split
  · rename_i h; have := (vLrn_0 h).2; simp [srt_len]; omega
  · simp [pz]
theorem lrnP_syms {L : List PrsT} : ∀ n ∈ (lrnP L).2.2.2.2.1, symS n.1 = true ∧ symS n.2.1 = true ∧ ltB n.1 n.2.1 = true := by
  unfold lrnP
  split
  · rename_i h
    obtain ⟨h1, h2⟩ := vLrn_0 h
    intro n hn
    obtain ⟨k, hk, rfl⟩ := List.mem_map.1 hn
    rw [srt_mem] at hk
    rcases cnt_keys _ _ _ hk with hk | hk
    · obtain ⟨ab, hab, hk⟩ := List.mem_flatMap.1 hk
      have h3 := vPairs_ok h1 ab hab
      exact edKs_ok h3.1 h3.2 hk
    · simp at hk
  · simp [pz]
theorem lrnP_S (L : List PrsT) : prS (lrnP L) := fun n hn => by
  obtain ⟨h1, h2, _⟩ := lrnP_syms n hn
  simp only [symS, Bool.and_eq_true, decide_eq_true_eq] at h1 h2
  exact ⟨by omega, by omega⟩
theorem lrnP_ok {L : List PrsT} (h : vLrn L = 0) : vPrices (lrnP L) = 0 := by
  have hs := lrnP_syms (L := L)
  have hl := lrnP_len L
  have e : lrnP L = (100, 100, 100, 100, (srt cmpK ((lrnC L).map Prod.fst)).map (nrG (costG (lrnC L))), ()) := by unfold lrnP; rw [if_pos h]
  have hok : OkC (lrnC L) (0 + (L.flatMap edKs).length) := cnt_ok _ _ _ OkC.nil
  have hnd : (srt cmpK ((lrnC L).map Prod.fst)).Nodup := (srt_perm _).nodup_iff.2 hok.nd
  have hpw : (srt cmpK ((lrnC L).map Prod.fst)).Pairwise fun a b => cmpK a b < 0 := ((srt_pw linK _).and hnd).imp fun {a b} h => by
    by_cases h3 : cmpK a b < 0
    · exact h3
    · exact absurd (linK.anti h.1 h3) h.2
  rw [e] at hs hl ⊢
  simp only at hs hl
  have h1 : longN ((srt cmpK ((lrnC L).map Prod.fst)).map (nrG (costG (lrnC L)))) = false := longN_no _ fun n hn => ⟨(hs n hn).1, (hs n hn).2.1⟩
  have h2 : rowsBad 100 none ((srt cmpK ((lrnC L).map Prod.fst)).map (nrG (costG (lrnC L)))) = false := rows_good _ _ (fun k hk => by
    obtain ⟨g1, g2, g3⟩ := hs (nrG (costG (lrnC L)) k) (List.mem_map.2 ⟨k, hk, rfl⟩)
    rw [srt_mem] at hk
    obtain ⟨⟨k', n⟩, h4, h5⟩ := List.mem_map.1 hk
    simp only at h5; subst h5
    have h6 := look_of hok.nd h4
    have h7 := (hok.look h6).1
    refine ⟨g1, g2, g3, ?_⟩
    simp only [costG, h6, Option.getD_some]
    have h8 : 0 ≤ Int.tdiv 100 (n + 1) := Int.tdiv_nonneg (by omega) (by omega)
    have h9 : Int.tdiv 100 (n + 1) ≤ 100 := by
      rw [Int.tdiv_eq_ediv_of_nonneg (by omega)]
      exact Int.ediv_le_self _ (by omega)
    exact ⟨h8, h9⟩) hpw (by simp)
  unfold vPrices
  simp only [h1, h2, if_neg (show ¬ 200 < ((srt cmpK ((lrnC L).map Prod.fst)).map (nrG (costG (lrnC L)))).length by omega)]
  rfl

/-! How much there is. -/
theorem byt1_le5 : ∀ (w : List Bs) (n : Nat), (∀ s ∈ w, s.length ≤ 140737488351232) → n ≤ 9000000000000 → byt1 w n ≤ 160000000000000
  | [], n, _, h => by simp only [byt1]; omega
  | s :: w, n, hs, h => by
    simp only [byt1]
    split
    · have h1 := hs s (by simp)
      by_cases h2 : n + s.length ≤ 100000
      · exact byt1_le5 w _ (fun t ht => hs t (by simp [ht])) (by omega)
      · cases w with
        | nil => simp only [byt1]; omega
        | cons t w => simp only [byt1]; rw [if_neg h2]; omega
    · omega
theorem byt_le5 : ∀ (l : List (List Bs)) (n : Nat), (∀ w ∈ l, wordC w) → n ≤ 160000000000000 → byt l n ≤ 160000000000000
  | [], n, _, h => by simp only [byt]; omega
  | w :: l, n, hs, h => by
    simp only [byt]
    split
    · have h1 := hs w (by simp)
      exact byt_le5 l _ (fun t ht => hs t (by simp [ht])) (byt1_le5 w _ h1.2 (by have := h1.1; omega))
    · omega
theorem spellLearns_ok (L0 : List (List Bs × List Bs × Unit)) (hL0 : L0.length * 48 ≤ 140737488351232 ∧ ∀ x ∈ L0, wordC x.1 ∧ wordC x.2.1 ∧ True) : FOk Try.prog 10 [.v (.sl 2 (L0.map fun x => .st [PV.word x.1, PV.word x.2.1]))] [] (.B true) [] := by
  obtain ⟨L, hL⟩ : ∃ L : List PrsT, L = L0.map fun x => (x.1, x.2.1) := ⟨_, rfl⟩
  have e : (L0.map fun x => PV.st [PV.word x.1, PV.word x.2.1]) = L.map prV := by rw [hL, List.map_map]; rfl
  have hlen : L.length ≤ 200000000000000 := by rw [hL, List.length_map]; have := hL0.1; omega
  have hC : ∀ x ∈ L, wordC x.1 ∧ wordC x.2 := fun x hx => by
    rw [hL] at hx
    obtain ⟨y, hy, rfl⟩ := List.mem_map.1 hx
    exact ⟨(hL0.2 y hy).1, (hL0.2 y hy).2.1⟩
  rw [e]
  clear hL e hL0 L0
  have hS : prsS L := ⟨hlen, fun x hx => ⟨(hC x hx).1.s, (hC x hx).2.s⟩⟩
  have hk := fok13
  have hP := fok33 L hS
  have hQ := fok34 L hS
  have hN := fok32 (lrnP L).2.2.2.2.1 (by have := lrnP_len L; omega)
  have hV := fok18 (lrnP L) (lrnP_S L)
  have hok := lrnP_ok (L := L)
  refine FOk.val k10 (by simp) (by simp) (by decide) ?_
  simp [c10]
  refine Run.loopA (ι := Nat × Nat) [] (fun q => q.1 ≤ L.length ∧ q.2 ≤ 200000000000000) (fun q => ⟨[(0, .v (.sl 2 (L.map prV))), (3, .I q.2), (4, .I q.1)], [], 1024⟩) (fun q => L.length - q.1) (0, L.length) (by decide) (by simp) ⟨by omega, by simpa using hlen⟩ ?_
  rintro ⟨i, n⟩ ⟨hi, hn⟩ ih
  simp only at hi hn ih ⊢
  by_cases hgo : i < L.length ∧ n ≤ 100000
  · obtain ⟨hi2, hn2⟩ := hgo
    have hg := prsV_get hi2
    have hw := hC _ (List.getElem_mem hi2)
    generalize L[i] = x at hg hw
    obtain ⟨a, b⟩ := x
    simp only at hg hw
    have hB := fok12 [a, b] (by simp [hw.1.s, hw.2.s]) (by simp)
    have hBl := byt_le5 [a, b] 0 (by simp [hw.1, hw.2]) (by omega)
    simp only [wordsV, List.map_cons, List.map_nil] at hB
    simp only [PV.word] at hg hB
    simp (disch := omega) [hi2, hn2, hg, wrap_i64]
    refine CallG.lent rfl rfl rfl rfl hB rfl ?_
    simp (disch := omega) [wrap_i64]
    exact ih (i + 1, n + byt [a, b] 0) _ ⟨by simp; omega, by simp; omega⟩ (by simp; omega) (by simp)
  · clear ih hi
    by_cases hi2 : i < L.length
    · by_cases hn2 : n ≤ 100000
      · omega
      · simp (disch := omega) [hi2, hn2, wrap_i64]
        refine fun _ => CallG.lent rfl rfl rfl rfl hk rfl ?_
        simp
        exact Ends.v rfl (by simp)
    · simp (disch := omega) [hi2, wrap_i64]
      refine ⟨fun _ => ?_, fun _ => ?_⟩
      · refine CallG.lent rfl rfl rfl rfl hk rfl ?_
        simp
        exact Ends.v rfl (by simp)
      · generalize lrnP L = p at *
        generalize vLrn L = v at *
        obtain ⟨pd, pp, ps, pc, l, u⟩ := p
        simp only [pricesV] at hP hQ hN hV
        refine CallG.plain rfl rfl rfl rfl hP (by simp) (by simp) ?_
        simp
        refine CallG.plain rfl rfl rfl rfl hQ (by simp) (by simp) ?_
        simp
        refine CallG.lent rfl rfl rfl rfl hN rfl ?_
        simp
        refine ⟨fun hv => ?_, fun hv => ?_⟩
        · rw [hok hv] at hV
          refine CallG.lent rfl rfl rfl rfl hV rfl ?_
          simp
          refine CallG.lent rfl rfl rfl rfl hk rfl ?_
          simp
          exact Ends.v rfl (by simp)
        · refine CallG.lent rfl rfl rfl rfl hk rfl ?_
          simp
          exact Ends.v rfl (by simp)

end Go.Proofs
