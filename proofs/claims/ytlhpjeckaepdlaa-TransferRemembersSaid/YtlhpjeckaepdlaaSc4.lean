/- The walk. -/
import Derived.Test.YtlhpjeckaepdlaaSc3
import Derived.Test.YtlhpjeckaepdlaaSb5
import Derived.Test.YtlhpjeckaepdlaaProg
import Derived.KernelRfl
set_option linter.all false
set_option maxHeartbeats 2000000
namespace Go.Proofs
open Go Go.AM
attribute [local irreducible] Run Ends
theorem tail_facts {N : Nat} {P A B S D R : List PaidT} {a m b mid s : Nat} (hrot : ∀ P X Y S : List PaidT, 0 < X.length → 0 < Y.length → (P ++ X ++ Y ++ S).length ≤ 1000000 → FOk Try.prog 118 [.h 0, .I P.length, .I (P.length + X.length : Nat), .I (P.length + X.length + Y.length : Nat), .fn 76 []] [(0, ⟨false, 2, (P ++ X ++ Y ++ S).map paidV⟩)] (.tup []) [(0, ⟨false, 2, (P ++ Y ++ X ++ S).map paidV⟩)])
    (hrec : ∀ (P A B S : List PaidT) (a m b : Nat), A.length + B.length ≤ N → 0 < A.length → 0 < B.length → A.Pairwise (fun a b => ¬ cPd b a < 0) → B.Pairwise (fun a b => ¬ cPd b a < 0) → (P ++ A ++ B ++ S).length ≤ 1000000 → a = P.length → m = a + A.length → b = m + B.length →
      FOk Try.prog 116 [.h 0, .I a, .I m, .I b, .fn 76 []] [(0, ⟨false, 2, (P ++ A ++ B ++ S).map paidV⟩)] (.tup []) [(0, ⟨false, 2, (P ++ mg cPd A B ++ S).map paidV⟩)])
    (hDD : D = P ++ A ++ B ++ S) (hR : R = P ++ mg cPd A B ++ S) (hf : mg cPd A B = mg cPd (A.take (s - a)) (B.take (mid - s)) ++ mg cPd (A.drop (s - a)) (B.drop (mid - s))) (hA : A.Pairwise (fun a b => ¬ cPd b a < 0)) (hB : B.Pairwise (fun a b => ¬ cPd b a < 0)) (hD : D.length ≤ 1000000)
    (ha : a = P.length) (hm : m = a + A.length) (hb : b = m + B.length) (h1 : a ≤ s) (h2 : s ≤ m) (h3 : s ≤ mid) (h4 : mid + m - s ≤ b) (h5 : a < mid) (h6 : mid < b) (hN : A.length + B.length ≤ N + 1) :
    ∃ D1 D2 : List PaidT, ((s < m → s < mid → FOk Try.prog 118 [.h 0, .I s, .I m, .I ((mid : Int) + m - s), .fn 76 []] [(0, ⟨false, 2, D.map paidV⟩)] (.tup []) [(0, ⟨false, 2, D1.map paidV⟩)]) ∧ (¬ (s < m ∧ s < mid) → D1 = D)) ∧
      ((a < s → s < mid → FOk Try.prog 116 [.h 0, .I a, .I s, .I mid, .fn 76 []] [(0, ⟨false, 2, D1.map paidV⟩)] (.tup []) [(0, ⟨false, 2, D2.map paidV⟩)]) ∧ (¬ (a < s ∧ s < mid) → D2 = D1)) ∧
      ((s < m → mid + m - s < b → FOk Try.prog 116 [.h 0, .I mid, .I ((mid : Int) + m - s), .I b, .fn 76 []] [(0, ⟨false, 2, D2.map paidV⟩)] (.tup []) [(0, ⟨false, 2, R.map paidV⟩)]) ∧ (¬ (s < m ∧ mid + m - s < b) → R = D2)) := by
  obtain ⟨A1, hA1⟩ : ∃ A1, A1 = A.take (s - a) := ⟨_, rfl⟩
  obtain ⟨A2, hA2⟩ : ∃ A2, A2 = A.drop (s - a) := ⟨_, rfl⟩
  obtain ⟨B1, hB1⟩ : ∃ B1, B1 = B.take (mid - s) := ⟨_, rfl⟩
  obtain ⟨B2, hB2⟩ : ∃ B2, B2 = B.drop (mid - s) := ⟨_, rfl⟩
  have hAA : A = A1 ++ A2 := by rw [hA1, hA2, List.take_append_drop]
  have hBB : B = B1 ++ B2 := by rw [hB1, hB2, List.take_append_drop]
  have l1 : A1.length = s - a := by rw [hA1]; simp; omega
  have l2 : A2.length = m - s := by rw [hA2]; simp; omega
  have l3 : B1.length = mid - s := by rw [hB1]; simp; omega
  have l4 : B2.length = b - (mid + m - s) := by rw [hB2]; simp; omega
  rw [← hA1, ← hA2, ← hB1, ← hB2] at hf
  rw [hf] at hR
  clear hA1 hA2 hB1 hB2 hf
  subst hAA hBB
  obtain ⟨pA1, pA2, _⟩ := List.pairwise_append.1 hA
  obtain ⟨pB1, pB2, _⟩ := List.pairwise_append.1 hB
  have lm : ∀ X Y : List PaidT, (mg cPd X Y).length = X.length + Y.length := fun X Y => mg_len X Y
  have hDl : D.length = a + (s - a) + (m - s) + (mid - s) + (b - (mid + m - s)) + S.length := by rw [hDD]; simp; omega
  have z1 : ∀ (X : List PaidT), X.length = 0 → X = [] := fun X h => List.length_eq_zero_iff.1 h
  refine ⟨P ++ A1 ++ B1 ++ A2 ++ B2 ++ S, P ++ mg cPd A1 B1 ++ A2 ++ B2 ++ S, ⟨fun u1 u2 => ?_, fun u => ?_⟩, ⟨fun u1 u2 => ?_, fun u => ?_⟩, fun u1 u2 => ?_, fun u => ?_⟩
  · have := hrot (P ++ A1) A2 B1 (B2 ++ S) (by omega) (by omega) (by simp; omega)
    have e1 : ((P ++ A1).length : Nat) = s := by simp; omega
    rw [e1, show s + A2.length = m by omega] at this
    have e2 : ((m + B1.length : Nat) : Int) = (mid : Int) + m - s := by omega
    rw [e2] at this
    rw [hDD]
    simpa using this
  · rw [hDD]
    by_cases v : s < m
    · rw [z1 B1 (by omega)]; simp
    · rw [z1 A2 (by omega)]; simp
  · have := hrec P A1 B1 (A2 ++ B2 ++ S) a s mid (by omega) (by omega) (by omega) pA1 pB1 (by simp; omega) ha (by omega) (by omega)
    simpa using this
  · by_cases v : a < s
    · rw [z1 B1 (by omega), mg_nil]; simp
    · rw [z1 A1 (by omega), mg_nil1]; simp
  · have := hrec (P ++ mg cPd A1 B1) A2 B2 S mid (mid + m - s) b (by omega) (by omega) (by omega) pA2 pB2 (by simp [lm]; omega) (by simp [lm]; omega) (by omega) (by omega)
    have e2 : ((mid + m - s : Nat) : Int) = (mid : Int) + m - s := by omega
    rw [e2] at this
    rw [hR]
    simpa using this
  · rw [hR]
    by_cases v : s < m
    · rw [z1 B2 (by omega), mg_nil]; simp
    · rw [z1 A2 (by omega), mg_nil1]; simp
theorem fok116 : ∀ (N : Nat) (P A B S : List PaidT) (a m b : Nat), A.length + B.length ≤ N → 0 < A.length → 0 < B.length → A.Pairwise (fun a b => ¬ cPd b a < 0) → B.Pairwise (fun a b => ¬ cPd b a < 0) → (P ++ A ++ B ++ S).length ≤ 1000000 → a = P.length → m = a + A.length → b = m + B.length →
    FOk Try.prog 116 [.h 0, .I a, .I m, .I b, .fn 76 []] [(0, ⟨false, 2, (P ++ A ++ B ++ S).map paidV⟩)] (.tup []) [(0, ⟨false, 2, (P ++ mg cPd A B ++ S).map paidV⟩)]
  | 0, _, A, _, _, _, _, _, h, h1, _, _, _, _, _, _, _ => by omega
  | N + 1, P, A, B, S, a, m, b, hN, hA0, hB0, hA, hB, hD, ha, hm, hb => by
    have hrec := fok116 N
    by_cases hA1 : A.length = 1
    · obtain ⟨x, rfl⟩ := List.length_eq_one_iff.1 hA1
      have := symP_one P B S x hB (by simpa using hD) hB0
      have e : P ++ [x] ++ B ++ S = P ++ x :: (B ++ S) := by simp
      rw [e]
      subst ha hm hb
      simpa using this
    by_cases hB1 : B.length = 1
    · obtain ⟨x, rfl⟩ := List.length_eq_one_iff.1 hB1
      have := symP_last P A S x hA (by simpa using hD) (by omega)
      have e : P ++ A ++ [x] ++ S = P ++ A ++ x :: S := by simp
      rw [e]
      subst ha hm hb
      simpa using this
    have hcmp := fok76
    have hrot := fun P X Y S h1 h2 h3 => fok118 P X Y S 76 h1 h2 h3
    have hDl : (P ++ A ++ B ++ S).length = b + S.length := by simp; omega
    obtain ⟨mid, hmid⟩ : ∃ mid, mid = (a + b) / 2 := ⟨_, rfl⟩
    have hfound := fun s => mg_found (c := cPd) preP (P := P) (A := A) (B := B) (S := S) (a := a) (m := m) (b := b) (mid := mid) (s := s) rfl ha hm hb hA hB
    obtain ⟨D, hDD⟩ : ∃ D, D = P ++ A ++ B ++ S := ⟨_, rfl⟩
    rw [← hDD] at hD hDl hfound ⊢
    have c1 : ¬ (m : Int) - a = 1 := by omega
    have c2 : ¬ (b : Int) - m = 1 := by omega
    have he0 := half_eq (i := a) (j := b) (by omega)
    rw [← hmid] at he0
    refine FOk.of k116 1 (by simp) (by decide) (by simp) (by simp) (by simp [find]; rintro _ _ _ rfl rfl _ rfl; rfl) (by decide) ?_
    obtain ⟨R, hR⟩ : ∃ R, R = P ++ mg cPd A B ++ S := ⟨_, rfl⟩
    rw [← hR]
    by_cases hmm : mid < m
    case' pos =>
      obtain ⟨s0, hs0⟩ : ∃ s0, s0 = mid + m - b := ⟨_, rfl⟩
      obtain ⟨r0, hr0⟩ : ∃ r0, r0 = mid := ⟨_, rfl⟩
      have k1 : ((mid : Int) + m) - b = s0 := by omega
      have hmmi : (mid : Int) < m := by omega
      simp (disch := omega) [c116, wrap_i64, wrap_u64, c1, c2, he0, hmm, hmmi, k1]
    case' neg =>
      obtain ⟨s0, hs0⟩ : ∃ s0, s0 = a := ⟨_, rfl⟩
      obtain ⟨r0, hr0⟩ : ∃ r0, r0 = m := ⟨_, rfl⟩
      have hmmi : ¬ (mid : Int) < m := by omega
      simp (disch := omega) [c116, wrap_i64, wrap_u64, c1, c2, he0, hmm, hmmi]
    all_goals
      refine Run.loopA (ι := Nat × Nat) [(0, 0)] (fun q => s0 ≤ q.1 ∧ q.1 ≤ q.2 ∧ q.2 ≤ r0 ∧ (q.1 = s0 ∨ ¬ cPd (gd D (mid + m - q.1)) (gd D (q.1 - 1)) < 0) ∧ (q.2 = r0 ∨ cPd (gd D (mid + m - 1 - q.2)) (gd D q.2) < 0)) (fun q => ⟨[(0, .h 0), (1, .I a), (2, .I m), (3, .I b), (4, .fn 76 []), (18, .I mid), (19, .I ((mid : Int) + m)), (20, .I q.1), (21, .I q.2), (22, .I ((mid : Int) + m - 1))], [(0, ⟨false, 2, D.map paidV⟩)], 1024⟩) (fun q => q.2 - q.1) (s0, r0) (by decide) (by simp [hs0, hr0]) ⟨by simp, by simp; omega, by simp, .inl rfl, .inl rfl⟩ ?_
      rintro ⟨s, r⟩ ⟨hss, hsr, hrr, q1, q2⟩ ih
      simp only at hss hsr hrr q1 q2 ih
      by_cases h : s < r
      · have he := half_eq (i := s) (j := r) (by omega)
        generalize hk : (s + r) / 2 = k at he
        have g1 := gd_some (D := D) (i := mid + m - 1 - k) (by omega)
        have g2 := gd_some (D := D) (i := k) (by omega)
        have hcc := hcmp (gd D (mid + m - 1 - k)) (gd D k)
        have hxv : ∀ x : PaidT, paidV x = .st [.i x.1, .word x.2.1] := fun x => by obtain ⟨a, b, c⟩ := x; rfl
        have hb1 : mid + m - 1 - k < D.length := by omega
        have hb2 : k < D.length := by omega
        have hk1 : gd D (mid + m - (k + 1)) = gd D (mid + m - 1 - k) := by rw [show mid + m - (k + 1) = mid + m - 1 - k by omega]
        generalize hy : gd D (mid + m - 1 - k) = y at g1 hcc hk1
        generalize hx : gd D k = x at g2 hcc
        obtain ⟨g1a, g1b⟩ := List.getElem?_eq_some_iff.1 g1
        obtain ⟨g2a, g2b⟩ := List.getElem?_eq_some_iff.1 g2
        rw [hxv, hxv] at hcc
        have e1 : ((mid : Int) + m - 1 - k).toNat = mid + m - 1 - k := by omega
        have e2 : (0 : Int) ≤ (mid : Int) + m - 1 - k := by omega
        have e3 : (k : Int) ≤ (mid : Int) + m - 1 := by omega
        have e4 : (k : Int) + 1 ≤ (mid : Int) + m := by omega
        simp (disch := omega) [h, wrap_i64, wrap_u64, he, e1, e2, e3, e4, g1, g2, g1b, g2b, hxv, hb1, hb2]
        refine CallG.lent rfl rfl rfl rfl hcc rfl ?_
        by_cases q : cPd y x < 0
        · have q' : ¬ 0 ≤ cPd y x := by omega
          simp (disch := omega) [q, q', wrap_i64]
          exact ih (s, k) _ ⟨hss, by simp; omega, by simp; omega, q1, .inr (by rw [hy, hx]; exact q)⟩ (by simp; omega) (by simp)
        · have q' : 0 ≤ cPd y x := by omega
          simp (disch := omega) [q, q', wrap_i64]
          exact ih (k + 1, r) _ ⟨by simp; omega, by simp; omega, hrr, .inr (by rw [hk1, Nat.add_sub_cancel, hx]; exact q), q2⟩ (by simp; omega) (by simp)
      · have hsr2 : s = r := by omega
        subst hsr2
        have hf := hfound s (by omega) (by omega) (by omega) (by omega) (by omega) (q1.imp (fun e => by omega) id) (q2.imp (fun e => by omega) id)
        have f0 := tail_facts hrot hrec hDD hR hf hA hB hD ha hm hb (by omega) (by omega) (by omega) (by omega) (by omega) (by omega) hN
        obtain ⟨D1, D2, ⟨F1, G1⟩, ⟨F2, G2⟩, F3, G3⟩ := f0
        have hlt : ¬ s < s := by omega
        have hge : s ≤ s := by omega
        clear hfound hf hrec hrot hcmp ih q1 q2
        by_cases u1 : s < m
        · by_cases u2 : s < mid
          · by_cases u3 : a < s
            · by_cases u4 : mid + m - s < b
              · have U1 : (s : Int) < m := by omega
                have U2 : (m : Int) < (mid : Int) + m - s := by omega
                have U3 : (a : Int) < s := by omega
                have U4 : (s : Int) < mid := by omega
                have U5 : (mid : Int) < (mid : Int) + m - s := by omega
                have U6 : (mid : Int) + m - s < b := by omega
                simp (disch := omega) [wrap_i64, hlt, hge, U1, U2, U3, U4, U5, U6]
                refine CallG.rows [0] rfl rfl rfl rfl (by simp) (by simp) (F1 u1 u2) (by simp) (by simp) ?_
                simp (disch := omega) [wrap_i64, hlt, hge, U1, U2, U3, U4, U5, U6]
                refine CallG.rows [0] rfl rfl rfl rfl (by simp) (by simp) (F2 u3 u2) (by simp) (by simp) ?_
                simp (disch := omega) [wrap_i64, hlt, hge, U1, U2, U3, U4, U5, U6]
                refine CallG.rows [0] rfl rfl rfl rfl (by simp) (by simp) (F3 u1 u4) (by simp) (by simp) ?_
                simp
                exact Ends.one rfl rfl rfl rfl
              · have U1 : (s : Int) < m := by omega
                have U2 : (m : Int) < (mid : Int) + m - s := by omega
                have U3 : (a : Int) < s := by omega
                have U4 : (s : Int) < mid := by omega
                have U5 : (mid : Int) < (mid : Int) + m - s := by omega
                have U6 : ¬ (mid : Int) + m - s < b := by omega
                obtain rfl := G3 (by omega)
                simp (disch := omega) [wrap_i64, hlt, hge, U1, U2, U3, U4, U5, U6]
                refine CallG.rows [0] rfl rfl rfl rfl (by simp) (by simp) (F1 u1 u2) (by simp) (by simp) ?_
                simp (disch := omega) [wrap_i64, hlt, hge, U1, U2, U3, U4, U5, U6]
                refine CallG.rows [0] rfl rfl rfl rfl (by simp) (by simp) (F2 u3 u2) (by simp) (by simp) ?_
                simp (disch := omega) [wrap_i64, hlt, hge, U1, U2, U3, U4, U5, U6]
                exact Ends.one rfl rfl rfl rfl
            · by_cases u4 : mid + m - s < b
              · have U1 : (s : Int) < m := by omega
                have U2 : (m : Int) < (mid : Int) + m - s := by omega
                have U3 : ¬ (a : Int) < s := by omega
                have U4 : (s : Int) < mid := by omega
                have U5 : (mid : Int) < (mid : Int) + m - s := by omega
                have U6 : (mid : Int) + m - s < b := by omega
                obtain rfl := G2 (by omega)
                simp (disch := omega) [wrap_i64, hlt, hge, U1, U2, U3, U4, U5, U6]
                refine CallG.rows [0] rfl rfl rfl rfl (by simp) (by simp) (F1 u1 u2) (by simp) (by simp) ?_
                simp (disch := omega) [wrap_i64, hlt, hge, U1, U2, U3, U4, U5, U6]
                refine CallG.rows [0] rfl rfl rfl rfl (by simp) (by simp) (F3 u1 u4) (by simp) (by simp) ?_
                simp
                exact Ends.one rfl rfl rfl rfl
              · have U1 : (s : Int) < m := by omega
                have U2 : (m : Int) < (mid : Int) + m - s := by omega
                have U3 : ¬ (a : Int) < s := by omega
                have U4 : (s : Int) < mid := by omega
                have U5 : (mid : Int) < (mid : Int) + m - s := by omega
                have U6 : ¬ (mid : Int) + m - s < b := by omega
                obtain rfl := G3 (by omega)
                obtain rfl := G2 (by omega)
                simp (disch := omega) [wrap_i64, hlt, hge, U1, U2, U3, U4, U5, U6]
                refine CallG.rows [0] rfl rfl rfl rfl (by simp) (by simp) (F1 u1 u2) (by simp) (by simp) ?_
                simp (disch := omega) [wrap_i64, hlt, hge, U1, U2, U3, U4, U5, U6]
                exact Ends.one rfl rfl rfl rfl
          · by_cases u3 : a < s
            · by_cases u4 : mid + m - s < b
              · have U1 : (s : Int) < m := by omega
                have U2 : ¬ (m : Int) < (mid : Int) + m - s := by omega
                have U3 : (a : Int) < s := by omega
                have U4 : ¬ (s : Int) < mid := by omega
                have U5 : (mid : Int) < (mid : Int) + m - s := by omega
                have U6 : (mid : Int) + m - s < b := by omega
                obtain rfl := G2 (by omega)
                obtain rfl := G1 (by omega)
                simp (disch := omega) [wrap_i64, hlt, hge, U1, U2, U3, U4, U5, U6]
                refine CallG.rows [0] rfl rfl rfl rfl (by simp) (by simp) (F3 u1 u4) (by simp) (by simp) ?_
                simp
                exact Ends.one rfl rfl rfl rfl
              · have U1 : (s : Int) < m := by omega
                have U2 : ¬ (m : Int) < (mid : Int) + m - s := by omega
                have U3 : (a : Int) < s := by omega
                have U4 : ¬ (s : Int) < mid := by omega
                have U5 : (mid : Int) < (mid : Int) + m - s := by omega
                have U6 : ¬ (mid : Int) + m - s < b := by omega
                obtain rfl := G3 (by omega)
                obtain rfl := G2 (by omega)
                obtain rfl := G1 (by omega)
                simp (disch := omega) [wrap_i64, hlt, hge, U1, U2, U3, U4, U5, U6]
                exact Ends.one rfl rfl rfl rfl
            · by_cases u4 : mid + m - s < b
              · have U1 : (s : Int) < m := by omega
                have U2 : ¬ (m : Int) < (mid : Int) + m - s := by omega
                have U3 : ¬ (a : Int) < s := by omega
                have U4 : ¬ (s : Int) < mid := by omega
                have U5 : (mid : Int) < (mid : Int) + m - s := by omega
                have U6 : (mid : Int) + m - s < b := by omega
                obtain rfl := G2 (by omega)
                obtain rfl := G1 (by omega)
                simp (disch := omega) [wrap_i64, hlt, hge, U1, U2, U3, U4, U5, U6]
                refine CallG.rows [0] rfl rfl rfl rfl (by simp) (by simp) (F3 u1 u4) (by simp) (by simp) ?_
                simp
                exact Ends.one rfl rfl rfl rfl
              · have U1 : (s : Int) < m := by omega
                have U2 : ¬ (m : Int) < (mid : Int) + m - s := by omega
                have U3 : ¬ (a : Int) < s := by omega
                have U4 : ¬ (s : Int) < mid := by omega
                have U5 : (mid : Int) < (mid : Int) + m - s := by omega
                have U6 : ¬ (mid : Int) + m - s < b := by omega
                obtain rfl := G3 (by omega)
                obtain rfl := G2 (by omega)
                obtain rfl := G1 (by omega)
                simp (disch := omega) [wrap_i64, hlt, hge, U1, U2, U3, U4, U5, U6]
                exact Ends.one rfl rfl rfl rfl
        · by_cases u2 : s < mid
          · by_cases u3 : a < s
            · by_cases u4 : mid + m - s < b
              · have U1 : ¬ (s : Int) < m := by omega
                have U2 : (m : Int) < (mid : Int) + m - s := by omega
                have U3 : (a : Int) < s := by omega
                have U4 : (s : Int) < mid := by omega
                have U5 : ¬ (mid : Int) < (mid : Int) + m - s := by omega
                have U6 : (mid : Int) + m - s < b := by omega
                obtain rfl := G3 (by omega)
                obtain rfl := G1 (by omega)
                simp (disch := omega) [wrap_i64, hlt, hge, U1, U2, U3, U4, U5, U6]
                refine CallG.rows [0] rfl rfl rfl rfl (by simp) (by simp) (F2 u3 u2) (by simp) (by simp) ?_
                simp (disch := omega) [wrap_i64, hlt, hge, U1, U2, U3, U4, U5, U6]
                exact Ends.one rfl rfl rfl rfl
              · have U1 : ¬ (s : Int) < m := by omega
                have U2 : (m : Int) < (mid : Int) + m - s := by omega
                have U3 : (a : Int) < s := by omega
                have U4 : (s : Int) < mid := by omega
                have U5 : ¬ (mid : Int) < (mid : Int) + m - s := by omega
                have U6 : ¬ (mid : Int) + m - s < b := by omega
                obtain rfl := G3 (by omega)
                obtain rfl := G1 (by omega)
                simp (disch := omega) [wrap_i64, hlt, hge, U1, U2, U3, U4, U5, U6]
                refine CallG.rows [0] rfl rfl rfl rfl (by simp) (by simp) (F2 u3 u2) (by simp) (by simp) ?_
                simp (disch := omega) [wrap_i64, hlt, hge, U1, U2, U3, U4, U5, U6]
                exact Ends.one rfl rfl rfl rfl
            · by_cases u4 : mid + m - s < b
              · have U1 : ¬ (s : Int) < m := by omega
                have U2 : (m : Int) < (mid : Int) + m - s := by omega
                have U3 : ¬ (a : Int) < s := by omega
                have U4 : (s : Int) < mid := by omega
                have U5 : ¬ (mid : Int) < (mid : Int) + m - s := by omega
                have U6 : (mid : Int) + m - s < b := by omega
                obtain rfl := G3 (by omega)
                obtain rfl := G2 (by omega)
                obtain rfl := G1 (by omega)
                simp (disch := omega) [wrap_i64, hlt, hge, U1, U2, U3, U4, U5, U6]
                exact Ends.one rfl rfl rfl rfl
              · have U1 : ¬ (s : Int) < m := by omega
                have U2 : (m : Int) < (mid : Int) + m - s := by omega
                have U3 : ¬ (a : Int) < s := by omega
                have U4 : (s : Int) < mid := by omega
                have U5 : ¬ (mid : Int) < (mid : Int) + m - s := by omega
                have U6 : ¬ (mid : Int) + m - s < b := by omega
                obtain rfl := G3 (by omega)
                obtain rfl := G2 (by omega)
                obtain rfl := G1 (by omega)
                simp (disch := omega) [wrap_i64, hlt, hge, U1, U2, U3, U4, U5, U6]
                exact Ends.one rfl rfl rfl rfl
          · by_cases u3 : a < s
            · by_cases u4 : mid + m - s < b
              · have U1 : ¬ (s : Int) < m := by omega
                have U2 : ¬ (m : Int) < (mid : Int) + m - s := by omega
                have U3 : (a : Int) < s := by omega
                have U4 : ¬ (s : Int) < mid := by omega
                have U5 : ¬ (mid : Int) < (mid : Int) + m - s := by omega
                have U6 : (mid : Int) + m - s < b := by omega
                obtain rfl := G3 (by omega)
                obtain rfl := G2 (by omega)
                obtain rfl := G1 (by omega)
                simp (disch := omega) [wrap_i64, hlt, hge, U1, U2, U3, U4, U5, U6]
                exact Ends.one rfl rfl rfl rfl
              · have U1 : ¬ (s : Int) < m := by omega
                have U2 : ¬ (m : Int) < (mid : Int) + m - s := by omega
                have U3 : (a : Int) < s := by omega
                have U4 : ¬ (s : Int) < mid := by omega
                have U5 : ¬ (mid : Int) < (mid : Int) + m - s := by omega
                have U6 : ¬ (mid : Int) + m - s < b := by omega
                obtain rfl := G3 (by omega)
                obtain rfl := G2 (by omega)
                obtain rfl := G1 (by omega)
                simp (disch := omega) [wrap_i64, hlt, hge, U1, U2, U3, U4, U5, U6]
                exact Ends.one rfl rfl rfl rfl
            · by_cases u4 : mid + m - s < b
              · have U1 : ¬ (s : Int) < m := by omega
                have U2 : ¬ (m : Int) < (mid : Int) + m - s := by omega
                have U3 : ¬ (a : Int) < s := by omega
                have U4 : ¬ (s : Int) < mid := by omega
                have U5 : ¬ (mid : Int) < (mid : Int) + m - s := by omega
                have U6 : (mid : Int) + m - s < b := by omega
                obtain rfl := G3 (by omega)
                obtain rfl := G2 (by omega)
                obtain rfl := G1 (by omega)
                simp (disch := omega) [wrap_i64, hlt, hge, U1, U2, U3, U4, U5, U6]
                exact Ends.one rfl rfl rfl rfl
              · have U1 : ¬ (s : Int) < m := by omega
                have U2 : ¬ (m : Int) < (mid : Int) + m - s := by omega
                have U3 : ¬ (a : Int) < s := by omega
                have U4 : ¬ (s : Int) < mid := by omega
                have U5 : ¬ (mid : Int) < (mid : Int) + m - s := by omega
                have U6 : ¬ (mid : Int) + m - s < b := by omega
                obtain rfl := G3 (by omega)
                obtain rfl := G2 (by omega)
                obtain rfl := G1 (by omega)
                simp (disch := omega) [wrap_i64, hlt, hge, U1, U2, U3, U4, U5, U6]
                exact Ends.one rfl rfl rfl rfl

end Go.Proofs
