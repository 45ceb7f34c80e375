/- The walk. -/
import Derived.Test.YtepjlojlkionfaaRo3
import Derived.Test.YtepjlojlkionfaaProg
import Derived.KernelRfl
set_option linter.all false
set_option maxHeartbeats 2000000
namespace Go.Proofs
open Go Go.AM
attribute [local irreducible] Run Ends
theorem prOk_eq (n : Nat) : ∀ (P : List (List Int)) (ok : Bool), prOk n P ok = (ok && P.all (csB n 0))
  | [], ok => by simp [prOk]
  | l :: P, ok => by simp [prOk, prOk_eq n P, Bool.and_assoc]
def woA (n : Nat) : Option WorthT → List WorthT → Bool
  | _, [] => true
  | none, w :: W => csB n (-1) w.2.1 && woA n (some w) W
  | some a, w :: W => (csB n (-1) w.2.1 && ltB a.1 w.1) && woA n (some w) W
theorem woOk_eq (n : Nat) : ∀ (W : List WorthT) (p : Option WorthT) (ok : Bool), woOk n p W ok = (ok && woA n p W)
  | [], p, ok => by cases p <;> simp [woOk, woA]
  | w :: W, none, ok => by simp [woOk, woA, woOk_eq n W, Bool.and_assoc]
  | w :: W, some a, ok => by simp [woOk, woA, woOk_eq n W, Bool.and_assoc]
theorem fok23 (t : TagT) (ht : tagS t) : FOk Try.prog 23 [.v (tagV t)] [] (.I (valF t)) [] := by
  obtain ⟨G, Fi, Z, P, W, U, uu⟩ := t
  obtain ⟨hG, ⟨f1, _⟩, ⟨z1, _⟩, ⟨p1, p2⟩, ⟨w1, w2⟩, ⟨u1, _⟩⟩ := ht
  simp only at hG f1 z1 p1 p2 w1 w2 u1
  have g1 := hG.1
  refine FOk.val k23 (by simp) (by simp) (by decide) ?_
  simp only [valF]
  have hok : okF (G, Fi, Z, P, W, U, uu) = ((((((csB G.length 0 Fi && csB G.length 0 Z) && csB G.length (-1) U) && decide (P.length = G.length))) && P.all (csB G.length 0)) && woA G.length none W) := by
    unfold okF
    rw [woOk_eq, prOk_eq]
  generalize okF (G, Fi, Z, P, W, U, uu) = res at hok ⊢
  simp [c23, tagV]
  by_cases c1 : 16 < G.length
  · have c1' : ¬ G.length ≤ 16 := by omega
    simp [c1, c1']
    exact Ends.v rfl (by simp)
  have c1' : G.length ≤ 16 := by omega
  by_cases c2 : 300 < W.length
  · have c2' : ¬ W.length ≤ 300 := by omega
    simp [c1, c1', c2, c2']
    exact Ends.v rfl (by simp)
  have c2' : W.length ≤ 300 := by omega
  simp [c1, c1', c2, c2']
  generalize hr3 : (if W.any lngWo = true then (3 : Int) else if ascN none G = false then 1 else if res = true then 0 else 1) = r3
  refine Run.loopA (ι := Nat) [(1, 1)] (fun i => i ≤ W.length ∧ ∀ x ∈ W.take i, lngWo x = false) (fun i => ⟨[(1, .ptr 1 0 0), (3, .I i)], [(1, ⟨false, 6, [tagV (G, Fi, Z, P, W, U, uu)]⟩)], 1024⟩) (fun i => W.length - i) 0 (by decide) (by simp [tagV]) (by simp) ?_
  rintro i ⟨hi, hno⟩ ih
  by_cases h : i < W.length
  · have hyes := any_at lngWo W h
    have hnext := any_take lngWo W h hno
    generalize hx : W[i] = x at hyes hnext
    obtain ⟨xw, xc, xu⟩ := x
    by_cases hl : 400 < xw.length
    · rw [if_pos (hyes (by simp [lngWo, hl]))] at hr3
      subst hr3
      simp (disch := omega) [h, wrap_i64, hx, worthV, tagV, hl]
      exact Ends.v rfl (by simp)
    · simp (disch := omega) [h, wrap_i64, hx, worthV, tagV, hl]
      exact ih (i + 1) _ ⟨by omega, hnext (by simp [lngWo]; omega)⟩ (by omega) (by simp [tagV])
  have hiW : i = W.length := by omega
  subst hiW
  rw [List.take_length] at hno
  rw [any_end lngWo W hno] at hr3
  simp only [Bool.false_eq_true, if_false] at hr3
  clear ih h hi hno
  have k0 := fok58 G hG
  have k1 := fok59 Fi G.length 0 f1
  have k2 := fok59 Z G.length 0 z1
  have k3 := fok59 U G.length (-1) u1
  have k4 := fun (l : List Int) (hl : l ∈ P) => fok59 l G.length 0 (p2 l hl).1
  have k5 := fun (w : WorthT) (hw : w ∈ W) => fok59 w.2.1 G.length (-1) (w2 w hw).2.1
  simp only [intsV] at k1 k2 k3 k4 k5
  generalize ascN none G = x0 at k0 hr3
  generalize csB G.length 0 Fi = x1 at k1 hok
  generalize csB G.length 0 Z = x2 at k2 hok
  generalize csB G.length (-1) U = x3 at k3 hok
  simp [tagV, intsV]
  refine CallG.lent rfl rfl rfl rfl k0 rfl ?_
  cases x0
  case false =>
    simp
    exact Ends.v rfl (by simp [← hr3])
  simp only [Bool.true_eq_false, if_false] at hr3
  simp
  refine CallG.lent rfl rfl rfl rfl k1 rfl ?_
  cases x1
  case false =>
    simp at hok
    subst hok
    simp
    exact Ends.v rfl (by simp [← hr3])
  simp
  refine CallG.lent rfl rfl rfl rfl k2 rfl ?_
  cases x2
  case false =>
    simp at hok
    subst hok
    simp
    exact Ends.v rfl (by simp [← hr3])
  simp
  by_cases hP : P.length = G.length
  case neg =>
    have hP' : ¬ (P.length : Int) = (G.length : Int) := by omega
    simp [hP] at hok
    subst hok
    simp [hP, hP']
    exact Ends.v rfl (by simp [← hr3])
  have hP' : (P.length : Int) = (G.length : Int) := by omega
  simp [hP, hP']
  refine CallG.lent rfl rfl rfl rfl k3 rfl ?_
  cases x3
  case false =>
    simp at hok
    subst hok
    simp
    exact Ends.v rfl (by simp [← hr3])
  simp only [hP, decide_true, Bool.true_and] at hok
  simp
  refine Run.loopA (ι := Nat) [(1, 1)] (fun i => i ≤ P.length ∧ ∀ x ∈ P.take i, csB G.length 0 x = true) (fun i => ⟨[(1, .ptr 1 0 0), (4, .I G.length), (5, .I i)], [(1, ⟨false, 6, [tagV (G, Fi, Z, P, W, U, uu)]⟩)], 1024⟩) (fun i => P.length - i) 0 (by decide) (by simp [tagV, intsV]) (by simp) ?_
  rintro i ⟨hi, hno⟩ ih
  by_cases h : i < P.length
  · have h2 : i < G.length := by omega
    have kk := k4 P[i] (List.getElem_mem h)
    have hst : csB G.length 0 P[i] = true → ∀ x ∈ P.take (i + 1), csB G.length 0 x = true := by
      intro q x hx
      rw [List.take_succ_eq_append_getElem h, List.mem_append] at hx
      rcases hx with hx | hx
      · exact hno x hx
      · simp at hx; subst hx; exact q
    have hbad : csB G.length 0 P[i] = false → P.all (csB G.length 0) = false := fun q => by
      rw [List.all_eq_false]; exact ⟨P[i], List.getElem_mem h, by simp [q]⟩
    generalize csB G.length 0 P[i] = y at kk hst hbad
    simp (disch := omega) [h, h2, wrap_i64, tagV, intsV]
    refine CallG.lent rfl rfl rfl rfl kk rfl ?_
    cases y
    · rw [hbad rfl, Bool.false_and] at hok
      subst hok
      simp (disch := omega) [wrap_i64]
      exact Ends.v rfl (by simp [← hr3])
    · simp (disch := omega) [wrap_i64]
      exact ih (i + 1) _ ⟨by omega, hst rfl⟩ (by omega) (by simp [tagV, intsV])
  have hiP : i = P.length := by omega
  have hall : P.all (csB G.length 0) = true := by
    subst hiP
    rw [List.take_length] at hno
    rw [List.all_eq_true]; exact hno
  rw [hall, Bool.true_and] at hok
  clear ih hno hall
  have h2 : ¬ i < G.length := by omega
  simp [h2, tagV]
  clear h h2 hi hiP
  refine Run.loopA (ι := Nat) [(1, 1)] (fun i => i ≤ W.length ∧ res = woA G.length (pv W i) (W.drop i)) (fun i => ⟨[(1, .ptr 1 0 0), (4, .I G.length), (6, .I i)], [(1, ⟨false, 6, [tagV (G, Fi, Z, P, W, U, uu)]⟩)], 1024⟩) (fun i => W.length - i) 0 (by decide) (by simp [tagV, intsV]) ⟨by simp, by simpa [pv] using hok⟩ ?_
  rintro i ⟨hi, hall⟩ ih
  by_cases h : i < W.length
  · rw [drop_at h] at hall
    have kk := k5 W[i] (List.getElem_mem h)
    have hnx := pv_succ W h
    generalize hx : W[i] = x at kk hnx hall
    obtain ⟨xw, xc, xu⟩ := x
    simp only at kk
    generalize hy : csB G.length (-1) xc = y at kk
    simp (disch := omega) [h, wrap_i64, hx, worthV, intsV, tagV]
    refine CallG.lent rfl rfl rfl rfl kk rfl ?_
    cases y
    · have hall2 : res = false := by
        cases hq : pv W i <;> rw [hq] at hall <;> simpa [woA, hy] using hall
      subst hall2
      simp (disch := omega) [wrap_i64]
      exact Ends.v rfl (by simp [← hr3])
    · rcases i with _ | i
      · simp (disch := omega) [wrap_i64, hx, worthV, intsV, tagV]
        exact ih 1 _ ⟨by omega, by rw [hnx]; simpa [pv, woA, hy] using hall⟩ (by omega) (by simp [tagV, intsV])
      · have h' : i < W.length := by omega
        rw [pv_succ W h'] at hall
        have e2 : (((i : Int) + 1) - 1) = (i : Int) := by omega
        generalize hz : W[i] = z at hall
        obtain ⟨zw, zc, zu⟩ := z
        simp only [woA, hy, Bool.true_and] at hall
        cases hlt : ltB zw xw
        · rw [hlt, Bool.false_and] at hall
          subst hall
          simp (disch := omega) [wrap_i64, hx, worthV, intsV, tagV, e2, h', hz, h, hlt]
          exact Ends.v rfl (by simp [← hr3])
        · rw [hlt, Bool.true_and] at hall
          simp (disch := omega) [wrap_i64, hx, worthV, intsV, tagV, e2, h', hz, h, hlt]
          exact ih (i + 1 + 1) _ ⟨by omega, by rw [hnx]; exact hall⟩ (by omega) (by simp [tagV, intsV])
  · rw [drop_no h] at hall
    have : res = true := by rw [hall]; cases pv W i <;> rfl
    subst this
    simp [h, tagV]
    exact Ends.v rfl (by simp [← hr3])
theorem fok38 (t : TagT) (l : List Bs) (ht : tagS t) (hl : l.length ≤ 200000000000000) : FOk Try.prog 38 [.v (tagV t), .v (.word l)] [] (.I (chkF t l.length)) [] := by
  have h1 := fok23 t ht
  obtain ⟨G, Fi, Z, P, W, U, uu⟩ := t
  refine FOk.val k38 (by simp) (by simp) (by decide) ?_
  simp only [chkF]
  generalize valF (G, Fi, Z, P, W, U, uu) = v at h1 ⊢
  simp only [tagV] at h1
  simp [c38, tagV]
  refine CallG.lent rfl rfl rfl rfl h1 rfl ?_
  by_cases hv : v = 0
  case neg =>
    simp [hv]
    exact Ends.v rfl (by simp [hv])
  subst hv
  by_cases h2 : 200 < l.length
  · simp [h2]
    exact Ends.v rfl (by simp [h2])
  · simp [h2]
    exact Ends.v rfl (by simp [h2])

end Go.Proofs
