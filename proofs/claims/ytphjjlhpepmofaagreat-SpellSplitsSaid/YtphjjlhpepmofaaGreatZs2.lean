/- The walk. -/
import Derived.Test.YtphjjlhpepmofaaGreatZs1
import Derived.Test.YtphjjlhpepmofaaGreatF3
import Derived.Test.YtphjjlhpepmofaaGreatKl0
import Derived.Test.YtphjjlhpepmofaaGreatProg
import Derived.KernelRfl
set_option linter.all false
set_option maxHeartbeats 2000000
namespace Go.Proofs
open Go Go.AM
attribute [local irreducible] Run Ends
/-- slices.Sort[[]string,string] -/
def c114 : MC :=
  .seq (.reg false [.op .none 3 (.mv (.t 0)),
    .op .none 4 (.len false (.t 3)),
    .op .none 2 (.mv (.t 4))]) <|
  .reg false [.op .none 5 (.mv (.t 0)),
    .op .none 6 (.mv (.t 2)),
    .op .none 7 (.mv (.t 2)),
    .op .none 8 (.conv .u64 (.t 7)),
    .call .none 9 (.f 76) [(.t 8)],
    .call .none 10 (.f 134) [(.t 5), (.c (.w (.int .i64 0))), (.t 6), (.t 9)]]
theorem k114 : FnCode Tryz.prog 114 [] 11 [] c114 := ⟨Tryz.f114, Tryz.func114, fun xs W => Tryz.call114 xs W, by kernel_rfl, by kernel_rfl, by kernel_rfl⟩

/-- ablaut/store.copied -/
def c81 : MC :=
  .seq (.reg false [.op .none 2 (.nilS 1)]) <|
  .seq (.reg false [.op .none 3 (.nilS 1)]) <|
  .seq (.seq (.reg false [.op .none 6 (.mv (.t 0)),
    .op .none 7 (.len false (.t 6)),
    .op .none 8 (.mv (.c (.w (.int .i64 0))))]) <|
  .block 0 <|
    .loop <|
      .seq (.reg false [.op .none 9 (.bin .lss (.t 8) (.t 7))]) <|
      .seq (.cond (.t 9)
        (.skip)
        (.exit 0)) <|
      .seq (.block 1 <|
        .seq (.reg false [.op .none 10 (.ia 1 (.t 6) (.t 8)),
          .op .none 11 (.ld false 1 (.t 10)),
          .op .none 5 (.mv (.t 11))]) <|
        .reg false [.op .none 12 (.mv (.t 3)),
          .op .none 13 (.mv (.t 5)),
          .call .none 14 (.f 34) [(.t 13)],
          .op .none 15 (.buildS false 1 1 false [(.sl 1 [])] [(0, (.t 14))]),
          .op .none 16 (.app 1 24 (.t 12) (.t 15)),
          .op .none 3 (.mv (.t 16))]) <|
      .reg false [.op .none 17 (.bin .add (.t 8) (.c (.w (.int .i64 1)))),
        .op .none 8 (.mv (.t 17))]) <|
  .seq (.reg false [.op .none 18 (.mv (.t 3)),
    .op .none 2 (.mv (.t 18))]) <|
  .ret
theorem k81 : FnCode Tryz.prog 81 [] 19 [2] c81 := ⟨Tryz.f81, Tryz.func81, fun xs W => Tryz.call81 xs W, by kernel_rfl, by kernel_rfl, by kernel_rfl⟩

/-- ablaut/store.sigmaOf -/
def c83 : MC :=
  .seq (.reg false [.op .none 2 (.nilS 1)]) <|
  .seq (.reg false [.op .none 10 (.mkM),
    .op .none 3 (.mv (.t 10))]) <|
  .seq (.seq (.reg false [.op .none 11 (.mv (.t 0)),
    .op .none 12 (.len false (.t 11)),
    .op .none 13 (.mv (.c (.w (.int .i64 0))))]) <|
  .block 0 <|
    .loop <|
      .seq (.reg false [.op .none 14 (.bin .lss (.t 13) (.t 12))]) <|
      .seq (.cond (.t 14)
        (.skip)
        (.exit 0)) <|
      .seq (.block 1 <|
        .seq (.reg false [.op .none 15 (.ia 1 (.t 11) (.t 13)),
          .op .none 16 (.ld false 1 (.t 15)),
          .op .none 5 (.mv (.t 16))]) <|
        .seq (.reg false [.op .none 17 (.mv (.t 5)),
          .op .none 18 (.len false (.t 17)),
          .op .none 19 (.mv (.c (.w (.int .i64 0))))]) <|
        .block 2 <|
          .loop <|
            .seq (.reg false [.op .none 20 (.bin .lss (.t 19) (.t 18))]) <|
            .seq (.cond (.t 20)
              (.skip)
              (.exit 2)) <|
            .seq (.block 3 <|
              .seq (.reg false [.op .none 21 (.ia 1 (.t 17) (.t 19)),
                .op .none 22 (.ld false 1 (.t 21)),
                .op .none 7 (.mv (.t 22))]) <|
              .reg false [.op .none 23 (.mv (.t 3)),
                .op .none 24 (.mv (.t 7)),
                .store .none (.mup false [false] (.t 23) (.t 24) (.c (.w (.bool true))))]) <|
            .reg false [.op .none 25 (.bin .add (.t 19) (.c (.w (.int .i64 1)))),
              .op .none 19 (.mv (.t 25))]) <|
      .reg false [.op .none 26 (.bin .add (.t 13) (.c (.w (.int .i64 1)))),
        .op .none 13 (.mv (.t 26))]) <|
  .seq (.reg false [.op .none 8 (.nilS 1)]) <|
  .seq (.seq (.reg false [.op .none 27 (.mv (.t 3)),
    .op .none 28 (.rng (.t 27))]) <|
  .block 4 <|
    .loop <|
      .seq (.next 29 30 (.t 28)) <|
      .seq (.cond (.t 30)
        (.skip)
        (.exit 4)) <|
      .block 5 <|
        .seq (.reg false [.op .none 31 (.ent (.t 28)),
          .op .none 32 (.ext (.t 31) 0),
          .op .none 9 (.mv (.t 32))]) <|
        .reg false [.op .none 33 (.mv (.t 8)),
          .op .none 34 (.mv (.t 9)),
          .op .none 35 (.buildS false 1 1 false [(.w (.string ⟨#[]⟩))] [(0, (.t 34))]),
          .op .none 36 (.app 1 16 (.t 33) (.t 35)),
          .op .none 8 (.mv (.t 36))]) <|
  .seq (.reg false [.op .none 37 (.mv (.t 8)),
    .call .none 38 (.f 114) [(.t 37)]]) <|
  .seq (.reg false [.op .none 39 (.mv (.t 8)),
    .op .none 2 (.mv (.t 39))]) <|
  .ret
theorem k83 : FnCode Tryz.prog 83 [] 40 [2] c83 := ⟨Tryz.f83, Tryz.func83, fun xs W => Tryz.call83 xs W, by kernel_rfl, by kernel_rfl, by kernel_rfl⟩

theorem srtB_perm {l m : List Bs} (h : l.Perm m) : srtB l = srtB m := by
  have hp : ∀ k : List Bs, (srtB k).Pairwise (fun a b => a ≤ b) := fun k => by
    have := List.pairwise_mergeSort (le := fun a b : Bs => decide (a ≤ b)) (by intro a b c h1 h2; simp only [decide_eq_true_eq] at *; exact List.le_trans h1 h2) (by intro a b; simp only [Bool.or_eq_true, decide_eq_true_eq]; exact List.le_total a b) k
    exact this.imp fun {a b} hab => by simpa using hab
  refine List.Perm.eq_of_pairwise (fun a b _ _ h1 h2 => List.le_antisymm h1 h2) (hp l) (hp m) ?_
  exact ((List.mergeSort_perm l _).trans h).trans (List.mergeSort_perm m _).symm
theorem fok114 (l : List Bs) (hl : l.length ≤ 1000000000) : FOk Tryz.prog 114 [.h 0] [(0, ⟨false, 1, strsV l⟩)] (.tup []) [(0, ⟨false, 1, strsV (srtB l)⟩)] := by
  obtain ⟨_, _, h, _⟩ := k114
  exact FOk.sortS Tryz.lays190 h l (by omega)
theorem fok81 (l : List (List Bs)) (hl : l.length ≤ 1000000000) (hw : ∀ w ∈ l, w.length ≤ 1000000000) : FOk Tryz.prog 81 [.v (wordsV l)] [] (.h 0) [(0, ⟨false, 1, l.map PV.word⟩)] := by
  refine FOk.of k81 0 (by simp) (by decide) (by simp) (by simp) (by simp [find]) (by decide) ?_
  simp [c81, wordsV]
  refine Run.loopA (ι := Nat) [(1, 3)] (fun i => i ≤ l.length) (fun i => ⟨[(3, .h 1), (6, .v (.sl 1 (l.map PV.word))), (7, .I l.length), (8, .I i)], [(1, ⟨false, 1, (l.take i).map PV.word⟩)], 1024⟩) (fun i => l.length - i) 0 (by decide) (by simp) (by simp) ?_
  rintro i hi ih
  by_cases h : i < l.length
  · have e : (l.take (i + 1)).map PV.word = (l.take i).map PV.word ++ [PV.word l[i]] := by rw [List.take_succ_eq_append_getElem h, List.map_append]; rfl
    have hb : (i + 1 + 1000) * 24 ≤ 70368744177664 := by omega
    have hm : min i l.length = i := by omega
    have hc := fok34 l[i] (hw _ (List.getElem_mem h))
    have hg : (l.map PV.word)[i]? = some (PV.word l[i]) := by simp [List.getElem?_eq_getElem h]
    generalize l[i] = w at hc e hg
    simp only [PV.word] at hc hg
    simp (disch := (clear hb; omega)) [h, hg, wrap_i64]
    refine CallG.plain rfl rfl rfl rfl hc (by simp) (by simp) ?_
    simp (disch := (clear hb; omega)) [wrap_i64, hb, hm]
    exact ih (i + 1) _ (by clear hb; omega) (by clear hb; omega) (by simp [PV.word, e])
  · have : i = l.length := by omega
    subst this
    simp [h]
    exact Ends.new 1 rfl rfl (by simp) (by simp)

/-! The symbols of words. -/
def add1 (S : List Bs) (x : Bs) : List Bs := if x ∈ S then S else S ++ [x]
def unq (S l : List Bs) : List Bs := l.foldl add1 S
theorem add1_nd {S : List Bs} (x : Bs) (h : S.Nodup) : (add1 S x).Nodup := by
  unfold add1; split
  · exact h
  · rw [List.nodup_append]; exact ⟨h, by simp, fun y hy z hz => by rintro rfl; simp at hz; subst hz; contradiction⟩
theorem unq_nd : ∀ (l : List Bs) {S : List Bs}, S.Nodup → (unq S l).Nodup
  | [], _, h => h
  | x :: l, _, h => unq_nd l (add1_nd x h)
theorem unq_mem : ∀ (l S : List Bs) (x : Bs), x ∈ unq S l ↔ x ∈ S ∨ x ∈ l
  | [], S, x => by simp [unq]
  | y :: l, S, x => by
    rw [show unq S (y :: l) = unq (add1 S y) l from rfl, unq_mem l]
    unfold add1
    split
    · rename_i h; simp only [List.mem_cons]; constructor
      · rintro (h1 | h1); exact .inl h1; exact .inr (.inr h1)
      · rintro (h1 | rfl | h1); exact .inl h1; exact .inl h; exact .inr h1
    · simp [or_assoc]
theorem add1_len (S : List Bs) (x : Bs) : (add1 S x).length ≤ S.length + 1 := by unfold add1; split <;> simp
def seenV (S : List Bs) : List PV := S.map fun s => .st [.w (.string (bs s)), .w (.bool true)]
theorem seen_add (a : Bs) : ∀ S : List Bs, mset false [false] (.w (.string (bs a))) (.w (.bool true)) (seenV S) = some (seenV (add1 S a))
  | [] => rfl
  | x :: S => by
    have ih := seen_add a S
    simp only [seenV, List.map_cons] at ih ⊢
    by_cases h : a = x
    · subst h; simp [mset, keq, add1]
    · have : add1 (x :: S) a = x :: add1 S a := by unfold add1; simp only [List.mem_cons, h, false_or]; split <;> simp
      rw [this]
      simp [mset, keq, h, ih]
theorem seenV_len (S : List Bs) : (seenV S).length = S.length := by simp [seenV]
theorem seenV_get {S : List Bs} {j : Nat} (h : j < S.length) : (seenV S)[j]? = some (.st [.w (.string (bs S[j])), .w (.bool true)]) := by simp [seenV, List.getElem?_eq_getElem h]
def keysB (M : List Bs) (S : List Nat) : List Bs := S.map fun j => M[j]?.getD []
theorem keysB_perm {M : List Bs} {S : List Nat} (hn : S.Nodup) (h1 : ∀ j ∈ S, j < M.length) (h2 : ∀ j, j < M.length → j ∈ S) : (keysB M S).Perm M := by
  have hp : S.Perm (List.range M.length) := (List.perm_ext_iff_of_nodup hn List.nodup_range).2 fun j => ⟨fun h => List.mem_range.2 (h1 j h), fun h => h2 j (List.mem_range.1 h)⟩
  refine (hp.map _).trans (List.Perm.of_eq ?_)
  apply List.ext_getElem
  · simp
  · intro i h3 h4
    simp [List.getElem?_eq_getElem h4]
def sigF (l : List (List Bs)) : List Bs := srtB (unq [] l.flatten)
theorem fok83 (l : List (List Bs)) (hl : l.length ≤ 1000) (hw : ∀ w ∈ l, w.length ≤ 1000) : FOk Tryz.prog 83 [.v (wordsV l)] [] (.v (.sl 1 (strsV (sigF l)))) [] := by
  refine FOk.val k83 (by simp) (by simp) (by decide) ?_
  simp [c83, wordsV]
  refine Run.loopA (ι := Nat × List Bs) [(1, 3)] (fun q => q.1 ≤ l.length ∧ unq q.2 (l.drop q.1).flatten = unq [] l.flatten ∧ q.2.Nodup ∧ q.2.length ≤ 1000 * q.1) (fun q => ⟨[(3, .h 1), (11, .v (.sl 1 (l.map PV.word))), (12, .I l.length), (13, .I q.1)], [(1, ⟨false, 0, mkM :: seenV q.2⟩)], 1024⟩) (fun q => l.length - q.1) (0, []) (by decide) (by simp [seenV]) ⟨by simp, by simp, by simp, by simp⟩ ?_
  rintro ⟨i, S⟩ ⟨hi, hS, hnd, hSl⟩ ih
  simp only at hi hS hnd hSl ih ⊢
  by_cases h : i < l.length
  · have hg : (l.map PV.word)[i]? = some (PV.word l[i]) := by simp [List.getElem?_eq_getElem h]
    have hwl := hw _ (List.getElem_mem h)
    rw [drop_at h, List.flatten_cons] at hS
    generalize l[i] = w at hg hwl hS
    simp only [PV.word] at hg
    simp (disch := omega) [h, hg, wrap_i64]
    refine Run.loopA (ι := Nat × List Bs) [(1, 3)] (fun q => q.1 ≤ w.length ∧ unq q.2 (w.drop q.1 ++ (l.drop (i + 1)).flatten) = unq [] l.flatten ∧ q.2.Nodup ∧ q.2.length ≤ 1000 * i + q.1) (fun q => ⟨[(3, .h 1), (11, .v (.sl 1 (l.map PV.word))), (12, .I l.length), (13, .I i), (17, .v (.word w)), (18, .I w.length), (19, .I q.1)], [(1, ⟨false, 0, mkM :: seenV q.2⟩)], 1024⟩) (fun q => w.length - q.1) (0, S) (by decide) (by simp) ⟨by simp, by simpa using hS, hnd, by simpa using hSl⟩ ?_
    rintro ⟨k, S⟩ ⟨hk, hS, hnd, hSl⟩ ihk
    simp only at hk hS hnd hSl ihk ⊢
    by_cases hk2 : k < w.length
    · have hkg : (w.map fun s => PV.w (.string (bs s)))[k]? = some (.w (.string (bs w[k]))) := by simp [List.getElem?_eq_getElem hk2]
      rw [drop_at hk2, List.cons_append] at hS
      generalize w[k] = x at hkg hS
      simp (disch := omega) [hk2, hkg, wrap_i64, seen_add]
      exact ihk (k + 1, add1 S x) _ ⟨by simp; omega, hS, add1_nd x hnd, by have := add1_len S x; simp; omega⟩ (by simp; omega) (by simp)
    · rw [drop_no hk2, List.nil_append] at hS
      simp (disch := omega) [hk2, wrap_i64]
      exact ih (i + 1, S) _ ⟨by simp; omega, hS, hnd, by simp; omega⟩ (by simp; omega) (by simp)
  · rw [drop_no h] at hS
    have hS : S = unq [] l.flatten := hS
    clear ih
    have hMn : S.length ≤ 1000000 := by omega
    have hres : AV.v (.sl 1 (strsV (sigF l))) = AV.v (.sl 1 (strsV (srtB S))) := by rw [hS]; rfl
    rw [hres]
    clear hS hres
    simp (disch := omega) [h, wrap_i64]
    refine Run.loopA (ι := List Nat) [(1, 3), (2, 8), (3, 28)] (fun T => T.Nodup ∧ ∀ j ∈ T, j < S.length) (fun T => ⟨[(3, .h 1), (8, .h 2), (28, .h 3)], [(1, ⟨false, 0, mkM :: seenV S⟩), (2, ⟨false, 1, strsV (keysB S T)⟩), (3, ⟨false, 0, mkI 1 S.length :: itL T⟩)], 1024⟩) (fun T => S.length - T.length) [] (by decide) (by simp [strsV, keysB, itL, seenV_len]) ⟨by simp, by simp⟩ ?_
    rintro T ⟨hT, hTl⟩ ihT
    have hTn := nd_len _ T hT hTl
    simp
    refine ⟨3, 1, T, seenV S, rfl, by simp [seenV_len], by simp, fun hall => ?_, fun j hj hjT => ?_⟩
    · rw [seenV_len] at hall
      simp
      refine CallG.rows [2] rfl rfl rfl rfl (by simp) (by simp) (fok114 (keysB S T) (by simp [keysB]; omega)) (by simp) (by simp) ?_
      simp
      exact Ends.v rfl (by rw [srtB_perm (keysB_perm hT hTl hall)]; simp)
    · rw [seenV_len] at hj
      have hg := seenV_get hj
      have hkn : keysB S (T ++ [j]) = keysB S T ++ [S[j]] := by simp [keysB, List.getElem?_eq_getElem hj]
      have hb1 : (keysB S T).length ≤ 1000000 := by simp [keysB]; omega
      generalize S[j] = y at hg hkn
      have hb2 : ((strsV (keysB S T)).length + 1 + 1000) * 16 ≤ 70368744177664 := by simp only [strsV, List.length_map]; omega
      have hnn : strsV (keysB S T ++ [y]) = strsV (keysB S T) ++ [.w (.string (bs y))] := by simp [strsV]
      have hlen : S.length - (T.length + 1) < S.length - T.length := by
        have h1 := nd_len S.length (T ++ [j]) (by rw [List.nodup_append]; exact ⟨hT, by simp, fun x hx y hy => by rintro rfl; simp at hy; subst hy; exact hjT hx⟩) (by intro x hx; rcases List.mem_append.1 hx with h | h; exact hTl x h; simp at h; omega)
        rw [List.length_append, List.length_singleton] at h1
        omega
      simp (disch := (clear hb2; omega)) [seenV_len, itL_last, hg, wrap_i64, hb2]
      refine ihT (T ++ [j]) _ ⟨by rw [List.nodup_append]; exact ⟨hT, by simp, fun x hx y hy => by rintro rfl; simp at hy; subst hy; exact hjT hx⟩, by intro x hx; rcases List.mem_append.1 hx with h | h; exact hTl x h; simp at h; omega⟩ (by simpa using hlen) (by rw [hkn, hnn]; simp)

end Go.Proofs
