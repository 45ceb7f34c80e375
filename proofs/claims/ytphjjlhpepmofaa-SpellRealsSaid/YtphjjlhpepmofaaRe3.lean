/- The walk. -/
import Derived.Test.YtphjjlhpepmofaaRe2
import Derived.Test.YtphjjlhpepmofaaProg
import Derived.KernelRfl
set_option linter.all false
set_option maxHeartbeats 2000000
namespace Go.Proofs
open Go Go.AM
attribute [local irreducible] Run Ends
/-- ablaut/spell.mixed -/
def c50 : MC :=
  .seq (.reg false [.op .none 6 (.mv (.c (.w (.int .i64 0))))]) <|
  .seq (.seq (.reg false [.op .none 15 (.mv (.t 0)),
    .op .none 16 (.len false (.t 15)),
    .op .none 17 (.bin .gtr (.t 16) (.c (.w (.int .i64 200)))),
    .op .none 18 (.mv (.t 17)),
    .op (.some (18, false)) 19 (.mv (.t 1)),
    .op (.some (18, false)) 20 (.len false (.t 19)),
    .op (.some (18, false)) 21 (.bin .gtr (.t 20) (.c (.w (.int .i64 200)))),
    .op .none 22 (.pick (.t 18) (.c (.w (.bool true))) (.t 21)),
    .op .none 23 (.mv (.t 22)),
    .op (.some (23, false)) 24 (.mv (.t 2)),
    .op (.some (23, false)) 25 (.len false (.t 24)),
    .op (.some (23, false)) 26 (.bin .gtr (.t 25) (.c (.w (.int .i64 200)))),
    .op .none 27 (.pick (.t 23) (.c (.w (.bool true))) (.t 26))]) <|
  .cond (.t 27)
    (.seq (.reg false [.op .none 6 (.mv (.c (.w (.int .i64 3))))]) <|
    .ret)
    (.skip)) <|
  .seq (.reg false [.op .none 7 (.nilS 1)]) <|
  .seq (.seq (.reg false [.op .none 28 (.mv (.t 0)),
    .op .none 29 (.len false (.t 28)),
    .op .none 30 (.mv (.c (.w (.int .i64 0))))]) <|
  .block 0 <|
    .loop <|
      .seq (.reg false [.op .none 31 (.bin .lss (.t 30) (.t 29))]) <|
      .seq (.cond (.t 31)
        (.skip)
        (.exit 0)) <|
      .seq (.block 1 <|
        .seq (.reg false [.op .none 32 (.ia 1 (.t 28) (.t 30)),
          .op .none 33 (.ld false 1 (.t 32)),
          .op .none 9 (.mv (.t 33))]) <|
        .seq (.seq (.reg false [.op .none 34 (.mv (.t 9)),
          .op .none 35 (.len false (.t 34)),
          .op .none 36 (.bin .gtr (.t 35) (.c (.w (.int .i64 200))))]) <|
        .cond (.t 36)
          (.seq (.reg false [.op .none 6 (.mv (.c (.w (.int .i64 3))))]) <|
          .ret)
          (.skip)) <|
        .reg false [.op .none 37 (.mv (.t 7)),
          .op .none 38 (.mv (.t 9)),
          .op .none 39 (.app 1 24 (.t 37) (.t 38)),
          .op .none 7 (.mv (.t 39))]) <|
      .reg false [.op .none 40 (.bin .add (.t 30) (.c (.w (.int .i64 1)))),
        .op .none 30 (.mv (.t 40))]) <|
  .seq (.seq (.reg false [.op .none 41 (.mv (.t 1)),
    .op .none 42 (.len false (.t 41)),
    .op .none 43 (.mv (.c (.w (.int .i64 0))))]) <|
  .block 2 <|
    .loop <|
      .seq (.reg false [.op .none 44 (.bin .lss (.t 43) (.t 42))]) <|
      .seq (.cond (.t 44)
        (.skip)
        (.exit 2)) <|
      .seq (.block 3 <|
        .seq (.reg false [.op .none 45 (.ia 4 (.t 41) (.t 43)),
          .op .none 46 (.ld true 4 (.t 45)),
          .op .none 11 (.alloc true [(.sl 1 []), (.sl 1 []), (.sl 1 []), (.w (.int .i64 0))]),
          .store .none true 4 (.t 11) (.t 46)]) <|
        .reg false [.op .none 47 (.mv (.t 7)),
          .op .none 48 (.fa 0 (.t 11)),
          .op .none 49 (.ld false 1 (.t 48)),
          .op .none 50 (.fa 1 (.t 11)),
          .op .none 51 (.ld false 1 (.t 50)),
          .op .none 52 (.fa 2 (.t 11)),
          .op .none 53 (.ld false 1 (.t 52)),
          .op .none 54 (.buildS false 1 3 false [(.sl 1 [])] [(0, (.t 49)), (1, (.t 51)), (2, (.t 53))]),
          .op .none 55 (.app 1 24 (.t 47) (.t 54)),
          .op .none 7 (.mv (.t 55))]) <|
      .reg false [.op .none 56 (.bin .add (.t 43) (.c (.w (.int .i64 1)))),
        .op .none 43 (.mv (.t 56))]) <|
  .seq (.seq (.reg false [.op .none 57 (.mv (.t 7)),
    .op .none 58 (.mv (.t 2)),
    .op .none 59 (.buildS false 1 2 false [(.sl 1 [])] [(0, (.t 57)), (1, (.t 58))]),
    .call .none 60 (.f 78) [(.t 59)],
    .op .none 61 (.len false (.t 60)),
    .op .none 62 (.mv (.c (.w (.int .i64 0))))]) <|
  .block 4 <|
    .loop <|
      .seq (.reg false [.op .none 63 (.bin .lss (.t 62) (.t 61))]) <|
      .seq (.cond (.t 63)
        (.skip)
        (.exit 4)) <|
      .seq (.block 5 <|
        .seq (.reg false [.op .none 64 (.ia 1 (.t 60) (.t 62)),
          .op .none 65 (.ld false 1 (.t 64)),
          .op .none 13 (.mv (.t 65))]) <|
        .seq (.reg false [.op .none 66 (.mv (.t 13)),
          .call .none 67 (.f 46) [(.t 66)],
          .op .none 14 (.mv (.t 67))]) <|
        .seq (.reg false [.op .none 68 (.mv (.t 14)),
          .op .none 69 (.bin .neq (.t 68) (.c (.w (.int .i64 0))))]) <|
        .cond (.t 69)
          (.seq (.reg false [.op .none 70 (.mv (.t 14)),
            .op .none 6 (.mv (.t 70))]) <|
          .ret)
          (.skip)) <|
      .reg false [.op .none 71 (.bin .add (.t 62) (.c (.w (.int .i64 1)))),
        .op .none 62 (.mv (.t 71))]) <|
  .seq (.seq (.reg false [.op .none 72 (.mv (.t 1)),
    .call .none 73 (.f 79) [(.t 72), (.f 80)]]) <|
  .cond (.t 73)
    (.seq (.reg false [.op .none 6 (.mv (.c (.w (.int .i64 1))))]) <|
    .ret)
    (.skip)) <|
  .seq (.reg false [.op .none 6 (.mv (.c (.w (.int .i64 0))))]) <|
  .ret
theorem k50 : FnCode Try.prog 50 [] 74 [6] c50 := ⟨Try.f50, Try.func50, fun xs W => Try.call50 xs W, by kernel_rfl, by kernel_rfl, by kernel_rfl⟩

def threeW (s : SeenT) : List (List Bs) := [s.1, s.2.1, s.2.2.1]
def bigL (s : List (List Bs)) : Bool := decide (200 < s.length)
def allW (S : List (List (List Bs))) (L : List SeenT) (l : List (List Bs)) : List (List Bs) := S.flatten ++ L.flatMap threeW ++ l
def mixF (S : List (List (List Bs))) (L : List SeenT) (l : List (List Bs)) : Int :=
  if 200 < S.length ∨ 200 < L.length ∨ 200 < l.length then 3 else if S.any bigL = true then 3 else if vWds (allW S L l) = 0 then (if L.any manyBad = true then 1 else 0) else vWds (allW S L l)
structure MixS (S : List (List (List Bs))) (L : List SeenT) (l : List (List Bs)) : Prop where
  s1 : S.length ≤ 200000000000000
  s2 : ∀ s ∈ S, s.length ≤ 200000000000000 ∧ ∀ w ∈ s, wordS w
  c1 : L.length ≤ 200000000000000
  c2 : ∀ s ∈ L, wordS s.1 ∧ wordS s.2.1 ∧ wordS s.2.2.1
  l1 : l.length ≤ 200000000000000
  l2 : ∀ w ∈ l, wordS w
theorem MixS.all {S : List (List (List Bs))} {L : List SeenT} {l : List (List Bs)} (h : MixS S L l) : ∀ w ∈ allW S L l, wordS w := by
  intro w hw
  simp only [allW, List.mem_append, List.mem_flatten, List.mem_flatMap] at hw
  rcases hw with (⟨s, hs, hw⟩ | ⟨s, hs, hw⟩) | hw
  · exact (h.s2 s hs).2 w hw
  · have := h.c2 s hs
    simp only [threeW, List.mem_cons, List.not_mem_nil, or_false] at hw
    rcases hw with rfl | rfl | rfl
    · exact this.1
    · exact this.2.1
    · exact this.2.2
  · exact h.l2 w hw
theorem flat_len {S : List (List (List Bs))} (h : ∀ s ∈ S, s.length ≤ 200) : S.flatten.length ≤ 200 * S.length := by
  induction S with
  | nil => simp
  | cons s S ih =>
    have h1 := h s (by simp)
    have h2 := ih (fun t ht => h t (by simp [ht]))
    simp only [List.flatten_cons, List.length_append, List.length_cons]
    omega
theorem three_len (L : List SeenT) : (L.flatMap threeW).length = 3 * L.length := by
  induction L with
  | nil => rfl
  | cons s L ih => simp only [List.flatMap_cons, List.length_append, ih, threeW, List.length_cons, List.length_nil]; omega
theorem flat_take {α : Type} (S : List (List α)) {i : Nat} (h : i < S.length) : (S.take (i + 1)).flatten = (S.take i).flatten ++ S[i] := by
  rw [List.take_succ_eq_append_getElem h, List.flatten_append, List.flatten_singleton]
theorem three_take (L : List SeenT) {i : Nat} (h : i < L.length) : (L.take (i + 1)).flatMap threeW = (L.take i).flatMap threeW ++ threeW L[i] := by
  rw [List.take_succ_eq_append_getElem h, List.flatMap_append, List.flatMap_singleton]
theorem any_take {α : Type} (p : α → Bool) (S : List α) {i : Nat} (h : i < S.length) (h1 : ∀ s ∈ S.take i, p s = false) (h2 : p S[i] = false) : ∀ s ∈ S.take (i + 1), p s = false := by
  intro s hs
  rw [List.take_succ_eq_append_getElem h, List.mem_append] at hs
  rcases hs with hs | hs
  · exact h1 s hs
  · simp at hs; subst hs; exact h2

theorem fok50 (S : List (List (List Bs))) (L : List SeenT) (l : List (List Bs)) (hM : MixS S L l) :
    FOk Try.prog 50 [.v (.sl 1 (S.map PV.words)), .v (.sl 4 (L.map seenV)), .v (.words l)] [] (.I (mixF S L l)) [] := by
  have m1 := hM.s1
  have m2 := hM.c1
  have m3 := hM.l1
  refine FOk.val k50 (by simp) (by simp) (by decide) ?_
  by_cases h1 : 200 < S.length
  · simp [c50, h1]
    exact Ends.v rfl (by simp [mixF, h1])
  by_cases h2 : 200 < L.length
  · simp [c50, h1, h2]
    exact Ends.v rfl (by simp [mixF, h2])
  by_cases h3 : 200 < l.length
  · simp [c50, h1, h2, h3, PV.words]
    exact Ends.v rfl (by simp [mixF, h3])
  have h123 : ¬ (200 < S.length ∨ 200 < L.length ∨ 200 < l.length) := by omega
  simp [c50, h1, h2, h3, PV.words]
  refine Run.loopA (ι := Nat) [(1, 7)] (fun i => i ≤ S.length ∧ ∀ s ∈ S.take i, bigL s = false) (fun i => ⟨[(1, .v (.sl 4 (L.map seenV))), (2, .v (.words l)), (7, .h 1), (28, .v (.sl 1 (S.map PV.words))), (29, .I S.length), (30, .I i)], [(1, ⟨false, 1, (S.take i).flatten.map PV.word⟩)], 1024⟩) (fun i => S.length - i) 0 (by decide) (by simp [PV.words]) (by simp) ?_
  rintro i ⟨hi, hS⟩ ih
  by_cases h : i < S.length
  · cases hb : bigL S[i] with
    | true =>
      have hb' : 200 < S[i].length := by simpa [bigL] using hb
      have ha : S.any bigL = true := List.any_eq_true.2 ⟨_, List.getElem_mem h, hb⟩
      simp (disch := omega) [h, wrap_i64, PV.words, hb']
      exact Ends.v rfl (by simp [mixF, h123, ha])
    | false =>
      have hb' : ¬ 200 < S[i].length := by simpa [bigL] using hb
      have hlen := flat_len (S := S.take i) (fun s hs => by have := hS s hs; simp [bigL] at this; omega)
      simp only [List.length_take] at hlen
      have he : ((S.take i).flatten.length + S[i].length + 1000) * 24 ≤ 70368744177664 := by omega
      have hf := flat_take S h
      have hf2 := any_take bigL S h hS hb
      generalize hF : (S.take i).flatten = F at *
      simp (disch := (clear he; omega)) [h, wrap_i64, PV.words, hb', he]
      exact ih (i + 1) _ ⟨by clear he; omega, hf2⟩ (by clear he; omega) (by simp [PV.words, hf])
  have hiS : i = S.length := by omega
  subst hiS
  rw [List.take_length] at hS
  have hany : S.any bigL = false := by rw [List.any_eq_false]; intro s hs; simp [hS s hs]
  have hfl := flat_len (S := S) (fun s hs => by have := hS s hs; simp [bigL] at this; omega)
  clear ih h
  simp [PV.words]
  generalize hF : S.flatten = F at hfl
  have hmap : (S.map (List.map PV.word)).flatten = F.map PV.word := by rw [← hF, List.map_flatten]
  refine Run.loopA (ι := Nat) [(1, 7)] (fun i => i ≤ L.length) (fun i => ⟨[(1, .v (.sl 4 (L.map seenV))), (2, .v (.words l)), (7, .h 1), (41, .v (.sl 4 (L.map seenV))), (42, .I L.length), (43, .I i)], [(1, ⟨false, 1, (F ++ (L.take i).flatMap threeW).map PV.word⟩)], 1024⟩) (fun i => L.length - i) 0 (by decide) (by simp [PV.words, hmap]) (by simp) ?_
  rintro i hi ih
  by_cases h : i < L.length
  · have hlen := three_len (L.take i)
    simp only [List.length_take] at hlen
    have he : (F.length + ((L.take i).flatMap threeW).length + 3 + 1000) * 24 ≤ 70368744177664 := by omega
    have hf := three_take L h
    generalize hx : L[i] = s at hf
    obtain ⟨a, w, c, n, u⟩ := s
    generalize (L.take i).flatMap threeW = F2 at *
    simp (disch := (clear he; omega)) [h, wrap_i64, PV.words, he, hx, seenV]
    exact ih (i + 1) _ (by clear he; omega) (by clear he; omega) (by simp [PV.words, hf, threeW])
  have hiL : i = L.length := by omega
  subst hiL
  clear ih h
  have hF3 := three_len L
  have hall : F ++ L.flatMap threeW ++ l = allW S L l := by rw [← hF]; rfl
  have hw := hM.all
  have hcat := fok78 (F ++ L.flatMap threeW) l (by simp only [List.length_append]; omega)
  rw [hall] at hcat
  have hAl : (allW S L l).length ≤ 1000000 := by rw [← hall]; simp only [List.length_append]; omega
  simp [PV.words]
  simp [PV.words] at hcat
  refine CallG.rows [] rfl rfl rfl rfl (by simp) (by simp) hcat (by simp) (by simp) ?_
  have hmx : mixF S L l = if vWds (allW S L l) = 0 then (if L.any manyBad = true then 1 else 0) else vWds (allW S L l) := by simp [mixF, h123, hany]
  rw [hmx]
  generalize allW S L l = A at *
  simp
  refine Run.loopA (ι := Nat) [] (fun i => i ≤ A.length ∧ vWds (A.drop i) = vWds A) (fun i => ⟨[(1, .v (.sl 4 (L.map seenV))), (60, .v (.words A)), (61, .I A.length), (62, .I i)], [], 1024⟩) (fun i => A.length - i) 0 (by decide) (by simp [PV.words]) (by simp) ?_
  rintro i ⟨hi, hv⟩ ih
  by_cases h : i < A.length
  · rw [drop_at h] at hv
    simp only [vWds] at hv
    have hwi := hw _ (List.getElem_mem h)
    simp (disch := omega) [h, wrap_i64, PV.words]
    refine CallG.lent rfl rfl rfl rfl (fok46 A[i] hwi.1 hwi.2) rfl ?_
    by_cases hv0 : vWord A[i] = 0
    · rw [if_pos hv0] at hv
      simp (disch := omega) [wrap_i64, hv0]
      exact ih (i + 1) _ ⟨by omega, hv⟩ (by omega) (by simp [PV.words])
    · rw [if_neg hv0] at hv
      simp (disch := omega) [wrap_i64, hv0]
      exact Ends.v rfl (by simp [← hv, hv0])
  rw [drop_no h] at hv
  have hmb := fok79 L m2
  have hv' : vWds A = 0 := hv.symm
  rw [hv'] at ih ⊢
  clear ih hmx
  generalize L.any manyBad = mb at hmb ⊢
  simp [h]
  refine CallG.lent rfl rfl rfl rfl hmb rfl ?_
  simp
  cases mb
  · simp
    exact Ends.v rfl (by simp)
  · simp
    exact Ends.v rfl (by simp)

end Go.Proofs
