/- The walk. -/
import Derived.Test.YtphjjlhpepmofaaRe5
import Derived.Test.YtphjjlhpepmofaaProg
import Derived.KernelRfl
set_option linter.all false
set_option maxHeartbeats 2000000
namespace Go.Proofs
open Go Go.AM
attribute [local irreducible] Run Ends
theorem find_at {α : Type} (p : α → Bool) {S : List α} {k : Nat} (h : k < S.length) (h1 : ∀ s ∈ S.take k, p s = false) (h2 : p S[k] = true) : S.find? p = some S[k] := by
  have e : S = S.take k ++ S[k] :: S.drop (k + 1) := by
    rw [← drop_at h, List.take_append_drop]
  conv => lhs; rw [e]
  rw [List.find?_append, List.find?_eq_none.2 (by intro s hs; simp [h1 s hs])]
  simp only [Option.none_or]
  rw [List.find?_cons_of_pos h2]
theorem find_no {α : Type} (p : α → Bool) {S : List α} (h1 : ∀ s ∈ S, p s = false) : S.find? p = none := List.find?_eq_none.2 (by intro s hs; simp [h1 s hs])
theorem any_succ {α : Type} (p : α → Bool) (S : List α) {i : Nat} (h : i < S.length) : (S.take (i + 1)).any p = ((S.take i).any p || p S[i]) := by
  rw [List.take_succ_eq_append_getElem h, List.any_append]; simp
/-- What the specification's places come to. -/
theorem fok28 (S : List (List (List Bs))) (L : List SeenT) (l : List (List Bs)) (hM : MixS S L l) (hS2 : ∀ s ∈ S, s.length ≤ 1000000) :
    FOk Try.prog 28 [.v (.sl 1 (S.map PV.words)), .v (.sl 4 (L.map seenV)), .v (.words l)] [] (.tup [.v (natV (realF S L l).1), .I (realF S L l).2]) [] := by
  have m1 := hM.s1
  have m2 := hM.c1
  have m3 := hM.l1
  refine FOk.val k28 (by simp) (by simp) (by decide) ?_
  by_cases h123 : 200 < S.length ∨ 200 < L.length ∨ 200 < l.length
  · have hm : mixF S L l = 3 := by simp [mixF, h123]
    have hr : realF S L l = ([], 3) := by simp [realF, hm]
    rw [hr]
    have h4 : 200 < S.length ∨ (¬ 200 < S.length ∧ 200 < L.length) ∨ (¬ 200 < S.length ∧ ¬ 200 < L.length ∧ 200 < l.length) := by omega
    rcases h4 with h1 | ⟨h1, h2⟩ | ⟨h1, h2, h3⟩
    case' inl => simp [c28, h1, PV.words]
    case' inr.inl => simp [c28, h1, h2, PV.words]
    case' inr.inr => simp [c28, h1, h2, h3, PV.words]
    all_goals
      refine Run.loopA (ι := Nat) [(9, 9)] (fun i => i = 0) (fun i => ⟨[(0, .v (.sl 1 (S.map PV.words))), (8, .B true), (9, .h 9), (10, .I 0)], [(9, ⟨false, 1, []⟩)], 1024⟩) (fun i => 0) 0 (by decide) (by simp [PV.words]) rfl ?_
      rintro _ rfl ih
      by_cases h : 0 < S.length
      · simp [h]
        exact Ends.v rfl (by simp [natV])
      · simp [h]
        exact Ends.v rfl (by simp [natV])
  have h1 : ¬ 200 < S.length := by omega
  have h2 : ¬ 200 < L.length := by omega
  have h3 : ¬ 200 < l.length := by omega
  simp [c28, h1, h2, h3, PV.words]
  refine Run.loopA (ι := Nat × Bool) [(9, 9)] (fun q => q.1 ≤ S.length ∧ (q.2 = false → ∀ s ∈ S.take q.1, bigL s = false) ∧ (q.2 = true → S.any bigL = true)) (fun q => ⟨[(0, .v (.sl 1 (S.map PV.words))), (1, .v (.sl 4 (L.map seenV))), (2, .v (.words l)), (8, .B q.2), (9, .h 9), (10, .I q.1)], [(9, ⟨false, 1, (S.take q.1).flatten.map PV.word⟩)], 1024⟩) (fun q => S.length - q.1) (0, false) (by decide) (by simp [PV.words]) (by simp) ?_
  rintro ⟨i, lg⟩ ⟨hi, g1, g2⟩ ih
  simp only at hi g1 g2
  cases lg with
  | true =>
    have ha := g2 rfl
    have hm : realF S L l = ([], 3) := by simp [realF, mixF, h123, ha]
    rw [hm]
    by_cases h : i < S.length
    · simp [h]
      exact Ends.v rfl (by simp [natV])
    · simp [h]
      exact Ends.v rfl (by simp [natV])
  | false =>
  have hS := g1 rfl
  clear g1 g2
  by_cases h : i < S.length
  · have hlen := flat_len (S := S.take i) (fun s hs => by have := hS s hs; simp [bigL] at this; omega)
    simp only [List.length_take] at hlen
    have hsl := hS2 _ (List.getElem_mem h)
    have he : ((S.take i).flatten.length + S[i].length + 1000) * 24 ≤ 70368744177664 := by omega
    have hf := flat_take S h
    have hbl : decide (200 < S[i].length) = bigL S[i] := rfl
    have hnx : ∀ b, b = bigL S[i] → (b = false → ∀ s ∈ S.take (i + 1), bigL s = false) ∧ (b = true → S.any bigL = true) := fun b hb => ⟨fun e => any_take bigL S h hS (by rw [← hb, e]), fun e => List.any_eq_true.2 ⟨_, List.getElem_mem h, by rw [← hb, e]⟩⟩
    generalize hF : (S.take i).flatten = F at *
    simp (disch := (clear he; omega)) [h, wrap_i64, PV.words, he]
    exact ih (i + 1, bigL S[i]) _ ⟨by clear he; omega, hnx _ rfl⟩ (by simp only []; clear he; omega) (by simp [PV.words, hf, hbl])
  have hiS : i = S.length := by omega
  subst hiS
  rw [List.take_length] at hS
  have hany : S.any bigL = false := by rw [List.any_eq_false]; intro s hs; simp [hS s hs]
  have hfl := flat_len (S := S) (fun s hs => by have := hS s hs; simp [bigL] at this; omega)
  clear ih h
  simp [PV.words]
  generalize hF : S.flatten = F at hfl
  have hmap : (S.map (List.map PV.word)).flatten = F.map PV.word := by rw [← hF, List.map_flatten]
  refine Run.loopA (ι := Nat) [(9, 9)] (fun i => i ≤ L.length) (fun i => ⟨[(0, .v (.sl 1 (S.map PV.words))), (1, .v (.sl 4 (L.map seenV))), (2, .v (.words l)), (9, .h 9), (11, .I i)], [(9, ⟨false, 1, (F ++ (L.take i).flatMap threeW).map PV.word⟩)], 1024⟩) (fun i => L.length - i) 0 (by decide) (by simp [PV.words, hmap]) (by simp) ?_
  rintro i hi ih
  by_cases h : i < L.length
  · have hlen := three_len (L.take i)
    simp only [List.length_take] at hlen
    have he : (F.length + ((L.take i).flatMap threeW).length + 3 + 1000) * 24 ≤ 70368744177664 := by omega
    have hf := three_take L h
    generalize hx : L[i] = s at hf
    obtain ⟨a, w, c, n, u⟩ := s
    generalize (L.take i).flatMap threeW = F2 at *
    simp (disch := (clear he; omega)) [h, wrap_i64, PV.words, he, hx, seenV]
    exact ih (i + 1) _ (by clear he; omega) (by clear he; omega) (by simp [PV.words, hf, threeW])
  have hiL : i = L.length := by omega
  subst hiL
  clear ih h
  have hF3 := three_len L
  have hall : F ++ L.flatMap threeW ++ l = allW S L l := by rw [← hF]; rfl
  have hmx : mixF S L l = if vWds (allW S L l) = 0 then (if L.any manyBad = true then 1 else 0) else vWds (allW S L l) := by simp [mixF, h123, hany]
  have hAl : (allW S L l).length ≤ 1000000 := by rw [← hall]; simp only [List.length_append]; omega
  have hcW := fok59 (allW S L l) ⟨by omega, hM.all⟩
  have he : (F.length + (L.flatMap threeW).length + l.length + 1000) * 24 ≤ 70368744177664 := by omega
  rw [List.length_flatMap] at he
  have hallP : F.map PV.word ++ ((L.flatMap threeW).map PV.word ++ l.map PV.word) = (allW S L l).map PV.word := by rw [← hall]; simp
  simp [PV.words, he, hallP]
  clear he hallP hall hmap
  refine CallG.lent rfl rfl rfl rfl hcW rfl ?_
  have hb4 := fun h => (mixF_ok (S := S) (L := L) (l := l) h).2.2.2
  generalize hA : allW S L l = A at *
  by_cases hv : vWds A = 0
  case neg =>
    have hr : realF S L l = ([], vWds A) := by simp [realF, hmx, hv]
    rw [hr]
    simp [hv]
    exact Ends.v rfl (by simp [natV])
  rw [if_pos hv] at hmx
  simp [hv]
  refine Run.loopA (ι := Nat) [] (fun i => i ≤ L.length ∧ ∀ s ∈ L.take i, manyBad s = false) (fun i => ⟨[(0, .v (.sl 1 (S.map PV.words))), (1, .v (.sl 4 (L.map seenV))), (2, .v (.words l)), (13, .I i)], [], 1024⟩) (fun i => L.length - i) 0 (by decide) (by simp [PV.words]) (by simp) ?_
  rintro i ⟨hi, hbad⟩ ih
  by_cases h : i < L.length
  · cases hb : manyBad L[i] with
    | true =>
      have ha : L.any manyBad = true := List.any_eq_true.2 ⟨_, List.getElem_mem h, hb⟩
      have hr : realF S L l = ([], 1) := by rw [ha] at hmx; simp [realF, hmx]
      rw [hr]
      generalize hx : L[i] = s at hb
      obtain ⟨a, w, c, n, u⟩ := s
      simp [manyBad] at hb
      simp (disch := omega) [h, wrap_i64, PV.words, hx, seenV]
      exact ⟨fun q1 => ⟨fun q2 => Ends.v rfl (by simp [natV]), fun q2 => by omega⟩, fun q1 => Ends.v rfl (by simp [natV])⟩
    | false =>
      have hf2 := any_take manyBad L h hbad hb
      generalize hx : L[i] = s at hb
      obtain ⟨a, w, c, n, u⟩ := s
      simp [manyBad] at hb
      simp (disch := omega) [h, wrap_i64, PV.words, hx, seenV]
      exact ⟨fun q1 => ⟨fun q2 => by omega, fun q2 => ih (i + 1) _ ⟨by omega, hf2⟩ (by omega) (by simp [PV.words])⟩, fun q1 => by omega⟩
  have hiL : i = L.length := by omega
  subst hiL
  rw [List.take_length] at hbad
  clear ih h
  have hab : L.any manyBad = false := by rw [List.any_eq_false]; intro s hs; simp [hbad s hs]
  rw [hab] at hmx
  have hr : realF S L l = (outI S L l l.length, 0) := by simp [realF, hmx]
  rw [hr]
  simp [PV.words]
  have hlS : ∀ w ∈ l, smW w := fun w hw => (hM.l2 w hw).1
  have hSS : ∀ s ∈ S, s.length ≤ 200000000000000 ∧ ∀ x ∈ s, smW x := fun s hs => ⟨(hM.s2 s hs).1, fun x hx => ((hM.s2 s hs).2 x hx).1⟩
  have hLS : seenS L := ⟨by omega, fun s hs => ⟨(hM.c2 s hs).1.1, (hM.c2 s hs).2.1.1, (hM.c2 s hs).2.2.1, hbad s hs⟩⟩
  clear hcW hM hmx hr hab hb4 hfl hany hS hF3 hS2
  refine Run.loopA (ι := Nat) [(14, 14)] (fun i => i ≤ l.length) (fun i => ⟨[(0, .v (.sl 1 (S.map PV.words))), (1, .v (.sl 4 (L.map seenV))), (2, .v (.words l)), (14, .h 14), (15, .I i)], [(14, ⟨false, 1, (outI S L l i).map fun n : Nat => .i (n : Int)⟩)], 1024⟩) (fun i => l.length - i) 0 (by decide) (by simp [PV.words, outI]) (by simp) ?_
  rintro i hi ih
  by_cases h : i < l.length
  · have hix : smW l[i] := hlS _ (List.getElem_mem h)
    have hat : atF l (i : Int) = l[i] := by simp [atF, h]
    have hout := outI_succ S L l i
    have hol := outI_len S L l i
    have hA : smW (atF l ((i : Int) - 1)) := atF_small hlS _
    have hB : smW (atF l ((i : Int) + 1)) := atF_small hlS _
    have hA1 : 0 < i → ∃ q : i - 1 < l.length, atF l ((i : Int) - 1) = l[i - 1] := fun q => ⟨by omega, by
      have e : ((i : Int) - 1) = ((i - 1 : Nat) : Int) := by omega
      rw [e]; simp [atF, show i - 1 < l.length by omega]⟩
    have hA0 : ¬ 0 < i → atF l ((i : Int) - 1) = [] := fun q => by
      have : i = 0 := by omega
      subst this; rfl
    have hB1 : ∀ q : i + 1 < l.length, atF l ((i : Int) + 1) = l[i + 1] := fun q => by simp [atF, q]
    have hB0 : ¬ i + 1 < l.length → atF l ((i : Int) + 1) = [] := fun q => by simp [atF, show l.length ≤ i + 1 by omega]
    have hbd : better S L l i = (setOf S l[i]).any (better1 L (atF l ((i : Int) - 1)) l[i] (atF l ((i : Int) + 1))) := by simp [better, hat]
    generalize atF l ((i : Int) - 1) = A at *
    generalize atF l ((i : Int) + 1) = B at *
    have hAc : (0 < i ∧ 1 ≤ i ∧ ∃ q : i - 1 < l.length, A = l[i - 1]) ∨ (¬ 0 < i ∧ A = []) := by
      by_cases q : 0 < i
      · exact .inl ⟨q, q, hA1 q⟩
      · exact .inr ⟨q, hA0 q⟩
    have hBc : (∃ q : i + 1 < l.length, B = l[i + 1]) ∨ (¬ i + 1 < l.length ∧ B = []) := by
      by_cases q : i + 1 < l.length
      · exact .inl ⟨q, hB1 q⟩
      · exact .inr ⟨q, hB0 q⟩
    clear hA1 hA0 hB1 hB0 hat
    rcases hAc with ⟨c1, c0, c1', hAe⟩ | ⟨c1, hAe⟩ <;> rcases hBc with ⟨c2, hBe⟩ | ⟨c2, hBe⟩
    case' inl.inl => simp (disch := omega) [h, wrap_i64, PV.words, c1, c0, c1', c2]
    case' inl.inr => simp (disch := omega) [h, wrap_i64, PV.words, c1, c0, c1', c2]
    case' inr.inl => simp (disch := omega) [h, wrap_i64, PV.words, c1, c2]
    case' inr.inr => simp (disch := omega) [h, wrap_i64, PV.words, c1, c2]
    all_goals
      refine Run.loopA (ι := Nat) [(14, 14)] (fun k => k ≤ S.length ∧ ∀ s ∈ S.take k, isIn l[i] s = false) (fun k => ⟨[(0, .v (.sl 1 (S.map PV.words))), (1, .v (.sl 4 (L.map seenV))), (2, .v (.words l)), (14, .h 14), (15, .I i), (16, .v (.word A)), (17, .v (.word B)), (18, .I k)], [(14, ⟨false, 1, (outI S L l i).map fun n : Nat => .i (n : Int)⟩)], 1024⟩) (fun k => S.length - k) 0 (by decide) (by simp [PV.words, hAe, hBe]) (by simp) ?_
      clear hAe hBe
      rintro k ⟨hk, hno⟩ ihk
      by_cases hks : k < S.length
      case neg =>
        have e : k = S.length := by omega
        subst e
        rw [List.take_length] at hno
        have hb : better S L l i = false := by rw [hbd, setOf, find_no _ hno]; rfl
        rw [hb] at hout
        simp (disch := omega) [h, wrap_i64, PV.words]
        exact ih (i + 1) _ (by omega) (by omega) (by simp [PV.words, hout])
      have hcall := fok60 S[k] l[i] (hSS _ (List.getElem_mem hks)).1 (hSS _ (List.getElem_mem hks)).2 hix
      cases hin : isIn l[i] S[k] with
      | false =>
        have hno2 := any_take (isIn l[i]) S hks hno hin
        simp (disch := omega) [h, hks, wrap_i64, PV.words]
        refine CallG.lent rfl rfl rfl rfl hcall rfl ?_
        simp (disch := omega) [wrap_i64, hin]
        exact ihk (k + 1) _ ⟨by omega, hno2⟩ (by omega) (by simp [PV.words])
      | true =>
        have hkne : ¬ (k : Int) = (S.length : Int) := by omega
        have hset : setOf S l[i] = S[k] := by rw [setOf, find_at _ hks hno hin]; rfl
        rw [hset] at hbd
        have hbl := (hSS _ (List.getElem_mem hks)).1
        have hown := fok61 L A l[i] B hLS hA hix hB
        simp (disch := omega) [h, hks, wrap_i64, PV.words]
        refine CallG.lent rfl rfl rfl rfl hcall rfl ?_
        simp (disch := omega) [wrap_i64, hin, hkne, h]
        refine CallG.lent rfl rfl rfl rfl hown rfl ?_
        simp
        refine Run.loopA (ι := Nat) [(14, 14)] (fun m => m ≤ S[k].length) (fun m => ⟨[(0, .v (.sl 1 (S.map PV.words))), (1, .v (.sl 4 (L.map seenV))), (2, .v (.words l)), (14, .h 14), (15, .I i), (16, .v (.word A)), (17, .v (.word B)), (18, .I k), (19, .I (seenN A l[i] B L 0)), (20, .B ((S[k].take m).any (better1 L A l[i] B))), (21, .I m)], [(14, ⟨false, 1, (outI S L l i).map fun n : Nat => .i (n : Int)⟩)], 1024⟩) (fun m => S[k].length - m) 0 (by decide) (by simp [PV.words]) (by simp) ?_
        clear ihk
        rintro m hm ihm
        by_cases hms : m < S[k].length
        · have hs1 := any_succ (better1 L A l[i] B) S[k] hms
          generalize (S[k].take m).any (better1 L A l[i] B) = bb at hs1 ⊢
          have hnew := fok61 L A S[k][m] B hLS hA ((hSS _ (List.getElem_mem hks)).2 _ (List.getElem_mem hms)) hB
          cases bb
          · simp (disch := omega) [h, hks, hms, wrap_i64, PV.words]
            refine CallG.lent rfl rfl rfl rfl hnew rfl ?_
            simp (disch := omega) [wrap_i64]
            exact ihm (m + 1) _ (by omega) (by omega) (by simp [PV.words, hs1, better1])
          · simp (disch := omega) [h, hks, hms, wrap_i64, PV.words]
            exact ihm (m + 1) _ (by omega) (by omega) (by simp [PV.words, hs1])
        · have : m = S[k].length := by omega
          subst this
          rw [List.take_length, ← hbd]
          generalize better S L l i = bb at hout
          cases bb
          · simp (disch := omega) [h, hks, wrap_i64, PV.words]
            exact ih (i + 1) _ (by omega) (by omega) (by simp [PV.words, hout])
          · have he : ((outI S L l i).length + 1 + 1000) * 8 ≤ 70368744177664 := by omega
            simp (disch := (clear he; omega)) [h, hks, wrap_i64, PV.words, he]
            exact ih (i + 1) _ (by clear he; omega) (by clear he; omega) (by simp [PV.words, hout])
  · have : i = l.length := by omega
    subst this
    simp [PV.words]
    exact Ends.v rfl (by simp [natV])

end Go.Proofs
