/- The walk. -/
import Derived.Test.YtphjjlhpepmofaaRe3
import Derived.Test.YtphjjlhpepmofaaProg
import Derived.KernelRfl
set_option linter.all false
set_option maxHeartbeats 2000000
namespace Go.Proofs
open Go Go.AM
attribute [local irreducible] Run Ends
/-- ablaut/spell.Real -/
def c27 : MC :=
  .seq (.reg false [.op .none 4 (.box false (.t 1)),
    .op .none 5 (.box false (.t 2)),
    .op .none 6 (.nilS 1),
    .op .none 7 (.mv (.c (.w (.int .i64 0))))]) <|
  .seq (.seq (.reg false [.op .none 16 (.mv (.t 0)),
    .op .none 17 (.ld false 1 (.t 4)),
    .op .none 18 (.ld false 1 (.t 5)),
    .call .none 19 (.f 50) [(.t 16), (.t 17), (.t 18)],
    .op .none 8 (.mv (.t 19))]) <|
  .seq (.reg false [.op .none 20 (.mv (.t 8)),
    .op .none 21 (.bin .neq (.t 20) (.c (.w (.int .i64 0))))]) <|
  .cond (.t 21)
    (.seq (.reg false [.op .none 22 (.mv (.t 8)),
      .op .none 6 (.nilS 1),
      .op .none 7 (.mv (.t 22))]) <|
    .ret)
    (.skip)) <|
  .seq (.reg false [.op .none 23 (.mkf 51 [(.t 5)]),
    .op .none 9 (.alloc false [(.w .nilFunc)]),
    .store .none false 1 (.t 9) (.t 23)]) <|
  .seq (.reg false [.op .none 10 (.nilS 1)]) <|
  .seq (.seq (.reg false [.op .none 24 (.ld false 1 (.t 5)),
    .op .none 25 (.len false (.t 24)),
    .op .none 26 (.mv (.c (.w (.int .i64 0))))]) <|
  .block 0 <|
    .loop <|
      .seq (.reg false [.op .none 27 (.bin .lss (.t 26) (.t 25))]) <|
      .seq (.cond (.t 27)
        (.skip)
        (.exit 0)) <|
      .seq (.block 1 <|
        .seq (.reg false [.op .none 28 (.mv (.t 26)),
          .op .none 29 (.ia 1 (.t 24) (.t 26)),
          .op .none 30 (.ld false 1 (.t 29)),
          .op .none 11 (.alloc false [(.w (.int .i64 0))]),
          .op .none 12 (.alloc false [(.sl 1 [])]),
          .store .none false 1 (.t 11) (.t 28),
          .store .none false 1 (.t 12) (.t 30)]) <|
        .seq (.reg false [.op .none 31 (.mkf 52 [(.t 4), (.t 9), (.t 11)]),
          .op .none 13 (.alloc false [(.w .nilFunc)]),
          .store .none false 1 (.t 13) (.t 31)]) <|
        .seq (.reg false [.op .none 32 (.mkf 54 [(.t 12)]),
          .op .none 14 (.alloc false [(.w .nilFunc)]),
          .store .none false 1 (.t 14) (.t 32)]) <|
        .seq (.reg false [.op .none 33 (.mv (.t 0)),
          .op .none 34 (.mkf 56 [(.t 14)]),
          .call .none 35 (.f 55) [(.t 33), (.t 34)],
          .op .none 15 (.mv (.t 35))]) <|
        .seq (.reg false [.op .none 36 (.mv (.t 15)),
          .op .none 37 (.bin .geq (.t 36) (.c (.w (.int .i64 0)))),
          .op .none 38 (.mv (.t 37)),
          .op (.some (38, true)) 39 (.mv (.t 0)),
          .op (.some (38, true)) 40 (.mv (.t 15)),
          .op (.some (38, true)) 41 (.ia 1 (.t 39) (.t 40)),
          .op (.some (38, true)) 42 (.ld false 1 (.t 41)),
          .op (.some (38, true)) 43 (.mkf 58 [(.t 13), (.t 12)]),
          .call (.some (38, true)) 44 (.f 57) [(.t 42), (.t 43)],
          .op .none 45 (.pick (.t 38) (.t 44) (.c (.w (.bool false))))]) <|
        .cond (.t 45)
          (.reg false [.op .none 46 (.mv (.t 10)),
            .op .none 47 (.ld false 1 (.t 11)),
            .op .none 48 (.buildS false 1 1 false [(.w (.int .i64 0))] [(0, (.t 47))]),
            .op .none 49 (.app 1 8 (.t 46) (.t 48)),
            .op .none 10 (.mv (.t 49))])
          (.skip)) <|
      .reg false [.op .none 50 (.bin .add (.t 26) (.c (.w (.int .i64 1)))),
        .op .none 26 (.mv (.t 50))]) <|
  .seq (.reg false [.op .none 51 (.mv (.t 10)),
    .op .none 6 (.mv (.t 51)),
    .op .none 7 (.mv (.c (.w (.int .i64 0))))]) <|
  .ret
theorem k27 : FnCode Try.prog 27 [] 52 [6, 7] c27 := ⟨Try.f27, Try.func27, fun xs W => Try.call27 xs W, by kernel_rfl, by kernel_rfl, by kernel_rfl⟩

def setOf (S : List (List (List Bs))) (w : List Bs) : List (List Bs) := (S.find? (isIn w)).getD []
def better1 (L : List SeenT) (A w B : List Bs) (x : List Bs) : Bool := decide (seenN A w B L 0 < seenN A x B L 0)
def better (S : List (List (List Bs))) (L : List SeenT) (l : List (List Bs)) (i : Nat) : Bool :=
  (setOf S (atF l i)).any (better1 L (atF l ((i : Int) - 1)) (atF l i) (atF l ((i : Int) + 1)))
def outI (S : List (List (List Bs))) (L : List SeenT) (l : List (List Bs)) (i : Nat) : List Nat := (List.range i).filter (better S L l)
def realF (S : List (List (List Bs))) (L : List SeenT) (l : List (List Bs)) : List Nat × Int := if mixF S L l = 0 then (outI S L l l.length, 0) else ([], mixF S L l)
def natV (l : List Nat) : PV := .sl 1 (l.map fun n : Nat => .i (n : Int))
theorem outI_succ (S : List (List (List Bs))) (L : List SeenT) (l : List (List Bs)) (i : Nat) : outI S L l (i + 1) = if better S L l i = true then outI S L l i ++ [i] else outI S L l i := by
  unfold outI
  rw [List.range_succ, List.filter_append]
  by_cases h : better S L l i = true <;> simp [h]
theorem outI_len (S : List (List (List Bs))) (L : List SeenT) (l : List (List Bs)) (i : Nat) : (outI S L l i).length ≤ i := by
  have := List.length_filter_le (better S L l) (List.range i)
  simpa [outI] using this
theorem mixF_ok {S : List (List (List Bs))} {L : List SeenT} {l : List (List Bs)} (h : mixF S L l = 0) : S.length ≤ 200 ∧ L.length ≤ 200 ∧ l.length ≤ 200 ∧ (∀ s ∈ L, manyBad s = false) := by
  unfold mixF at h
  split at h
  · omega
  · rename_i h1
    split at h
    · omega
    · split at h
      · split at h
        · omega
        · rename_i h4
          rw [Bool.not_eq_true, List.any_eq_false] at h4
          exact ⟨by omega, by omega, by omega, fun s hs => by simpa using h4 s hs⟩
      · rename_i h3; exact absurd h h3
theorem fok27 (S : List (List (List Bs))) (L : List SeenT) (l : List (List Bs)) (hM : MixS S L l) :
    FOk Try.prog 27 [.v (.sl 1 (S.map PV.words)), .v (.sl 4 (L.map seenV)), .v (.words l)] [] (.tup [.v (natV (realF S L l).1), .I (realF S L l).2]) [] := by
  have hmix := fok50 S L l hM
  refine FOk.val k27 (by simp) (by simp) (by decide) ?_
  by_cases h0 : mixF S L l = 0
  case neg =>
    simp [c27, PV.words]
    refine CallG.lent rfl rfl rfl rfl hmix rfl ?_
    simp [h0]
    exact Ends.v rfl (by simp [realF, h0, natV])
  have hr : realF S L l = (outI S L l l.length, 0) := by simp [realF, h0]
  obtain ⟨b1, b2, b3, b4⟩ := mixF_ok h0
  rw [hr]
  simp [c27, PV.words]
  refine CallG.lent rfl rfl rfl rfl hmix rfl ?_
  rw [h0]
  clear hmix
  simp
  have hlS : ∀ w ∈ l, smW w := fun w hw => (hM.l2 w hw).1
  have hSS : ∀ s ∈ S, s.length ≤ 200000000000000 ∧ ∀ x ∈ s, smW x := fun s hs => ⟨(hM.s2 s hs).1, fun x hx => ((hM.s2 s hs).2 x hx).1⟩
  have hLS : seenS L := ⟨by omega, fun s hs => ⟨(hM.c2 s hs).1.1, (hM.c2 s hs).2.1.1, (hM.c2 s hs).2.2.1, b4 s hs⟩⟩
  refine Run.loopA (ι := Nat × Bool) [(4, 4), (9, 9), (10, 10)] (fun q => q.1 ≤ l.length) (fun q => ⟨[(0, .v (.sl 1 (S.map PV.words))), (4, .ptr 4 0 0), (9, .ptr 9 0 0), (10, .h 10), (24, .v (.words l)), (25, .I l.length), (26, .I q.1)], [(4, ⟨q.2, 1, [.sl 4 (L.map seenV)]⟩), (9, ⟨q.2, 1, [clAt l]⟩), (10, ⟨false, 1, (outI S L l q.1).map fun n : Nat => .i (n : Int)⟩)], 1024⟩) (fun q => l.length - q.1) (0, false) (by decide) (by simp [PV.words, clAt, outI]) (by simp) ?_
  rintro ⟨i, fr⟩ hi ih
  simp only at hi
  by_cases h : i < l.length
  · have hix : smW l[i] := hlS _ (List.getElem_mem h)
    have hidx := fok55 S l[i] (by omega) hSS hix
    have hat : atF l (i : Int) = l[i] := by simp [atF, h]
    have hout := outI_succ S L l i
    have hfd := idxF_find (isIn l[i]) S 0
    simp only [Nat.zero_add] at hfd
    cases fr
    all_goals
      simp (disch := omega) [h, wrap_i64, PV.words, clAt]
      refine CallG.lent rfl rfl rfl rfl hidx rfl ?_
      rcases hfd with ⟨hf1, hf2⟩ | ⟨k, hf1, hf2, hf3⟩
      · have hb : better S L l i = false := by simp [better, setOf, hat, hf2]
        rw [hb] at hout
        rw [hf1]
        simp (disch := omega) [wrap_i64]
        exact ih (i + 1, true) _ (by simp only []; omega) (by simp only []; omega) (by simp [PV.words, clAt, hout])
      · rw [hf1]
        have hb : better S L l i = S[k].any (better1 L (atF l ((i : Int) - 1)) l[i] (atF l ((i : Int) + 1))) := by simp [better, setOf, hat, hf3]
        have hm : ∀ x ∈ S[k], FOk Try.prog 58 [.v (.word x), .rp [clOften L l i], .rp [.word l[i]]] [] (.B (better1 L (atF l ((i : Int) - 1)) l[i] (atF l ((i : Int) + 1)) x)) [] := fun x hx => fok58 L l i x l[i] hLS hlS ((hSS S[k] (List.getElem_mem hf2)).2 x hx) hix (by omega) (by omega)
        have hfx : Fix (.fn 58 [.rp [clOften L l i], .rp [.word l[i]]]) 58 [.rp [clOften L l i], .rp [.word l[i]]] := fixFn _ _ _ (by simp) (by simp) (by simp) (by simp)
        have hcl := fok57 S[k] _ _ _ hfx (better1 L (atF l ((i : Int) - 1)) l[i] (atF l ((i : Int) + 1))) hm (hSS S[k] (List.getElem_mem hf2)).1
        rw [← hb] at hcl
        generalize better S L l i = bb at hcl hout
        simp (disch := omega) [wrap_i64, hf2, PV.words]
        refine CallG.lent rfl rfl rfl rfl hcl rfl ?_
        cases bb
        · simp (disch := omega) [wrap_i64]
          exact ih (i + 1, true) _ (by simp only []; omega) (by simp only []; omega) (by simp [PV.words, clAt, hout])
        · have he : ((outI S L l i).length + 1 + 1000) * 8 ≤ 70368744177664 := by have := outI_len S L l i; omega
          simp (disch := (clear he; omega)) [wrap_i64, he]
          exact ih (i + 1, true) _ (by simp only []; clear he; omega) (by simp only []; clear he; omega) (by simp [PV.words, clAt, hout])
  · have : i = l.length := by omega
    subst this
    simp [h]
    exact Ends.v rfl (by simp [natV])

end Go.Proofs
