/- The walk. -/
import Derived.Test.YtepjlojlkionfaaRw3
import Derived.Test.YtepjlojlkionfaaProg
import Derived.KernelRfl
set_option linter.all false
set_option maxHeartbeats 2000000
namespace Go.Proofs
open Go Go.AM
attribute [local irreducible] Run Ends
theorem rowLeasts_ok (t : TagT) (l tags : List Bs) (ht : tagC t) (hl : wordC l) (htl : wordC tags) : FOk Try.prog 9 [.v (tagV t), .v (.word l), .v (.word tags)] [] (.B true) [] := by
  have hts := ht.s
  have hls := hl.s8
  have htls := htl.s8
  have h1 := fok12 t hts
  have h2 := fok13 l hls
  have h3 := fok13 tags htls
  have hk := fok14
  have r1 := fok15 t l hts hls.1
  by_cases he : (bestF t l).2.2.2 = 0
  case neg =>
    have htc2 : tagV t = .st [.word t.1, intsV t.2.1, intsV t.2.2.1, .sl 1 (t.2.2.2.1.map intsV), .sl 2 (t.2.2.2.2.1.map worthV), intsV t.2.2.2.2.2.1] := by
      obtain ⟨G, Fi, Z, P, W, U, uu⟩ := t; rfl
    generalize overF9 t = y1 at h1
    generalize txF l = y2 at h2
    generalize txF tags = y3 at h3
    generalize bestF t l = b at r1 he
    rw [htc2] at h1 r1 ⊢
    refine FOk.val k9 (by simp) (by simp) (by decide) ?_
    simp [c9]
    refine CallG.lent rfl rfl rfl rfl h1 rfl ?_
    cases y1
    case true =>
      simp
      refine CallG.lent rfl rfl rfl rfl hk rfl ?_
      simp
      exact Ends.v rfl (by simp)
    simp
    refine CallG.lent rfl rfl rfl rfl h2 rfl ?_
    by_cases q2 : 200000 < y2
    · have q2' : ¬ y2 ≤ 200000 := by omega
      simp [q2, q2']
      refine CallG.lent rfl rfl rfl rfl hk rfl ?_
      simp
      exact Ends.v rfl (by simp)
    have q2' : y2 ≤ 200000 := by omega
    simp [q2, q2']
    refine CallG.lent rfl rfl rfl rfl h3 rfl ?_
    by_cases q3 : 200000 < y3
    · have q3' : ¬ y3 ≤ 200000 := by omega
      simp [q3, q3']
      refine CallG.lent rfl rfl rfl rfl hk rfl ?_
      simp
      exact Ends.v rfl (by simp)
    have q3' : y3 ≤ 200000 := by omega
    simp [q3, q3']
    refine CallG.plain rfl rfl rfl rfl r1 (by simp) (by simp) ?_
    simp [he]
    refine CallG.lent rfl rfl rfl rfl hk rfl ?_
    simp
    exact Ends.v rfl (by simp)
  have hc := best_err he
  obtain ⟨hT, hn⟩ := chkF_ok hc
  have r2 := fok20 t l tags hts hls.1 htls.1
  have r4 := fok18 t l 3 hts hls.1
  have hsv : sevF t l 3 = ((sevP t l 3 l.length).take 3, decide (3 < (sevP t l 3 l.length).length), 0) := by
    unfold sevF
    rw [if_neg (by simpa using hc), if_neg (by omega)]
    rfl
  have hRl := (sevF_good t l 3).1
  have r6 : ∀ w, 1 ≤ w → w ≤ 16 → FOk Try.prog 27 [.v (tagV t), .v (.word l), .I w] [] (.tup [.v (.word (beamF t l w).1), .I (beamF t l w).2.1, .B (beamF t l w).2.2.1, .I 0]) [] := fun w q1 q2 => by
    have := fok27 t l w hts hls.1
    rw [(beam_row hc q1 q2).1] at this
    exact this
  have r7 : 0 < l.length → FOk Try.prog 24 [.v (tagV t), .v (.word l), .I ((l.length : Int) / 2)] [] (.tup [.v (intsV (atP t l (l.length / 2))), .I 0]) [] := fun h0 => by
    have := fok24 t l ((l.length : Int) / 2) hts hls.1
    have e : atF t l ((l.length : Int) / 2) = (atP t l (l.length / 2), 0) := by
      unfold atF
      rw [if_neg (by simpa using hc), if_neg (by omega)]
      have : ((l.length : Int) / 2).toNat = l.length / 2 := by omega
      rw [this]
    rw [e] at this
    exact this
  have hAl : (atP t l (l.length / 2)).length ≤ 200 := by
    have := hT.g
    simp only [atP, List.length_map, List.length_range]; omega
  rcases best_val hc with ⟨h, hv, hb, hmin, hsev⟩ | ⟨hb, hno, hsev⟩
  · have r3 := fok20 t l (h.map fun k => t.1.getD k []) hts hls.1 (by simp; have := VP_len hv; omega)
    rw [cost_best hc hv] at r3
    obtain ⟨r, hr⟩ := hsev 3
    have r5 := fok17 (h.map fun k => t.1.getD k []) (by simp; have := VP_len hv; omega)
    rw [hb] at r1
    rw [hsv, hr] at r4 hRl
    refine leasts_walk t l tags (h.map fun k => t.1.getD k []) (allP t l h) _ _ true _ _ _ (fun w => (beamF t l w).1) (fun w => (beamF t l w).2.1) (fun w => (beamF t l w).2.2.1) (atP t l (l.length / 2)) _ _ _ hn hAl (by simpa using hRl) h1 h2 h3 hk r1 r2 (fun _ => r3) r4 r5 r6 r7 ?_ ⟨fun _ => ?_, fun h => (by cases h)⟩ ?_ ?_ ?_
    · intro g1 g2
      obtain ⟨a, ha, hae⟩ := cost_row g1 g2
      have := hmin a ha
      exact ⟨rfl, by omega⟩
    · exact ⟨_, rfl⟩
    · intro w q1 q2 q3
      obtain ⟨_, g2, _, _⟩ := beam_row hc q1 q2
      obtain ⟨a, ha, hae⟩ := g2 q3
      have := hmin a ha
      exact ⟨rfl, by omega⟩
    · obtain ⟨_, g2, _, g4⟩ := beam_row hc (w := 16) (by decide) (by decide)
      obtain ⟨g5, g6⟩ := g4 rfl h hv
      obtain ⟨a, ha, hae⟩ := g2 g5
      have := hmin a ha
      exact ⟨g5, by omega⟩
    · intro h0
      obtain ⟨g1, _⟩ := lstI_best hT (l := l) (i := l.length / 2) (by omega)
      obtain ⟨g2, g3⟩ := g1 h hv hmin
      exact ⟨fun _ => ⟨g2, by omega⟩, fun h => (by cases h)⟩
  · have r5 := fok17 [] (by simp)
    rw [hb] at r1
    rw [hsv, hsev] at r4
    refine leasts_walk t l tags [] 0 _ _ false _ _ [] (fun w => (beamF t l w).1) (fun w => (beamF t l w).2.1) (fun w => (beamF t l w).2.2.1) (atP t l (l.length / 2)) _ _ _ hn hAl (by simp) h1 h2 h3 hk r1 r2 (fun h => (by cases h)) r4 r5 r6 r7 ?_ ⟨fun h => (by cases h), fun _ => rfl⟩ ?_ ?_ ?_
    · intro g1 g2
      obtain ⟨a, ha, _⟩ := cost_row g1 g2
      exact (hno a ha).elim
    · intro w q1 q2 q3
      obtain ⟨_, g2, _, _⟩ := beam_row hc q1 q2
      obtain ⟨a, ha, _⟩ := g2 q3
      exact (hno a ha).elim
    · obtain ⟨_, g2, g3, _⟩ := beam_row hc (w := 16) (by decide) (by decide)
      have : (beamF t l 16).2.2.1 = false := by
        cases e : (beamF t l 16).2.2.1 with
        | false => rfl
        | true => obtain ⟨a, ha, _⟩ := g2 e; exact (hno a ha).elim
      exact ⟨this, g3 this⟩
    · intro h0
      obtain ⟨_, g1⟩ := lstI_best hT (l := l) (i := l.length / 2) (by omega)
      exact ⟨fun h => (by cases h), fun _ => g1 hno⟩

end Go.Proofs
