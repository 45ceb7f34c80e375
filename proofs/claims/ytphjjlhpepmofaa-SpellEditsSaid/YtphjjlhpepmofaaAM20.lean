/- A region whose order is drawn comes to what it comes to in its own order. -/
import Derived.Test.YtphjjlhpepmofaaAM19
set_option linter.all false
namespace Go.AM
open Go

section same
variable {δ : Nat → Nat × AV × Heap} {s : St}

theorem app_same {l l' : List Nat} (hm : ∀ i, i ∈ l ↔ i ∈ l') (hn : l.Nodup) (hn' : l'.Nodup) (h1 : ∀ i ∈ l, ∀ j ∈ l, (δ i).1 = (δ j).1 → i = j)
    (h2 : ∀ i ∈ l, ∀ j ∈ l, i ≠ j → ∀ k e, find (δ i).2.2 k = some e → find (δ j).2.2 k = none) :
    (∀ t, find (app δ l s).env t = find (app δ l' s).env t) ∧ ∀ k, find (app δ l s).heap k = find (app δ l' s).heap k := by
  constructor
  · intro t
    by_cases hex : ∃ i ∈ l, (δ i).1 = t
    · obtain ⟨i, hi, ht⟩ := hex
      rw [app_env_in hi ht fun j hj h => h1 j hj i hi (h.trans ht.symm), app_env_in ((hm i).1 hi) ht fun j hj h => h1 j ((hm j).2 hj) i hi (h.trans ht.symm)]
    · rw [app_env_not fun i hi h => hex ⟨i, hi, h⟩, app_env_not fun i hi h => hex ⟨i, (hm i).2 hi, h⟩]
  · intro k
    by_cases hex : ∃ i ∈ l, ∃ e, find (δ i).2.2 k = some e
    · obtain ⟨i, hi, e, he⟩ := hex
      rw [app_heap_in hi hn fun j hj hne => h2 i hi j hj (Ne.symm hne) k e he, app_heap_in ((hm i).1 hi) hn' fun j hj hne => h2 i hi j ((hm j).2 hj) (Ne.symm hne) k e he]
    · have hno : ∀ i ∈ l, find (δ i).2.2 k = none := fun i hi => by
        cases hx : find (δ i).2.2 k with
        | none => rfl
        | some e => exact (hex ⟨i, hi, e, hx⟩).elim
      rw [app_heap_not hno, app_heap_not fun i hi => hno i ((hm i).2 hi)]
end same

section draw
variable {P : Program} {C : Cx} {n : Nat} {ows : List Nat} {ops : Array Oper} {Q : Exit → Act → World → Prop} {L : List MO} {S : Nat → St} {δ : Nat → Nat × AV × Heap} {nx : Nat}

theorem to_canon (hk : Chk ops L) (hs : Steps' P L S δ nx) {F : Nat → Prop} {a : Act} {W : World} {hdr : Nat → Value} {ow : Nat → Option Nat} {b m : Nat} {ds : List Nat} (hn : ds.Nodup) (hds : ∀ j ∈ ds, b ≤ j ∧ ∃ mo, L[j]? = some mo ∧ mo.loud = false)
    (hm : ∀ i, i ∈ ds ↔ b ≤ i ∧ i < b + m) (r : RelAt C n F (app δ ds (S b)) a W hdr ow) : RelAt C n F (S (b + m)) a W hdr ow := by
  have hcan := canon hk hs (b := b) (m := m) fun i h1 h2 => (hds i ((hm i).2 ⟨h1, h2⟩)).2
  obtain ⟨h1, h2⟩ := app_same (δ := δ) (s := S b) (l := ds) (l' := cr b m) (fun i => by rw [hm, mem_cr]) hn (cr_nodup b m)
    (fun i hi j hj h => by
      obtain ⟨_, mo, g1, g2⟩ := hds i hi
      obtain ⟨_, mo', g1', g2'⟩ := hds j hj
      have q1 := hs.dst i mo g1 g2
      have q2 := hs.dst j mo' g1' g2'
      rw [h] at q1
      exact hk.one i j mo mo' _ g1 g1' q1 q2)
    (fun i hi j hj hne k e he => by
      obtain ⟨_, mo, g1, g2⟩ := hds i hi
      obtain ⟨_, mo', g1', g2'⟩ := hds j hj
      cases hx : find (δ j).2.2 k with
      | none => rfl
      | some e' => exact (hne (news_one hk hs g1 g1' (hs.keys i mo g1 g2 k e he) (hs.keys j mo' g1' g2' k e' hx))).elim)
  rw [hcan]
  exact r.congr (m := (app δ (cr b m) (S b)).nx) (fun t x hx => by rw [h1 t]; exact hx) (fun k => (h2 k).symm)

theorem ready_nil {ops : Array Oper} {listed : Array Bool} (hb : ∀ (i : Nat) (o : Oper) (e : Edge), ops[i]? = some o → e ∈ o.after → Region.binds .any e = true → e.on < i) (hsz : listed.size = ops.size) (h : Region.ready .any ops listed = []) :
    ∀ i, i < ops.size → listed.getD i false = true := by
  intro i
  induction i using Nat.strongRecOn with
  | ind i ih =>
    intro hi
    cases hx : listed.getD i false with
    | true => rfl
    | false =>
      exfalso
      have hmem : i ∈ Region.ready .any ops listed := by
        rw [mem_ready]
        refine ⟨?_, ops[i], Array.getElem?_eq_getElem hi, fun e he hbe => ?_⟩
        · have hlt : i < listed.size := by omega
          simp only [Array.getD_eq_getD_getElem?, Array.getElem?_eq_getElem hlt, Option.getD_some] at hx ⊢
          exact hx
        · have := hb i ops[i] e (Array.getElem?_eq_getElem hi) he hbe
          exact ih e.on this (by omega)
      rw [h] at hmem
      cases hmem

theorem draw_any (hL : ∀ (i : Nat) (o : Oper), ops[i]? = some o → ∃ mo, L[i]? = some mo ∧ cO P ows n ops o = some mo) (hk : Chk ops L) (hs : Steps' P L S δ nx) {F0 : Nat → Prop}
    (hQ : ∀ a' W' hdr' ow' (F' : Nat → Prop), RelAt C n F' (S L.length) a' W' hdr' ow' → (∀ k, F' k → F0 k ∨ ∃ (i : Nat) (mo : MO), L[i]? = some mo ∧ news mo nx k) → Q .normal a' W') :
    ∀ (fuel : Nat) (listed : Array Bool) (a : Act) (W : World) (b : Nat) (ds : List Nat) (F : Nat → Prop) (hdr : Nat → Value) (ow : Nat → Option Nat),
      listed.size = ops.size → b ≤ ops.size → ds.Nodup → (∀ j ∈ ds, b ≤ j ∧ ∃ mo, L[j]? = some mo ∧ mo.loud = false) → (∀ i, i < ops.size → (listed.getD i false = true ↔ i < b ∨ i ∈ ds)) →
      (∀ j ∈ ds, ∀ k, Dp ops j k → b ≤ k → k ∈ ds) → RelAt C n F (app δ ds (S b)) a W hdr ow → (∀ k, F k → F0 k ∨ ∃ (i : Nat) (mo : MO), L[i]? = some mo ∧ news mo nx k) →
      (∀ (i : Nat) (mo : MO), L[i]? = some mo → b ≤ i → i ∉ ds → ∀ k, news mo nx k → ¬ F k) → (∀ t x k, find (S b).env t = some x → x.men k → ∀ (j : Nat) (mo : MO), b ≤ j → L[j]? = some mo → ¬ news mo nx k) →
      fuel + b + ds.length = ops.size → wpAny P .any ops Q fuel listed a W := by
  have hlen := hk.len
  have hsome : ∀ (j : Nat) (mo : MO), L[j]? = some mo → j < ops.size := fun j mo h => by have := (List.getElem?_eq_some_iff.1 h).1; omega
  intro fuel
  induction fuel with
  | zero =>
    intro listed a W b ds F hdr ow hsz hb hn hds hli hcl r hF0 hfr hFb hcnt
    have hall : ∀ i, b ≤ i → i < ops.size → i ∈ ds := by
      intro i h1 h2
      apply Classical.byContradiction
      intro hni
      have h3 : (i :: ds).Nodup := List.nodup_cons.2 ⟨hni, hn⟩
      have h4 := nodup_le h3 (l' := cr b (ops.size - b)) (fun x hx => by
        rw [mem_cr]
        rcases List.mem_cons.1 hx with rfl | hx
        · omega
        · obtain ⟨g1, mo, g2, _⟩ := hds x hx
          have := hsome x mo g2
          omega)
      have h5 : (cr b (ops.size - b)).length = ops.size - b := by
        have : ∀ m, (cr b m).length = m := fun m => by induction m with | zero => rfl | succ m ih => simp [cr, ih]
        exact this _
      rw [h5] at h4
      simp only [List.length_cons] at h4
      omega
    have hready : Region.ready .any ops listed = [] := by
      apply List.eq_nil_iff_forall_not_mem.2
      intro i hi
      rw [mem_ready] at hi
      obtain ⟨h0, o, ho, _⟩ := hi
      have hlt := (Array.getElem?_eq_some_iff.1 ho).1
      have h1 : listed.getD i false = true := (hli i hlt).2 (by
        rcases Nat.lt_or_ge i b with h | h
        · exact .inl h
        · exact .inr (hall i h hlt))
      have hlt2 : i < listed.size := by omega
      simp only [Array.getD_eq_getD_getElem?, Array.getElem?_eq_getElem hlt2, Option.getD_some] at h0 h1
      rw [h0] at h1; cases h1
    refine ⟨hready, ?_⟩
    have := to_canon hk hs (b := b) (m := ops.size - b) hn hds (fun i => ⟨fun h => by
      obtain ⟨g1, mo, g2, _⟩ := hds i h
      have := hsome i mo g2
      omega, fun h => hall i h.1 (by omega)⟩) r
    rw [show b + (ops.size - b) = L.length by omega] at this
    exact hQ a W hdr ow F this hF0
  | succ fuel ih =>
    intro listed a W b ds F hdr ow hsz hb hn hds hli hcl r hF0 hfr hFb hcnt
    refine ⟨fun hready => ?_, fun i hi => ?_⟩
    · have hall := ready_nil hk.back hsz hready
      have := to_canon hk hs (b := b) (m := ops.size - b) hn hds (fun i => ⟨fun h => by
        obtain ⟨g1, mo, g2, _⟩ := hds i h
        have := hsome i mo g2
        omega, fun h => ((hli i (by omega)).1 (hall i (by omega))).resolve_left (by omega)⟩) r
      rw [show b + (ops.size - b) = L.length by omega] at this
      exact hQ a W hdr ow F this hF0
    · rw [mem_ready] at hi
      obtain ⟨h0, o, ho, hedges⟩ := hi
      have hlt := (Array.getElem?_eq_some_iff.1 ho).1
      have hlt2 : i < listed.size := by omega
      have hnl : listed.getD i false = false := by
        simp only [Array.getD_eq_getD_getElem?, Array.getElem?_eq_getElem hlt2, Option.getD_some] at h0 ⊢
        exact h0
      have hnot : ¬ (i < b ∨ i ∈ ds) := fun h => by rw [(hli i hlt).2 h] at hnl; cases hnl
      have hbi : b ≤ i := Nat.le_of_not_lt fun h => hnot (.inl h)
      have hids : i ∉ ds := fun h => hnot (.inr h)
      obtain ⟨mo, hmo, hcO⟩ := hL i o ho
      have hdir : ∀ e ∈ o.after, Region.binds .any e = true → e.on < b ∨ e.on ∈ ds := fun e he hbe => by
        have h1 := hedges e he hbe
        have h2 := hk.back i o e ho he hbe
        exact (hli e.on (by omega)).1 h1
      have hr : ∀ k, Dp ops i k → b ≤ k → k ∈ ds := by
        intro k hdp hbk
        cases hdp with
        | one h1 h2 h3 =>
          rw [ho] at h1; cases h1
          exact (hdir _ h2 h3).resolve_left (by omega)
        | step h1 h2 h3 h4 =>
          rw [ho] at h1; cases h1
          have := h4.lt hk.back
          exact hcl _ ((hdir _ h2 h3).resolve_left (by omega)) k h4 hbk
      have hquiet : ∀ j, b ≤ j → j < i → ∃ mo, L[j]? = some mo ∧ mo.loud = false := by
        intro j h1 h2
        have hjl : j < L.length := by omega
        refine ⟨L[j], List.getElem?_eq_getElem hjl, ?_⟩
        cases hx : (L[j]).loud with
        | false => rfl
        | true =>
          exfalso
          have hd := (hk.loud j i L[j] (List.getElem?_eq_getElem hjl) hx (by omega)).2 h2
          have hjd := hr j hd h1
          obtain ⟨_, mo', g1, g2⟩ := hds j hjd
          rw [List.getElem?_eq_getElem hjl] at g1; cases g1
          rw [hx] at g2; cases g2
      have hfri : ∀ k, news mo nx k → ¬ F k := hfr i mo hmo hbi hids
      have hnx : (app δ ds (S b)).nx = nx := by rw [app_nx]; exact hs.nxs b (by omega)
      have hset : ∀ j, j < ops.size → ((listed.setIfInBounds i true).getD j false = true ↔ listed.getD j false = true ∨ j = i) := by
        intro j hj
        by_cases hji : j = i
        · subst hji; simp [hlt2]
        · rw [getD_set_ne false (Ne.symm hji)]; simp [hji]
      cases hloud : mo.loud with
      | false =>
        obtain ⟨ag1, ag2⟩ := agree hk hs hmo hbi hquiet hFb hn hds hids hcl hr
        have hstep := hs.loc i mo hmo hloud _ _ ag1 ag2
        have e1 : (⟨(app δ ds (S b)).env, (app δ ds (S b)).heap, nx⟩ : St) = app δ ds (S b) := by rw [← hnx]
        have e2 : (⟨((δ i).1, (δ i).2.1) :: (app δ ds (S b)).env, (δ i).2.2 ++ (app δ ds (S b)).heap, nx⟩ : St) = app δ (i :: ds) (S b) := by
          simp only [app]; rw [hnx]
        rw [e1, e2] at hstep
        refine step_ok (ows := ows) hstep ho hcO r (by rw [hnx]; exact hfri) ?_
        intro a' W' hdr' ow' r'
        rw [hnx] at r'
        refine ih (listed.setIfInBounds i true) a' W' b (i :: ds) _ hdr' ow' (by simpa using hsz) hb (List.nodup_cons.2 ⟨hids, hn⟩) ?_ ?_ ?_ r' ?_ ?_ hFb (by simp; omega)
        · intro j hj
          rcases List.mem_cons.1 hj with rfl | hj
          · exact ⟨hbi, mo, hmo, hloud⟩
          · exact hds j hj
        · intro j hj
          rw [hset j hj, hli j hj, List.mem_cons]
          constructor
          · rintro ((h | h) | h)
            · exact .inl h
            · exact .inr (.inr h)
            · exact .inr (.inl h)
          · rintro (h | h | h)
            · exact .inl (.inl h)
            · exact .inr h
            · exact .inl (.inr h)
        · intro j hj k hd hbk
          rcases List.mem_cons.1 hj with rfl | hj
          · exact List.mem_cons_of_mem _ (hr k hd hbk)
          · exact List.mem_cons_of_mem _ (hcl j hj k hd hbk)
        · intro k hk'
          rcases hk' with h | h
          · exact hF0 k h
          · exact .inr ⟨i, mo, hmo, h⟩
        · intro j moj hj hbj hjn k hnk hF'
          rw [List.mem_cons, not_or] at hjn
          rcases hF' with h | h
          · exact hfr j moj hj hbj hjn.2 k hnk h
          · exact hjn.1 (news_one hk hs hj hmo hnk h)
      | true =>
        have hD : ∀ j, j ∈ ds ↔ b ≤ j ∧ j < b + (i - b) := by
          intro j
          constructor
          · intro hj
            obtain ⟨g1, moj, g2, g3⟩ := hds j hj
            have hjl := hsome j moj g2
            refine ⟨g1, ?_⟩
            rcases Nat.lt_trichotomy j i with h | h | h
            · omega
            · subst h; exact (hids hj).elim
            · exfalso
              have hd := (hk.loud i j mo hmo hloud (by omega)).2 h
              exact hids (hcl j hj i hd hbi)
          · rintro ⟨h1, h2⟩
            exact hr j ((hk.loud i j mo hmo hloud (by omega)).1 (by omega)) h1
        have r2 := to_canon hk hs (b := b) (m := i - b) hn hds hD r
        rw [show b + (i - b) = i by omega] at r2
        have hsnx := hs.nxs i (by omega)
        refine step_ok (ows := ows) (hs.loud i mo hmo hloud) ho hcO r2 (by rw [hsnx]; exact hfri) ?_
        intro a' W' hdr' ow' r'
        rw [hsnx] at r'
        have hfr' : ∀ (j : Nat) (moj : MO), L[j]? = some moj → i + 1 ≤ j → ∀ k, news moj nx k → ¬ (F k ∨ news mo nx k) := by
          intro j moj hj hij k hnk hF'
          rcases hF' with h | h
          · exact hfr j moj hj (by omega) (fun hjd => by have := (hD j).1 hjd; omega) k hnk h
          · have := news_one hk hs hj hmo hnk h; omega
        have hlds : ds.length = i - b := by
          have h1 := nodup_le hn (l' := cr b (i - b)) fun x hx => mem_cr.2 ((hD x).1 hx)
          have h2 := nodup_le (cr_nodup b (i - b)) (l' := ds) fun x hx => (hD x).2 (mem_cr.1 hx)
          have h5 : (cr b (i - b)).length = i - b := by
            have : ∀ m, (cr b m).length = m := fun m => by induction m with | zero => rfl | succ m ih => simp [cr, ih]
            exact this _
          omega
        refine ih (listed.setIfInBounds i true) a' W' (i + 1) [] _ hdr' ow' (by simpa using hsz) (by omega) List.nodup_nil (by simp) ?_ (by simp) r' ?_ ?_ ?_ (by simp; omega)
        · intro j hj
          rw [hset j hj, hli j hj, hD j]
          simp only [List.not_mem_nil, or_false]
          omega
        · intro k hk'
          rcases hk' with h | h
          · exact hF0 k h
          · exact .inr ⟨i, mo, hmo, h⟩
        · intro j moj hj hij _ k hnk
          exact hfr' j moj hj hij k hnk
        · intro t x k hx hm j moj hij hj hnk
          exact hfr' j moj hj hij k hnk (r'.idsE t x hx k hm)

end draw
end Go.AM
