/- The code: what it runs through, and where it ends. -/
import Derived.Test.YtphjjlhpepmofaaAM20
set_option linter.all false
namespace Go.AM
open Go

/-- The operations of a region, one by one. -/
inductive RChain (P : Program) (q : Bool) : St → List MO → St → Prop
  | nil {s : St} : RChain P q s [] s
  | cons {s s1 s2 : St} {mo : MO} {L : List MO} : AStep P (q && !mo.loud) s mo s1 → RChain P q s1 L s2 → RChain P q s (mo :: L) s2

section region
variable {P : Program} {C : Cx} {n : Nat} {F : Nat → Prop} {s s' : St} {a : Act} {W : World} {hdr : Nat → Value} {ow : Nat → Option Nat} {ows : List Nat} {ops : Array Oper} {Q : Exit → Act → World → Prop} {L : List MO}

theorem toListLen (ops : Array Oper) : ops.toList.length = ops.size := Array.length_toList

theorem mapO_get {α β : Type} {f : α → Option β} : ∀ {l : List α} {r : List β}, mapO f l = some r → r.length = l.length ∧ ∀ (i : Nat) (x : α), l[i]? = some x → ∃ y, r[i]? = some y ∧ f x = some y
  | [], r, h => by simp [mapO] at h; subst h; simp
  | x :: l, r, h => by
    simp only [mapO] at h
    split at h
    · rename_i y ys h1 h2
      cases h
      obtain ⟨g1, g2⟩ := mapO_get h2
      refine ⟨by simp [g1], fun i z hz => ?_⟩
      cases i with
      | zero => simp at hz; subst hz; exact ⟨y, by simp, h1⟩
      | succ i => simp at hz; simpa using g2 i z hz
    · cases h

theorem chain_nx {q : Bool} {s s' : St} {L : List MO} (h : RChain P q s L s') : s'.nx = s.nx := by
  induction h with
  | nil => rfl
  | cons h1 _ ih => rw [ih]; exact step_nx h1

theorem chain_states {q : Bool} {s s' : St} {L : List MO} (h : RChain P q s L s') : ∃ S : Nat → St, S 0 = s ∧ S L.length = s' ∧ (∀ i, i ≤ L.length → (S i).nx = s.nx) ∧ ∀ (i : Nat) (mo : MO), L[i]? = some mo → AStep P (q && !mo.loud) (S i) mo (S (i + 1)) := by
  induction h with
  | nil => rename_i s; exact ⟨fun _ => s, rfl, rfl, fun _ _ => rfl, fun i mo h => by simp at h⟩
  | cons h1 h2 ih =>
    rename_i s s1 s2 mo L
    obtain ⟨S, g1, g2, g3, g4⟩ := ih
    refine ⟨fun i => match i with | 0 => s | i + 1 => S i, rfl, g2, fun i hi => ?_, fun i mo' h => ?_⟩
    · cases i with
      | zero => rfl
      | succ i => simp only; rw [g3 i (by simp at hi; omega)]; exact step_nx h1
    · cases i with
      | zero => simp at h; subst h; simp only; rw [g1]; exact h1
      | succ i => simp at h; exact g4 i mo' h

theorem news_lt {mo : MO} {nx k : Nat} (h : news mo nx k) (hs : ∀ t, mo.dst = some t → t < 1024) : nx ≤ k ∧ k < nx + 8192 := by
  obtain ⟨d, h1, j, h2, rfl⟩ := h
  have := hs d h1
  omega

theorem cO_small {o : Oper} {mo : MO} (h : cO P ows n ops o = some mo) : ∀ t, mo.dst = some t → t < 1024 := by
  intro t ht
  unfold cO at h
  split at h
  · cases h
  · split at h
    · split at h
      · rename_i hh
        split at h
        · cases h; simp [MO.dst] at ht; subst ht; exact hh.2.1
        · cases h
      · cases h
    · split at h
      · cases h; simp [MO.dst] at ht
      · cases h
    · split at h
      · rename_i hh
        obtain ⟨m, _, rfl⟩ := Option.map_eq_some_iff.1 h
        simp [MO.dst] at ht; subst ht; exact hh.2
      · cases h
    · cases h

theorem distinct_one (h : distinctB L = true) : ∀ (i j : Nat) (mo mo' : MO) (t : Nat), L[i]? = some mo → L[j]? = some mo' → mo.dst = some t → mo'.dst = some t → i = j := by
  have key : ∀ (l : List MO), (l.filterMap MO.dst).Nodup → ∀ (i j : Nat) (mo mo' : MO) (t : Nat), l[i]? = some mo → l[j]? = some mo' → mo.dst = some t → mo'.dst = some t → i = j := by
    intro l
    induction l with
    | nil => intro _ i j mo mo' t h; simp at h
    | cons x l ih =>
      intro hn i j mo mo' t hi hj hd hd'
      have hmem : ∀ (k : Nat) (m : MO), l[k]? = some m → m.dst = some t → t ∈ l.filterMap MO.dst := fun k m hk hm => List.mem_filterMap.2 ⟨m, List.mem_of_getElem? hk, hm⟩
      have hn' : (l.filterMap MO.dst).Nodup := by
        rw [List.filterMap_cons] at hn
        split at hn
        · exact hn
        · exact (List.nodup_cons.1 hn).2
      have hno : ∀ {m : MO}, x.dst = some t → ∀ k, l[k]? = some m → m.dst = some t → False := fun hx k hk hm => by
        rw [List.filterMap_cons, hx] at hn
        exact (List.nodup_cons.1 hn).1 (hmem k _ hk hm)
      cases i with
      | zero =>
        cases j with
        | zero => rfl
        | succ j => simp at hi hj; subst hi; exact (hno hd j hj hd').elim
      | succ i =>
        cases j with
        | zero => simp at hi hj; subst hj; exact (hno hd' i hi hd).elim
        | succ j => simp at hi hj; rw [ih hn' i j mo mo' t hi hj hd hd']
  exact key L (of_decide_eq_true h)

theorem list_ok (hc : mapO (cO P ows n ops) ops.toList = some L) (hd : distinctB L = true) {nx : Nat} (hQ : ∀ a' W' hdr' ow' (F' : Nat → Prop), RelAt C n F' s' a' W' hdr' ow' → (∀ k, F' k → k < nx + 8192) → Q .normal a' W') :
    ∀ (m k : Nat) (s : St) (F : Nat → Prop) (a : Act) (W : World) (hdr : Nat → Value) (ow : Nat → Option Nat), k + m = L.length → s.nx = nx → RChain P false s (L.drop k) s' → RelAt C n F s a W hdr ow →
      (∀ j, F j → j < nx + 8192) → (∀ (i : Nat) (mo : MO), L[i]? = some mo → k ≤ i → ∀ j, news mo nx j → ¬ F j) → wpOps P ops Q (List.range' k m) a W := by
  obtain ⟨hlen, hget⟩ := mapO_get hc
  rw [toListLen] at hlen
  intro m
  induction m with
  | zero =>
    intro k s F a W hdr ow hkm hnx hch r hF hfr
    rw [List.drop_of_length_le (by omega)] at hch
    cases hch
    exact hQ a W hdr ow F r hF
  | succ m ih =>
    intro k s F a W hdr ow hkm hnx hch r hF hfr
    have hkl : k < L.length := by omega
    have hks : k < ops.size := by omega
    rw [List.drop_eq_getElem_cons hkl] at hch
    rw [List.range'_succ, wpOps_cons]
    have ho : ops[k]? = some ops[k] := Array.getElem?_eq_getElem hks
    obtain ⟨mo, h1, h2⟩ := hget k ops[k] (by rw [Array.getElem?_toList]; exact ho)
    rw [List.getElem?_eq_getElem hkl] at h1
    cases h1
    cases hch with
    | cons hst hrest =>
      rename_i s1
      rw [Bool.false_and] at hst
      have hmo : L[k]? = some L[k] := List.getElem?_eq_getElem hkl
      refine step_ok (ows := ows) hst ho h2 r (by rw [hnx]; exact hfr k L[k] hmo (Nat.le_refl _)) ?_
      intro a' W' hdr' ow' r'
      rw [hnx] at r'
      refine ih (k + 1) s1 _ a' W' hdr' ow' (by omega) ((step_nx hst).trans hnx) hrest r' ?_ ?_
      · rintro j (h | h)
        · exact hF j h
        · exact (news_lt h (cO_small h2)).2
      · intro i moi hi hki j hnj hF'
        rcases hF' with h | h
        · exact hfr i moi hi (by omega) j hnj h
        · obtain ⟨d, q1, x, q2, q3⟩ := hnj
          obtain ⟨d', q1', x', q2', q3'⟩ := h
          obtain ⟨oi, hoi⟩ : ∃ o, ops.toList[i]? = some o := by
            have := (List.getElem?_eq_some_iff.1 hi).1
            exact ⟨_, List.getElem?_eq_getElem (by rw [toListLen]; omega)⟩
          obtain ⟨moi', e1, e2⟩ := hget i oi hoi
          rw [hi] at e1; cases e1
          have s1 := cO_small e2 d q1
          have s2 := cO_small h2 d' q1'
          have : d = d' := by omega
          subst this
          have := distinct_one hd i k moi L[k] d hi hmo q1 q1'
          omega

theorem chk_ok (hc : mapO (cO P ows n ops) ops.toList = some L) (hd : distinctB L = true) (hb : drawB ops L = true) : Chk ops L := by
  obtain ⟨hlen, hget⟩ := mapO_get hc
  rw [toListLen] at hlen
  simp only [drawB, Bool.and_eq_true] at hb
  obtain ⟨hb1, hb2⟩ := hb
  have hms : ∀ k j, ((masks [] ops.toList).getD k 0).testBit j = true → Dp ops k j := masks_ok ops.toList [] (by simp) (by intro i o h; simpa using h)
  rw [List.all_eq_true] at hb1 hb2
  have hpair : ∀ (i j : Nat) (mo mo' : MO), L[i]? = some mo → L[j]? = some mo' → _ := fun i j mo mo' hi hj => by
    have h1 := hb2 (mo, i) (by rw [List.mem_zipIdx_iff_getElem?]; exact hi)
    rw [List.all_eq_true] at h1
    have h2 := h1 (mo', j) (by rw [List.mem_zipIdx_iff_getElem?]; exact hj)
    simp only [Bool.and_eq_true] at h2
    exact h2
  refine ⟨hlen, ?_, ?_, ?_, distinct_one hd, ?_⟩
  · intro i o e ho he hbe
    have h1 := hb1 (o, i) (by rw [List.mem_zipIdx_iff_getElem?]; simpa using ho)
    rw [List.all_eq_true] at h1
    have h2 := h1 e (by simpa using he)
    simp only [hbe, Bool.not_true, Bool.false_or, decide_eq_true_eq] at h2
    exact h2
  · intro i j mo mo' t hi hj ht hd'
    have h := (hpair i j mo mo' hi hj).1
    simp only [hd'] at h
    have hcon : mo.reads.contains t = true := by rw [List.contains_iff_mem]; exact ht
    rw [hcon] at h
    simp only [Bool.not_true, Bool.false_or] at h
    by_cases h1 : j < i
    · rw [if_pos h1] at h
      exact ⟨by omega, fun _ => hms i j h, fun h2 => by omega⟩
    · rw [if_neg h1] at h
      by_cases h2 : i < j
      · rw [if_pos h2] at h
        exact ⟨by omega, fun h3 => by omega, fun _ => hms j i h⟩
      · rw [if_neg h2] at h; cases h
  · intro i j mo hi hl hj
    have h := (hpair i j mo L[j] hi (List.getElem?_eq_getElem hj)).2
    rw [hl] at h
    simp only [Bool.not_true, Bool.false_or] at h
    constructor
    · intro h1; rw [if_pos h1] at h; exact hms i j h
    · intro h1; rw [if_neg (by omega), if_pos h1] at h; exact hms j i h
  · intro i mo t hi ht
    obtain ⟨oi, hoi⟩ : ∃ o, ops.toList[i]? = some o := by
      have := (List.getElem?_eq_some_iff.1 hi).1
      exact ⟨_, List.getElem?_eq_getElem (by rw [toListLen]; omega)⟩
    obtain ⟨moi', e1, e2⟩ := hget i oi hoi
    rw [hi] at e1; cases e1
    exact cO_small e2 t ht

theorem steps_ok {S : Nat → St} {nx : Nat} (hnx : ∀ i, i ≤ L.length → (S i).nx = nx) (hS : ∀ (i : Nat) (mo : MO), L[i]? = some mo → AStep P (true && !mo.loud) (S i) mo (S (i + 1))) (hsm : ∀ (i : Nat) (mo : MO), L[i]? = some mo → ∀ t, mo.dst = some t → t < 1024) : ∃ δ, Steps' P L S δ nx := by
  have hex : ∀ i : Nat, ∃ r : Nat × AV × Heap, ∀ mo, L[i]? = some mo → mo.loud = false → mo.dst = some r.1 ∧ S (i + 1) = ⟨(r.1, r.2.1) :: (S i).env, r.2.2 ++ (S i).heap, (S i).nx⟩ ∧ (∀ k e, find r.2.2 k = some e → news mo nx k) ∧
      (∀ k, r.2.1.men k → news mo nx k ∨ Named' (S i).env mo.opds k ∨ k < nx) ∧
      ∀ E' H2, (∀ t ∈ mo.reads, find E' t = find (S i).env t) → (∀ k, Named' (S i).env mo.opds k → find H2 k = find (S i).heap k) → AStep P true ⟨E', H2, nx⟩ mo ⟨(r.1, r.2.1) :: E', r.2.2 ++ H2, nx⟩ := by
    intro i
    cases h : L[i]? with
    | none => exact ⟨default, fun mo hm => by cases hm⟩
    | some mo =>
      cases hl : mo.loud with
      | true => exact ⟨default, fun mo' hm hl' => by cases hm; rw [hl] at hl'; cases hl'⟩
      | false =>
        have := hS i mo h
        rw [hl] at this
        obtain ⟨d, x, N, q1, q2, q3, q4, q5⟩ := step_local hl this
        rw [hnx i (Nat.le_of_lt (List.getElem?_eq_some_iff.1 h).1)] at q3 q4 q5
        exact ⟨(d, x, N), fun mo' hm _ => by
          cases hm
          refine ⟨q1, q2, q3, fun k hk => ?_, q5⟩
          rcases q4 k hk with h' | h' | ⟨d', h1', h2'⟩
          · exact .inl h'
          · exact .inr (.inl h')
          · have := hsm i mo h d' h1'
            exact .inr (.inr (by omega))⟩
  refine ⟨fun i => Classical.choose (hex i), hnx, ?_, ?_, ?_, ?_, ?_, ?_⟩
  · intro i mo hi hl
    have := hS i mo hi
    rw [hl] at this
    exact this
  · exact fun i mo hi hl => (Classical.choose_spec (hex i) mo hi hl).1
  · exact fun i mo hi hl => (Classical.choose_spec (hex i) mo hi hl).2.1
  · exact fun i mo hi hl => (Classical.choose_spec (hex i) mo hi hl).2.2.1
  · exact fun i mo hi hl => (Classical.choose_spec (hex i) mo hi hl).2.2.2.1
  · exact fun i mo hi hl => (Classical.choose_spec (hex i) mo hi hl).2.2.2.2

/-- A region. -/
theorem reg_ok {draw : Bool} {rid : Nat} (hc : mapO (cO P ows n ops) ops.toList = some L) (hd : distinctB L = true) (hdr : draw = true → drawB ops L = true ∧ P.follows .mixedOrders = true) (h : RChain P draw s L s')
    {hdr0 : Nat → Value} (r : RelAt C n (· < s.nx) s a W hdr0 ow) (hQ : ∀ a' W' hdr' ow', RelAt C n (· < s.nx + 8192) ⟨s'.env, s'.heap, s.nx + 8192⟩ a' W' hdr' ow' → Q .normal a' W') : (Code.region rid ops draw).wp P Q a W := by
  obtain ⟨hlen, hget⟩ := mapO_get hc
  have hsmall : ∀ (i : Nat) (mo : MO), L[i]? = some mo → ∀ t, mo.dst = some t → t < 1024 := by
    intro i mo hi t ht
    obtain ⟨oi, hoi⟩ : ∃ o, ops.toList[i]? = some o := by
      have := (List.getElem?_eq_some_iff.1 hi).1
      exact ⟨_, List.getElem?_eq_getElem (by rw [toListLen]; rw [toListLen] at hlen; omega)⟩
    obtain ⟨moi', e1, e2⟩ := hget i oi hoi
    rw [hi] at e1; cases e1
    exact cO_small e2 t ht
  have hQ' : ∀ a' W' hdr' ow' (F' : Nat → Prop), RelAt C n F' s' a' W' hdr' ow' → (∀ k, F' k → k < s.nx + 8192) → Q .normal a' W' := fun a' W' hdr' ow' F' r' hF =>
    hQ a' W' hdr' ow' ((r'.monoF hF).congr (m := s.nx + 8192) (fun _ _ h => h) fun _ => rfl)
  rw [toListLen] at hlen
  cases draw with
  | false =>
    refine wp_region ?_
    rw [List.range_eq_range', ← hlen]
    refine list_ok hc hd hQ' L.length 0 s _ a W _ _ (by omega) rfl (by simpa using h) r (fun j hj => by omega) ?_
    intro i mo hi _ j hn hF
    have := news_lt hn (hsmall i mo hi)
    omega
  | true =>
    obtain ⟨hb, hm⟩ := hdr rfl
    obtain ⟨S, h0, h1, h2, h3⟩ := chain_states h
    obtain ⟨δ, hs⟩ := steps_ok h2 h3 hsmall
    have hk := chk_ok hc hd hb
    refine wp_region_any hm ?_
    refine draw_any (C := C) (ows := ows) (S := S) (δ := δ) (nx := s.nx) (F0 := (· < s.nx)) (fun i o ho => hget i o (by rw [Array.getElem?_toList]; exact ho)) hk hs ?_ ops.size _ a _ 0 [] (· < s.nx) hdr0 ow (by simp) (by omega) List.nodup_nil (by simp) ?_ (by simp) ?_ (fun k h => .inl h) ?_ ?_ (by simp)
    · intro a' W' hdr' ow' F' r' hF
      rw [h1] at r'
      refine hQ' a' W' hdr' ow' F' r' fun k hk' => ?_
      rcases hF k hk' with h | ⟨i, mo, hi, hn⟩
      · omega
      · exact (news_lt hn (hsmall i mo hi)).2
    · intro i hi
      simp [Array.getD_eq_getD_getElem?, hi]
    · have r0 := r.same (W' := { W with drawn := W.drawn + 1 }) ⟨rfl, rfl, rfl, rfl⟩
      simp only [app, h0]
      exact r0
    · intro i mo hi _ _ k hn hF
      have := news_lt hn (hsmall i mo hi)
      omega
    · intro t x k hx hm' j mo _ hj hn
      rw [h0] at hx
      have h4 := r.idsE t x hx k hm'
      have := news_lt hn (hsmall j mo hj)
      omega

end region
end Go.AM
