/- Plain laws. -/
import Derived.Test.YtepjlojlkionfaaRs3
set_option linter.all false
set_option maxHeartbeats 2000000
namespace Go.Proofs
open Go Go.AM
theorem srt_min {α : Type} {c : α → α → Int} (hc : Lin c) {X X' : List α} {y0 : α} (hp : X.Perm (y0 :: X')) (h : ∀ y ∈ X', y = y0 ∨ c y0 y < 0) : srt c X = y0 :: srt c X' := by
  refine (srt_uniq hc (((srt_perm X').cons y0).trans hp.symm) ?_).symm
  refine List.pairwise_cons.2 ⟨fun y hy => ?_, srt_pw hc X'⟩
  rcases h y ((srt_mem X' y).1 hy) with rfl | h1
  · exact hc.irr _
  · exact hc.asy h1
theorem tgd_inj {tag : Option Nat} {a b : List Nat} (h : tgd tag a = tgd tag b) : a = b := by
  cases tag with
  | none => exact h
  | some k => simpa [tgd] using h
theorem FF_nodup {cost : Int} {tag : Option Nat} : ∀ (R : List (List TlT)) (ps : List Int) (k : Nat), (∀ (j : Nat) (r : List TlT), R[j]? = some r → r.Nodup ∧ ∀ x ∈ r, ∃ a, x.2 = (k + j) :: a) → (FF cost tag R ps).Nodup
  | [], ps, k, _ => by simp [FF]
  | r :: R, [], k, _ => by simp [FF]
  | r :: R, p :: ps, k, h => by
    obtain ⟨h0, h0'⟩ := h 0 r (by simp)
    have ih := FF_nodup (cost := cost) (tag := tag) R ps (k + 1) fun j r' hr => by
      obtain ⟨a, b⟩ := h (j + 1) r' (by simpa using hr)
      exact ⟨a, fun x hx => by
        obtain ⟨z, hz⟩ := b x hx
        exact ⟨z, by rw [hz]; congr 1; omega⟩⟩
    simp only [FF]
    rw [List.nodup_append]
    refine ⟨nd_map h0 fun x _ y _ e => img_inj e, ih, ?_⟩
    intro y hy z hz e
    subst e
    obtain ⟨x, hx, rfl⟩ := List.mem_map.1 hy
    obtain ⟨j, r', p', h1, h2, x', hx', e⟩ := FF_mem.1 hz
    obtain ⟨a, ha⟩ := h0' x hx
    obtain ⟨b, hb⟩ := (h (j + 1) r' (by simpa using h1)).2 x' hx'
    simp only [img, Prod.mk.injEq] at e
    have := tgd_inj e.2
    rw [ha, hb, List.cons.injEq] at this
    omega
theorem mrg_srt {ps : List Int} {cost : Int} {tag : Option Nat} : ∀ (n : Nat) (R : List (List TlT)), ps.length = R.length → (∀ (j : Nat) (r : List TlT), R[j]? = some r → r.Pairwise (fun a b => cT a b < 0)) → (∀ (j : Nat) (r : List TlT), R[j]? = some r → ∀ x ∈ r, ∃ a, x.2 = j :: a) → mrg ps cost tag n R = (srt cT (FF cost tag R ps)).take n
  | 0, R, _, _, _ => by simp [mrg]
  | n + 1, R, hl, hs, ht => by
    obtain ⟨b1, b2⟩ := bst_spec R ps 0 none hl (by simp)
    simp only [mrg]
    cases hb : bstR R ps 0 none with
    | none =>
      have hR := (b1 hb).2
      have hF : FF cost tag R ps = [] := by
        apply List.eq_nil_iff_forall_not_mem.2
        intro y hy
        obtain ⟨j, r, p, h1, _, x, hx, _⟩ := FF_mem.1 hy
        rw [hR r (List.mem_of_getElem? h1)] at hx
        cases hx
      rw [hF]
      simp [srt]
    | some jv =>
      obtain ⟨j, v⟩ := jv
      obtain ⟨c1, _, c3⟩ := b2 j v hb
      rcases c1 with c1 | ⟨j', x, r, p, e0, e1, e2, e3, e4⟩
      · cases c1
      have hj : j = j' := by omega
      subst hj
      have hgd : R.getD j [] = x :: r := by rw [List.getD_eq_getElem?_getD, e1]; rfl
      have hpd : ps.getD j 0 = p := by rw [List.getD_eq_getElem?_getD, e2]; rfl
      simp only [hgd, hpd]
      have hjl : j < R.length := (List.getElem?_eq_some_iff.1 e1).1
      have hset : ∀ (j1 : Nat) (r1 : List TlT), (R.set j r)[j1]? = some r1 → (j1 = j ∧ r1 = r) ∨ (j1 ≠ j ∧ R[j1]? = some r1) := by
        intro j1 r1 h1
        rw [List.getElem?_set] at h1
        split at h1
        · rename_i e; subst e
          try rw [if_pos hjl] at h1
          simp only [Option.some.injEq] at h1
          exact .inl ⟨rfl, h1.symm⟩
        · rename_i e; exact .inr ⟨fun h => e h.symm, h1⟩
      have hsx := List.pairwise_cons.1 (hs j _ e1)
      have hperm := FF_set (cost := cost) (tag := tag) e1 e2
      have hmin : ∀ y ∈ FF cost tag (R.set j r) ps, y = img cost tag p x ∨ cT (img cost tag p x) y < 0 := by
        intro y hy
        obtain ⟨j1, r1, p1, f1, f2, x1, f3, rfl⟩ := FF_mem.1 hy
        right
        rcases hset j1 r1 f1 with ⟨rfl, rfl⟩ | ⟨hne, f4⟩
        · rw [e2] at f2
          cases f2
          rw [img_lt]
          rcases cT_cases.1 (hsx.1 x1 f3) with q | ⟨q, q'⟩
          · exact .inl (by omega)
          · exact .inr ⟨by omega, q'⟩
        · cases r1 with
          | nil => cases f3
          | cons h t =>
            have hle := c3 j1 h t p1 f4 f2
            have hx1 : h.1 ≤ x1.1 := by
              rcases List.mem_cons.1 f3 with rfl | f3
              · exact Int.le_refl _
              · rcases cT_cases.1 ((List.pairwise_cons.1 (hs j1 _ f4)).1 x1 f3) with q | ⟨q, _⟩ <;> omega
            rw [img_lt]
            by_cases q : x.1 + p < x1.1 + p1
            · exact .inl q
            · right
              refine ⟨by omega, ?_⟩
              have hjj : ¬ j1 < j := fun hlt => by
                have := e4 j1 h t p1 hlt f4 f2
                omega
              obtain ⟨a, ha⟩ := ht j _ e1 x (by simp)
              obtain ⟨b, hb⟩ := ht j1 _ f4 x1 f3
              rw [ha, hb]
              have hz : cmpZ (j : Int) (j1 : Int) < 0 := cmpZ_lt.2 (by omega)
              simp only [cmpNs]
              rw [if_neg (by omega)]; exact hz
      have hsrt := srt_min linT hperm hmin
      rw [hsrt, List.take_succ_cons]
      have ih := mrg_srt (ps := ps) (cost := cost) (tag := tag) n (R.set j r) (by simpa using hl) (fun j1 r1 h1 => by
        rcases hset j1 r1 h1 with ⟨rfl, rfl⟩ | ⟨_, h2⟩
        · exact hsx.2
        · exact hs j1 r1 h2) (fun j1 r1 h1 y hy => by
        rcases hset j1 r1 h1 with ⟨rfl, rfl⟩ | ⟨_, h2⟩
        · exact ht j1 _ e1 y (by simp [hy])
        · exact ht j1 r1 h2 y hy)
      rw [← ih]
      rfl
theorem mrg_first {ps : List Int} {cost : Int} {tag : Option Nat} {M : Nat} {R : List (List TlT)} {V : Nat → TlT → Prop} (hl : ps.length = R.length) (hF : ∀ (j : Nat) (r : List TlT), R[j]? = some r → FirstM cT M (V j) r) (ht : ∀ (j : Nat) (x : TlT), V j x → ∃ a, x.2 = j :: a) :
    FirstM cT M (fun y => ∃ (j : Nat) (p : Int) (x : TlT), j < R.length ∧ ps[j]? = some p ∧ V j x ∧ y = img cost tag p x) (mrg ps cost tag M R) := by
  rw [mrg_srt M R hl (fun j r h => (hF j r h).asc) (fun j r h x hx => ht j x ((hF j r h).mem x hx))]
  have hn : (FF cost tag R ps).Nodup := FF_nodup R ps 0 fun j r h => ⟨(hF j r h).nodup linT, fun x hx => by rw [Nat.zero_add]; exact ht j x ((hF j r h).mem x hx)⟩
  refine first_up linT (first_srt linT hn M) (fun y hy => ?_) (fun v hv hvX => ?_)
  · obtain ⟨j, r, p, h1, h2, x, hx, rfl⟩ := FF_mem.1 hy
    exact ⟨j, p, x, (List.getElem?_eq_some_iff.1 h1).1, h2, (hF j r h1).mem x hx, rfl⟩
  · obtain ⟨j, p, x, h1, h2, h3, rfl⟩ := hv
    have hr := List.getElem?_eq_getElem h1
    have hx : x ∉ R[j] := fun h => hvX (FF_mem.2 ⟨j, R[j], p, hr, h2, x, h, rfl⟩)
    obtain ⟨q1, q2⟩ := (hF j _ hr).out x h3 hx
    refine ⟨R[j].map (img cost tag p), nd_map ((hF j _ hr).nodup linT) (fun a _ b _ e => img_inj e), by simpa using q1, fun q hq => ?_, fun q hq => ?_⟩
    · obtain ⟨z, hz, rfl⟩ := List.mem_map.1 hq
      exact FF_mem.2 ⟨j, R[j], p, hr, h2, z, hz, rfl⟩
    · obtain ⟨z, hz, rfl⟩ := List.mem_map.1 hq
      rw [img_lt]
      rcases cT_cases.1 (q2 z hz) with e | ⟨e, e'⟩
      · exact .inl (by omega)
      · exact .inr ⟨by omega, e'⟩

end Go.Proofs
