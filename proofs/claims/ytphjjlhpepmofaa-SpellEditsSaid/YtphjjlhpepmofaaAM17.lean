/- Quiet operations: what they come to hangs on their operands alone. -/
import Derived.Test.YtphjjlhpepmofaaAM16
set_option linter.all false
namespace Go.AM
open Go

def optL : Option Opd → List Opd | none => [] | some x => [x]

def MOp.opds : MOp → List Opd
  | .mv x => [x]
  | .nilS _ => []
  | .pick c a b => [c, a, b]
  | .bin _ x y => [x, y]
  | .un _ x => [x]
  | .len _ x => [x]
  | .mm _ x y => [x, y]
  | .eqb _ x y => [x, y]
  | .six x i => [x, i]
  | .sls x lo hi => x :: (optL lo ++ optL hi)
  | .slc _ _ x lo hi => x :: (optL lo ++ optL hi)
  | .sl0 _ x => [x]
  | .ia _ x i => [x, i]
  | .iaA _ _ x i => [x, i]
  | .fa _ x => [x]
  | .fld _ _ _ x => [x]
  | .aix _ _ _ x i => [x, i]
  | .ld _ _ x => [x]
  | .stt _ _ x v => [x, v]
  | .box _ x => [x]
  | .alloc _ _ => []
  | .build _ _ ps => ps.map fun p => p.2.2
  | .buildS _ _ _ _ _ ps => ps.map fun p => p.2
  | .app _ _ x y => [x, y]
  | .cln _ _ y => [y]
  | .eqS _ _ x y => [x, y]
  | .mm3 _ x y z => [x, y, z]
  | .mkS _ _ _ _ n c => [n, c]
  | .ext x _ => [x]
  | .conv _ x => [x]
  | .cvS x => [x]
  | .chk x => [x]
  | .mkf _ caps => caps

section
variable {E E' : Env} {H H2 : Heap} {id : Nat}

/-- Rows that the operands name. -/
def Named (E : Env) (xs : List Opd) (k : Nat) : Prop := ∃ y ∈ xs, ∃ u, ev E y = some u ∧ u.men k

theorem bnds_local {n : Nat} {lo hi : Option Opd} (h1 : ∀ y ∈ optL lo, ev E' y = ev E y) (h2 : ∀ y ∈ optL hi, ev E' y = ev E y) : bnds E' n lo hi = bnds E n lo hi := by
  unfold bnds
  cases lo <;> cases hi <;> simp [optL] at h1 h2 <;> simp [*]

theorem rdRow_local {u : AV} (h : ∀ k, u.men k → find H2 k = find H k) : rdRow H2 u = rdRow H u := by
  cases u with
  | h k => simp only [rdRow, h k (by simp [AV.men])]
  | v p => cases p <;> rfl
  | _ => rfl

theorem tov_local {u : AV} {p : PV} {H' : Heap} (h : ∀ k, u.men k → find H2 k = find H k) (ht : tov true H u = some (p, H')) : H' = H ∧ tov true H2 u = some (p, H2) := by
  cases u with
  | h k =>
    simp only [tov] at ht ⊢
    rw [h k (by simp [AV.men])]
    split at ht
    · split at ht
      · cases ht
      rename_i hz
      rw [if_neg hz]
      split at ht
      · simp only [Option.some.injEq, Prod.mk.injEq] at ht
        obtain ⟨rfl, rfl⟩ := ht
        rename_i hf
        simp [hf]
      · simp at ht
    · cases ht
  | v q =>
    simp only [tov, Option.some.injEq, Prod.mk.injEq] at ht ⊢
    exact ⟨ht.2.symm, ht.1, trivial⟩
  | fn f caps =>
    cases caps with
    | nil =>
      simp only [tov, Option.some.injEq, Prod.mk.injEq] at ht ⊢
      exact ⟨ht.2.symm, ht.1, trivial⟩
    | cons c cs => simp [tov] at ht
  | _ => simp [tov] at ht

theorem buildP_local : ∀ (ps : List (Nat × Nat × Opd)) (cs cs' : List PV) (H' : Heap), (∀ y ∈ ps.map (fun p => p.2.2), ev E' y = ev E y) → (∀ k, Named E (ps.map fun p => p.2.2) k → find H2 k = find H k) →
    buildP true E cs H ps = some (cs', H') → H' = H ∧ buildP true E' cs H2 ps = some (cs', H2)
  | [], cs, cs', H', _, _, h => by simp [buildP] at h ⊢; exact ⟨h.2.symm, h.1⟩
  | (off, sz, x) :: ps, cs, cs', H', hE, hH, h => by
    simp only [buildP] at h ⊢
    rw [hE x (by simp)]
    cases hx : ev E x with
    | none => rw [hx] at h; simp at h
    | some u =>
      rw [hx] at h
      simp only [Option.bind_some] at h ⊢
      cases ht : tov true H u with
      | none => rw [ht] at h; simp at h
      | some r =>
        obtain ⟨p, H1⟩ := r
        obtain ⟨e1, h2⟩ := tov_local (H2 := H2) (fun k hk => hH k ⟨x, by simp, u, hx, hk⟩) ht
        rw [e1] at ht
        rw [ht] at h
        rw [h2]
        simp only at h ⊢
        split at h
        · rename_i hc
          rw [if_pos hc]
          exact buildP_local ps _ cs' H' (fun y hy => hE y (by simp [hy])) (fun k ⟨y, hy, r⟩ => hH k ⟨y, by simp at hy ⊢; exact .inr hy, r⟩) h
        · cases h

theorem buildL_local {sz : Nat} : ∀ (ps : List (Nat × Opd)) (cs cs' : List PV) (H' : Heap), (∀ y ∈ ps.map (fun p => p.2), ev E' y = ev E y) → (∀ k, Named E (ps.map fun p => p.2) k → find H2 k = find H k) →
    buildL true E sz cs H ps = some (cs', H') → H' = H ∧ buildL true E' sz cs H2 ps = some (cs', H2)
  | [], cs, cs', H', _, _, h => by simp [buildL] at h ⊢; exact ⟨h.2.symm, h.1⟩
  | (i, x) :: ps, cs, cs', H', hE, hH, h => by
    simp only [buildL] at h ⊢
    rw [hE x (by simp)]
    cases hx : ev E x with
    | none => rw [hx] at h; simp at h
    | some u =>
      rw [hx] at h
      simp only [Option.bind_some] at h ⊢
      cases ht : tov true H u with
      | none => rw [ht] at h; simp at h
      | some r =>
        obtain ⟨p, H1⟩ := r
        obtain ⟨e1, h2⟩ := tov_local (H2 := H2) (fun k hk => hH k ⟨x, by simp, u, hx, hk⟩) ht
        rw [e1] at ht
        rw [ht] at h
        rw [h2]
        simp only at h ⊢
        split at h
        · rename_i hc
          rw [if_pos hc]
          exact buildL_local ps _ cs' H' (fun y hy => hE y (by simp [hy])) (fun k ⟨y, hy, r⟩ => hH k ⟨y, by simp at hy ⊢; exact .inr hy, r⟩) h
        · cases h

theorem evs_local : ∀ {xs : List Opd} {l : List AV}, (∀ y ∈ xs, ev E' y = ev E y) → evs E xs = some l → evs E' xs = some l ∧ ∀ k, AV.mens l k → Named E xs k
  | [], l, _, h => by simp [evs] at h ⊢; subst h; simp [AV.mens]
  | x :: xs, l, hE, h => by
    simp only [evs] at h ⊢
    rw [hE x (by simp)]
    split at h
    · rename_i u us h1 h2
      cases h
      obtain ⟨g1, g2⟩ := evs_local (fun y hy => hE y (by simp [hy])) h2
      rw [h1, g1]
      refine ⟨rfl, fun k hk => ?_⟩
      simp only [AV.mens] at hk
      rcases hk with hk | hk
      · exact ⟨x, by simp, u, h1, hk⟩
      · obtain ⟨y, hy, r⟩ := g2 k hk
        exact ⟨y, by simp [hy], r⟩
    · cases h

/-- What a quiet operation comes to. -/
def QRes (E E' : Env) (H H2 : Heap) (id : Nat) (m : MOp) (x : AV) (H' : Heap) : Prop :=
  ∃ N : Heap, H' = N ++ H ∧ mval true E' H2 id m = some (x, N ++ H2) ∧ (∀ k e, find N k = some e → k = id) ∧ ∀ k, x.men k → k = id ∨ Named E m.opds k ∨ k + 1024 ≤ id

theorem QRes.none {m : MOp} {x : AV} (h : mval true E' H2 id m = some (x, H2)) (hm : ∀ k, x.men k → Named E m.opds k) : QRes E E' H H2 id m x H :=
  ⟨[], rfl, h, fun k e he => by simp [find] at he, fun k hk => .inr (.inl (hm k hk))⟩

theorem QRes.one {m : MOp} {x : AV} {e : Ent} (h : mval true E' H2 id m = some (x, (id, e) :: H2)) (hm : ∀ k, x.men k → k = id) : QRes E E' H H2 id m x ((id, e) :: H) :=
  ⟨[(id, e)], rfl, h, fun k e' he => by rw [find_cons] at he; split at he; assumption; simp [find] at he, fun k hk => .inl (hm k hk)⟩

theorem QRes.old {m : MOp} {x : AV} (h : mval true E' H2 id m = some (x, H2)) (hm : ∀ k, x.men k → k + 1024 ≤ id) : QRes E E' H H2 id m x H :=
  ⟨[], rfl, h, fun k e he => by simp [find] at he, fun k hk => .inr (.inr (hm k hk))⟩

theorem asI_bind {x : Opd} (h : ev E' x = ev E x) : (ev E' x).bind asI = (ev E x).bind asI := by rw [h]

theorem mval_local {m : MOp} {x : AV} {H' : Heap} (hE : ∀ y ∈ m.opds, ev E' y = ev E y) (hH : ∀ k, Named E m.opds k → find H2 k = find H k) (h : mval true E H id m = some (x, H')) : QRes E E' H H2 id m x H' := by
  have hn : ∀ (y : Opd), y ∈ m.opds → ∀ (u : AV), ev E y = some u → ∀ k, u.men k → Named E m.opds k := fun y hy u hu k hk => ⟨y, hy, u, hu, hk⟩
  cases m with
  | mv y =>
    have h1 := hE y (by simp [MOp.opds])
    simp only [mval, Option.map_eq_some_iff, Prod.mk.injEq] at h
    obtain ⟨a, ha, rfl, rfl⟩ := h
    exact .none (by simp [mval, h1, ha]) (hn y (by simp [MOp.opds]) a ha)
  | nilS sz =>
    simp only [mval, Option.some.injEq, Prod.mk.injEq] at h
    obtain ⟨rfl, rfl⟩ := h
    exact .one (by simp [mval]) (by simp [AV.men])
  | pick c a b =>
    have h1 := hE c (by simp [MOp.opds])
    have h2 := hE a (by simp [MOp.opds])
    have h3 := hE b (by simp [MOp.opds])
    simp only [mval] at h
    split at h
    · rename_i t ht
      simp only [Option.map_eq_some_iff, Prod.mk.injEq] at h
      obtain ⟨v, hv, rfl, rfl⟩ := h
      cases t
      · exact .none (by simp at hv; simp [mval, h1, h3, ht, hv]) (hn b (by simp [MOp.opds]) v (by simpa using hv))
      · exact .none (by simp at hv; simp [mval, h1, h2, ht, hv]) (hn a (by simp [MOp.opds]) v (by simpa using hv))
    · cases h
  | bin op y z =>
    have h1 := hE y (by simp [MOp.opds])
    have h2 := hE z (by simp [MOp.opds])
    simp only [mval] at h
    split at h
    · rename_i u v hu hv
      simp only [Option.map_eq_some_iff, Prod.mk.injEq] at h
      obtain ⟨w, hw, rfl, rfl⟩ := h
      refine .none (by simp [mval, h1, h2, hu, hv, hw]) fun k hk => ?_
      unfold binA at hw
      split at hw
      · simp only [Option.map_eq_some_iff] at hw; obtain ⟨_, _, rfl⟩ := hw; simp [AV.men] at hk
      · cases hw
    · cases h
  | un op y =>
    have h1 := hE y (by simp [MOp.opds])
    simp only [mval] at h
    split at h
    · rename_i u hu
      simp only [Option.map_eq_some_iff, Prod.mk.injEq] at h
      obtain ⟨w, hw, rfl, rfl⟩ := h
      refine .none (by simp [mval, h1, hu, hw]) fun k hk => ?_
      unfold unA at hw
      split at hw
      · split at hw
        · cases hw; simp [AV.men] at hk
        · cases hw
      · split at hw
        · cases hw; simp [AV.men] at hk
        · cases hw
      · cases hw
    · cases h
  | len str y =>
    have h1 := hE y (by simp [MOp.opds])
    cases str with
    | true =>
      simp only [mval] at h
      split at h
      · rename_i b hb
        simp only [Option.some.injEq, Prod.mk.injEq] at h
        obtain ⟨rfl, rfl⟩ := h
        exact .none (by simp [mval, h1, hb]) (by simp [AV.men])
      · cases h
    | false =>
      simp only [mval] at h
      split at h
      · rename_i u hu
        split at h
        · rename_i sz l hl
          simp only [Option.some.injEq, Prod.mk.injEq] at h
          obtain ⟨rfl, rfl⟩ := h
          have h3 := rdRow_local (H2 := H2) fun k hk => hH k (hn y (by simp [MOp.opds]) u hu k hk)
          exact .none (by simp [mval, h1, hu, h3, hl]) (by simp [AV.men])
        · cases h
      · cases h
  | mm mx y z =>
    have h1 := hE y (by simp [MOp.opds])
    have h2 := hE z (by simp [MOp.opds])
    simp only [mval] at h
    split at h
    · rename_i k i k' j hu hv
      simp only [Option.some.injEq, Prod.mk.injEq] at h
      obtain ⟨rfl, rfl⟩ := h
      exact .none (by simp [mval, h1, h2, hu, hv]) (by simp [AV.men])
    · rename_i i j hu hv
      simp only [Option.some.injEq, Prod.mk.injEq] at h
      obtain ⟨rfl, rfl⟩ := h
      exact .none (by simp [mval, h1, h2, hu, hv]) (by simp [AV.men])
    · cases h
  | eqb ng y z =>
    have h1 := hE y (by simp [MOp.opds])
    have h2 := hE z (by simp [MOp.opds])
    simp only [mval] at h
    split at h
    · rename_i i j hu hv
      simp only [Option.some.injEq, Prod.mk.injEq] at h
      obtain ⟨rfl, rfl⟩ := h
      exact .none (by simp [mval, h1, h2, hu, hv]) (by simp [AV.men])
    · cases h
  | six y z =>
    have h1 := hE y (by simp [MOp.opds])
    have h2 := asI_bind (hE z (by simp [MOp.opds]))
    simp only [mval] at h
    split at h
    · rename_i b i hu hv
      split at h
      · rename_i h0
        simp only [Option.map_eq_some_iff, Prod.mk.injEq] at h
        obtain ⟨c, hc, rfl, rfl⟩ := h
        exact .none (by simp [mval, h1, h2, hu, hv, h0, hc]) (by simp [AV.men])
      · cases h
    · cases h
  | sls y lo hi =>
    have h1 := hE y (by simp [MOp.opds])
    simp only [mval] at h
    split at h
    · rename_i b hu
      simp only [Option.map_eq_some_iff, Prod.mk.injEq] at h
      obtain ⟨⟨i, j⟩, hb, rfl, rfl⟩ := h
      have h2 := bnds_local (n := b.size) (lo := lo) (hi := hi) (fun w hw => hE w (by simp [MOp.opds, hw])) (fun w hw => hE w (by simp [MOp.opds, hw]))
      exact .none (by simp [mval, h1, hu, h2, hb]) (by simp [AV.men])
    · cases h
  | slc own sz y lo hi =>
    have h1 := hE y (by simp [MOp.opds])
    simp only [mval] at h
    split at h
    · rename_i u hu
      have hloc : ∀ k, u.men k → find H2 k = find H k := fun k hk => hH k (hn y (by simp [MOp.opds]) u hu k hk)
      split at h
      · rename_i sz' l hl
        have h3 := rdRow_local hloc
        split at h
        · rename_i hs
          split at h
          · rename_i i j hb
            have h2 := bnds_local (n := l.length) (lo := lo) (hi := hi) (fun w hw => hE w (by simp [MOp.opds, hw])) (fun w hw => hE w (by simp [MOp.opds, hw]))
            split at h
            · split at h
              · split at h
                · simp at h
                · cases h
              · cases h
            · rename_i ho
              simp only [Option.map_eq_some_iff, Prod.mk.injEq] at h
              obtain ⟨⟨p, H1⟩, ht, rfl, rfl⟩ := h
              obtain ⟨rfl, h4⟩ := tov_local hloc ht
              exact .none (by simp [mval, h1, hu, h3, hl, hs, h2, hb, ho, h4]) (by simp [AV.men])
          · cases h
        · cases h
      · cases h
    · cases h
  | sl0 sz y =>
    have h1 := hE y (by simp [MOp.opds])
    simp only [mval] at h
    split at h
    · rename_i u hu
      split at h
      · rename_i r hl
        simp only [Option.some.injEq, Prod.mk.injEq] at h
        obtain ⟨rfl, rfl⟩ := h
        have h3 := rdRow_local (H2 := H2) fun k hk => hH k (hn y (by simp [MOp.opds]) u hu k hk)
        exact .one (by simp [mval, h1, hu, h3, hl]) (by simp [AV.men])
      · cases h
    · cases h
  | ia sz y z =>
    have h1 := hE y (by simp [MOp.opds])
    have h2 := asI_bind (hE z (by simp [MOp.opds]))
    simp only [mval] at h
    split at h
    · rename_i sz' l i hu hv
      split at h
      · rename_i h0
        simp only [Option.map_eq_some_iff, Prod.mk.injEq] at h
        obtain ⟨c, hc, rfl, rfl⟩ := h
        exact .none (by simp [mval, h1, h2, hu, hv, h0, hc]) (by simp [AV.men])
      · cases h
    · rename_i q i hu hv
      split at h
      · rename_i e he
        have h3 := hH q (hn y (by simp [MOp.opds]) _ hu q (by simp [AV.men]))
        split at h
        · rename_i hz
          split at h
          · rename_i h0
            simp only [Option.some.injEq, Prod.mk.injEq] at h
            obtain ⟨rfl, rfl⟩ := h
            refine .none (by simp [mval, h1, h2, hu, hv, h3, he, hz, h0]) fun k hk => hn y (by simp [MOp.opds]) _ hu k (by simpa [AV.men] using hk)
          · cases h
        rename_i hz
        split at h
        · rename_i h0
          simp only [Option.map_eq_some_iff, Prod.mk.injEq] at h
          obtain ⟨c, hc, rfl, rfl⟩ := h
          refine .none (by simp only [mval, h1, h2, hu, hv, h3, he, if_neg hz, if_pos h0, hc, Option.map_some]) fun k hk => ?_
          split at hk
          · simp [AV.men] at hk
          · exact hn y (by simp [MOp.opds]) _ hu k (by simpa [AV.men] using hk)
        · cases h
      · cases h
    · cases h
  | iaA n' sz y z =>
    have h1 := hE y (by simp [MOp.opds])
    have h2 := asI_bind (hE z (by simp [MOp.opds]))
    simp only [mval] at h
    split at h
    · rename_i q i off j hu hv
      have h3 := hH q (hn y (by simp [MOp.opds]) _ hu q (by simp [AV.men]))
      split at h
      · rename_i h0
        simp only [Option.some.injEq, Prod.mk.injEq] at h
        obtain ⟨rfl, rfl⟩ := h
        refine .none (by simp [mval, h1, h2, hu, hv, h3, h0]) fun k hk => hn y (by simp [MOp.opds]) _ hu k (by simpa [AV.men] using hk)
      · cases h
    · rename_i cs j hu hv
      split at h
      · rename_i h0
        simp only [Option.some.injEq, Prod.mk.injEq] at h
        obtain ⟨rfl, rfl⟩ := h
        exact .none (by simp [mval, h1, h2, hu, hv, h0]) (by simp [AV.men])
      · cases h
    · cases h
  | fa off y =>
    have h1 := hE y (by simp [MOp.opds])
    simp only [mval] at h
    split at h
    · rename_i q i off hu
      have h3 := hH q (hn y (by simp [MOp.opds]) _ hu q (by simp [AV.men]))
      split at h
      · rename_i h0
        simp only [Option.some.injEq, Prod.mk.injEq] at h
        obtain ⟨rfl, rfl⟩ := h
        refine .none (by simp [mval, h1, hu, h3, h0]) fun k hk => hn y (by simp [MOp.opds]) _ hu k (by simpa [AV.men] using hk)
      · cases h
    · rename_i cs hu
      simp only [Option.some.injEq, Prod.mk.injEq] at h
      obtain ⟨rfl, rfl⟩ := h
      exact .none (by simp [mval, h1, hu]) (by simp [AV.men])
    · cases h
  | fld agg off sz y =>
    have h1 := hE y (by simp [MOp.opds])
    simp only [mval] at h
    split at h
    · rename_i cs hu
      simp only [Option.map_eq_some_iff, Prod.mk.injEq] at h
      obtain ⟨c, hc, rfl, rfl⟩ := h
      exact .none (by simp [mval, h1, hu, hc]) (by simp [AV.men])
    · cases h
  | aix agg n' sz y z =>
    have h1 := hE y (by simp [MOp.opds])
    have h2 := asI_bind (hE z (by simp [MOp.opds]))
    simp only [mval] at h
    split at h
    · rename_i cs j hu hv
      split at h
      · rename_i h0
        simp only [Option.map_eq_some_iff, Prod.mk.injEq] at h
        obtain ⟨c, hc, rfl, rfl⟩ := h
        exact .none (by simp [mval, h1, h2, hu, hv, h0, hc]) (by simp [AV.men])
      · cases h
    · cases h
  | ld agg sz y =>
    have h1 := hE y (by simp [MOp.opds])
    simp only [mval] at h
    split at h
    · rename_i cs hu
      simp only [Option.map_eq_some_iff, Prod.mk.injEq] at h
      obtain ⟨c, hc, rfl, rfl⟩ := h
      exact .none (by simp [mval, h1, hu, hc]) (by simp [AV.men])
    · rename_i q i off hu
      have h3 := hH q (hn y (by simp [MOp.opds]) _ hu q (by simp [AV.men]))
      split at h
      · rename_i e he
        split at h
        · rename_i hz
          split at h
          · rename_i hf
            simp only [Option.map_eq_some_iff, Prod.mk.injEq] at h
            obtain ⟨u, hl, rfl, rfl⟩ := h
            have k2 : ∀ k, u.men k → k + 1024 ≤ id := by
              intro k hk
              unfold ldX at hl
              split at hl
              · split at hl
                · split at hl
                  · split at hl
                    · split at hl
                      · cases hl
                      · rename_i hle
                        cases hl
                        simp only [AV.men] at hk
                        simp at hle
                        omega
                    · split at hl
                      · cases hl
                      · cases hl; simp [AV.men] at hk
                  · split at hl
                    · cases hl
                    · cases hl; simp [AV.men] at hk
                  · cases hl
                · cases hl
              · cases hl
            exact .old (by simp only [mval, h1, hu, h3, he, if_pos hz, if_pos hf, hl, Option.map_some]) k2
          · cases h
        rename_i hz
        split at h
        · rename_i w hw
          split at h
          · rename_i h0
            simp only [Option.map_eq_some_iff, Prod.mk.injEq] at h
            obtain ⟨c, hc, rfl, rfl⟩ := h
            exact .none (by simp only [mval, h1, hu, h3, he, if_neg hz, hw, if_pos h0, hc, Option.map_some]) (by simp [AV.men])
          · cases h
        · cases h
      · cases h
    · cases h
  | stt agg sz y z =>
    simp only [mval] at h
    split at h
    · split at h
      · unfold sttN at h
        split at h
        · split at h
          · split at h
            · rename_i hh; simp at hh
            · cases h
          · cases h
        · cases h
      · cases h
    split at h
    · split at h
      · split at h
        · split at h
          · rename_i hh; simp at hh
          · cases h
        · cases h
      · cases h
    · cases h
  | box ld y =>
    have h1 := hE y (by simp [MOp.opds])
    simp only [mval] at h
    split at h
    · rename_i p H1 hp
      obtain ⟨u, hu, hp⟩ := Option.bind_eq_some_iff.1 hp
      obtain ⟨rfl, h4⟩ := tov_local (H2 := H2) (fun k hk => hH k (hn y (by simp [MOp.opds]) u hu k hk)) hp
      split at h
      · cases h
      rename_i hz
      simp only [Option.some.injEq, Prod.mk.injEq] at h
      obtain ⟨rfl, rfl⟩ := h
      exact .one (by simp [mval, h1, hu, h4, hz]) (by simp [AV.men])
    · cases h
  | alloc agg z =>
    simp only [mval, Option.some.injEq, Prod.mk.injEq] at h
    obtain ⟨rfl, rfl⟩ := h
    exact .one (by simp [mval]) (by simp [AV.men])
  | build ld z ps =>
    simp only [mval, Option.map_eq_some_iff, Prod.mk.injEq] at h
    obtain ⟨⟨cs, H1⟩, hb, rfl, rfl⟩ := h
    obtain ⟨rfl, h2⟩ := buildP_local (E' := E') (H2 := H2) ps z cs H1 hE hH hb
    exact .none (by simp [mval, h2]) (by simp [AV.men])
  | buildS ld sz n' agg z ps =>
    simp only [mval, Option.map_eq_some_iff, Prod.mk.injEq] at h
    obtain ⟨⟨cs, H1⟩, hb, rfl, rfl⟩ := h
    obtain ⟨rfl, h2⟩ := buildL_local (E' := E') (H2 := H2) ps _ cs H1 hE hH hb
    exact .one (by simp [mval, h2]) (by simp [AV.men])
  | app sz bytes y z =>
    simp only [mval] at h
    split at h
    · split at h
      · split at h
        · rename_i hh; simp at hh
        · cases h
      · cases h
    · cases h
  | cln sz bytes y =>
    have h1 := hE y (by simp [MOp.opds])
    simp only [mval] at h
    split at h
    · rename_i u hu
      have h3 := rdRow_local (H2 := H2) fun k hk => hH k (hn y (by simp [MOp.opds]) u hu k hk)
      split at h
      · rename_i sz' ys hl
        split at h
        · rename_i hc
          simp only [Option.some.injEq, Prod.mk.injEq] at h
          obtain ⟨rfl, rfl⟩ := h
          exact .one (by simp only [mval, h1, hu, h3, hl, if_pos hc]) (by simp [AV.men])
        · cases h
      · cases h
    · cases h
  | eqS ng ks y z =>
    have h1 := hE y (by simp [MOp.opds])
    have h2 := hE z (by simp [MOp.opds])
    simp only [mval] at h
    split at h
    · rename_i cs ds hu hv
      simp only [Option.map_eq_some_iff, Prod.mk.injEq] at h
      obtain ⟨rb, hrb, rfl, rfl⟩ := h
      exact .none (by simp [mval, h1, h2, hu, hv, hrb]) (by simp [AV.men])
    · cases h
  | mm3 mx y z w =>
    have h1 := hE y (by simp [MOp.opds])
    have h2 := hE z (by simp [MOp.opds])
    have h3 := hE w (by simp [MOp.opds])
    simp only [mval] at h
    split at h
    · rename_i k i k' j k'' m hu hv hw
      simp only [Option.some.injEq, Prod.mk.injEq] at h
      obtain ⟨rfl, rfl⟩ := h
      exact .none (by simp [mval, h1, h2, h3, hu, hv, hw]) (by simp [AV.men])
    · cases h
  | mkS sz bytes agg z y w =>
    have h1 := asI_bind (hE y (by simp [MOp.opds]))
    have h2 := asI_bind (hE w (by simp [MOp.opds]))
    simp only [mval] at h
    split at h
    · rename_i n' c hu hv
      split at h
      · rename_i h0
        simp only [Option.some.injEq, Prod.mk.injEq] at h
        obtain ⟨rfl, rfl⟩ := h
        exact .one (by simp [mval, h1, h2, hu, hv, h0]) (by simp [AV.men])
      · cases h
    · cases h
  | ext y i =>
    have h1 := hE y (by simp [MOp.opds])
    simp only [mval] at h
    split at h
    · rename_i l hu
      simp only [Option.map_eq_some_iff, Prod.mk.injEq] at h
      obtain ⟨c, hc, rfl, rfl⟩ := h
      exact .none (by simp [mval, h1, hu, hc]) fun k hk => hn y (by simp [MOp.opds]) _ hu k (by simp only [AV.men]; exact mens_get hc hk)
    · cases h
  | conv k y =>
    have h1 := hE y (by simp [MOp.opds])
    simp only [mval] at h
    split at h
    · rename_i k' i hu
      simp only [Option.some.injEq, Prod.mk.injEq] at h
      obtain ⟨rfl, rfl⟩ := h
      exact .none (by simp [mval, h1, hu]) (by simp [AV.men])
    · cases h
  | cvS y =>
    have h1 := hE y (by simp [MOp.opds])
    simp only [mval] at h
    split at h
    · rename_i b hu
      simp only [Option.some.injEq, Prod.mk.injEq] at h
      obtain ⟨rfl, rfl⟩ := h
      exact .none (by simp [mval, h1, hu]) (by simp [AV.men])
    · cases h
  | chk y =>
    have h1 := hE y (by simp [MOp.opds])
    simp only [mval] at h
    split at h
    · rename_i q i off hu
      have h3 := hH q (hn y (by simp [MOp.opds]) _ hu q (by simp [AV.men]))
      split at h
      · rename_i h0
        simp only [Option.some.injEq, Prod.mk.injEq] at h
        obtain ⟨rfl, rfl⟩ := h
        exact .none (by simp [mval, h1, hu, h3, h0]) (hn y (by simp [MOp.opds]) _ hu)
      · cases h
    · rename_i cs hu
      simp only [Option.some.injEq, Prod.mk.injEq] at h
      obtain ⟨rfl, rfl⟩ := h
      exact .none (by simp [mval, h1, hu]) (hn y (by simp [MOp.opds]) _ hu)
    · rename_i f cs hu
      simp only [Option.some.injEq, Prod.mk.injEq] at h
      obtain ⟨rfl, rfl⟩ := h
      exact .none (by simp [mval, h1, hu]) (hn y (by simp [MOp.opds]) _ hu)
    · cases h
  | mkf f caps =>
    simp only [mval, Option.map_eq_some_iff, Prod.mk.injEq] at h
    obtain ⟨l, hl, rfl, rfl⟩ := h
    obtain ⟨g1, g2⟩ := evs_local hE hl
    exact .none (by have g1 : evs E' caps = some l := g1; simp [mval, g1]) fun k hk => g2 k (by simpa [AV.men] using hk)

end
end Go.AM
