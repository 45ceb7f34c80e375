/- Quiet steps hang on what they read alone. -/
import Derived.Test.YtphjjlhpepmofaaAM17
set_option linter.all false
namespace Go.AM
open Go

def Opd.tmps : Opd → List Nat
  | .t n => [n]
  | _ => []

def MO.g : MO → Option (Nat × Bool)
  | .op g _ _ => g
  | .store g _ _ _ _ => g
  | .call g _ _ _ => g

def MO.opds : MO → List Opd
  | .op _ _ m => m.opds
  | .store _ _ _ x v => [x, v]
  | .call _ _ f as => as ++ [f]

def gTmps : Option (Nat × Bool) → List Nat
  | none => []
  | some (t, _) => [t]

def MO.reads (mo : MO) : List Nat := gTmps mo.g ++ mo.opds.flatMap Opd.tmps

def MO.loud : MO → Bool
  | .store .. => true
  | .op _ _ m => match m with
    | .app .. => true
    | .slc own .. => own
    | .box ld _ => ld
    | .build ld .. => ld
    | .buildS ld .. => ld
    | .stt .. => true
    | _ => false
  | .call .. => false

section
variable {P : Program} {s s' : St} {mo : MO} {E' : Env} {H2 : Heap}

theorem ev_local {E : Env} {xs : List Opd} (h : ∀ t ∈ xs.flatMap Opd.tmps, find E' t = find E t) : ∀ y ∈ xs, ev E' y = ev E y := by
  intro y hy
  cases y with
  | t n => exact h n (List.mem_flatMap.2 ⟨_, hy, by simp [Opd.tmps]⟩)
  | c p => rfl
  | f n => rfl

theorem guard_local {E : Env} {g : Option (Nat × Bool)} (h : ∀ t ∈ gTmps g, find E' t = find E t) : guardOf E' g = guardOf E g := by
  cases g with
  | none => rfl
  | some p => obtain ⟨t, w⟩ := p; simp only [guardOf, h t (by simp [gTmps])]

mutual
theorem passA_local {b : Bool} {H : Heap} {ids : List Nat} : ∀ (x y : AV), (∀ k, x.men k → find H2 k = find H k) → passA b H ids x = some y → passA b H2 ids x = some y
  | .h id, y, hH, h => by simp only [passA] at *; rw [hH id (by simp [AV.men])]; exact h
  | .ptr id i o, y, hH, h => by simp only [passA] at *; exact h
  | .fn f l, y, hH, h => by
    simp only [passA] at *
    split at h
    · rename_i l' hl
      cases h
      rw [passAs_local l l' (fun k hk => hH k (by simpa [AV.men] using hk)) hl]
    · cases h
  | .u, y, _, h => by simpa [passA] using h
  | .v _, y, _, h => by simpa [passA] using h
  | .rp _, y, _, h => by simpa [passA] using h
  | .tup _, y, _, h => by simpa [passA] using h
theorem passAs_local {b : Bool} {H : Heap} {ids : List Nat} : ∀ (l l' : List AV), (∀ k, AV.mens l k → find H2 k = find H k) → passAs b H ids l = some l' → passAs b H2 ids l = some l'
  | [], l', _, h => by simpa [passAs] using h
  | x :: l, l', hH, h => by
    simp only [passAs] at *
    split at h
    · rename_i y ys h1 h2
      cases h
      rw [passA_local x y (fun k hk => hH k (by simp [AV.mens, hk])) h1, passAs_local l ys (fun k hk => hH k (by simp [AV.mens, hk])) h2]
    · cases h
end

theorem passH_local {H : Heap} : ∀ (ids : List Nat) (k0 : Nat), (∀ id ∈ ids, find H2 id = find H id) → passH H2 k0 ids = passH H k0 ids
  | [], k0, _ => rfl
  | id :: l, k0, h => by
    simp only [passH]
    rw [h id (by simp), passH_local l (k0 + 1) fun i hi => h i (by simp [hi])]

theorem mens_append : ∀ (l l' : List AV) (k : Nat), AV.mens (l ++ l') k → AV.mens l k ∨ AV.mens l' k
  | [], l', k, h => .inr (by simpa using h)
  | x :: l, l', k, h => by
    simp only [List.cons_append, AV.mens] at h
    rcases h with h | h
    · exact .inl (by simp [AV.mens, h])
    · rcases mens_append l l' k h with h | h
      · exact .inl (by simp [AV.mens, h])
      · exact .inr h

theorem callQ_local {d : Nat} {f : Opd} {args : List Opd} {x : AV} {N : Heap} (hE : ∀ y ∈ args ++ [f], ev E' y = ev s.env y) (hH : ∀ k, Named' s.env (args ++ [f]) k → find H2 k = find s.heap k) (h : CallQ P s d f args x N) :
    CallQ P ⟨E', H2, s.nx⟩ d f args x N ∧ (∀ k e, find N k = some e → ∃ j, j < 8 ∧ k = s.nx + d + 1024 * j) ∧ ∀ k, x.men k → (∃ j, j < 8 ∧ k = s.nx + d + 1024 * j) ∨ Named' s.env (args ++ [f]) k := by
  have hmens : ∀ {u : AV} {fid : FuncId} {caps as : List AV}, ev s.env f = some u → fnOf u = some (fid, caps) → evs s.env args = some as → (∀ k, AV.mens (as ++ caps) k → find H2 k = find s.heap k) := by
    intro u fid caps as h1 h2 h3 k hk
    refine hH k ?_
    rcases mens_append as caps k hk with hk | hk
    · obtain ⟨y, hy, r⟩ := (evs_local (E' := s.env) (fun _ _ => rfl) h3).2 k hk
      exact ⟨y, by simp [hy], r⟩
    · exact ⟨f, by simp, u, h1, fnOf_men h2 k hk⟩
  have hf := hE f (by simp)
  have ha : ∀ {as : List AV}, evs s.env args = some as → evs E' args = some as := fun h => (evs_local (fun y hy => hE y (by simp [hy])) h).1
  cases h with
  | lent h1 h2 h3 h4 h5 h6 =>
    exact ⟨CallQ.lent (s := ⟨E', H2, s.nx⟩) (hf.trans h1) h2 (ha h3) (passAs_local _ _ (hmens h1 h2 h3) h4) h5 h6, by simp [find], fun k hk => (flat_men _ k h6 hk).elim⟩
  | plain h1 h2 h3 h4 h5 h6 h7 =>
    rename_i u fid caps as ys res Hout
    refine ⟨CallQ.plain (s := ⟨E', H2, s.nx⟩) (hf.trans h1) h2 (ha h3) (passAs_local _ _ (hmens h1 h2 h3) h4) h5 h6 h7, ?_, ?_⟩
    · intro k e he
      have := find_mem he
      simp only [List.mem_map, Prod.mk.injEq] at this
      obtain ⟨p, hp, rfl, _⟩ := this
      exact ⟨p.1, (h6 p hp).1, by simp [bk]⟩
    · intro k hk
      obtain ⟨j, g1, g2⟩ := men_back res k hk
      exact .inl ⟨j, h7 j g1, by rw [← g2]; simp [bk]⟩
  | same h1 h2 h3 h4 h5 h6 h7 h8 h9 =>
    rename_i u fid caps as ys ids res
    have hids : ∀ id ∈ ids, find H2 id = find s.heap id := fun id hi => hH id (h9 id hi)
    have hp := passH_local (H2 := H2) (H := s.heap) ids 0 hids
    refine ⟨CallQ.same (s := ⟨E', H2, s.nx⟩) (hf.trans h1) h2 (ha h3) (passAs_local _ _ (hmens h1 h2 h3) h4) h5 (fun id hi => by simp only; rw [hids id hi]; exact h6 id hi) (by simp only; rw [hp]; exact h7) h8 ?_, by simp [find], ?_⟩
    · intro id hi
      obtain ⟨y, hy, u, hu, hm⟩ := h9 id hi
      exact ⟨y, hy, u, (hE y hy).trans hu, hm⟩
    · intro k hk
      obtain ⟨j, g1, g2⟩ := men_back res k hk
      have hj := h8 j g1
      have e : ids[j]? = some ids[j] := List.getElem?_eq_getElem hj
      unfold bk at g2
      rw [e] at g2
      exact .inr (h9 k (by rw [← g2]; exact List.getElem_mem hj))

/-- A quiet step, wherever what it reads is the same. -/
theorem step_local (hl : mo.loud = false) (h : AStep P true s mo s') :
    ∃ d x N, mo.dst = some d ∧ s' = ⟨(d, x) :: s.env, N ++ s.heap, s.nx⟩ ∧ (∀ k e, find N k = some e → news mo s.nx k) ∧ (∀ k, x.men k → news mo s.nx k ∨ Named' s.env mo.opds k ∨ ∃ d, mo.dst = some d ∧ k + 1024 ≤ s.nx + d) ∧
      ∀ E' H2, (∀ t ∈ mo.reads, find E' t = find s.env t) → (∀ k, Named' s.env mo.opds k → find H2 k = find s.heap k) → AStep P true ⟨E', H2, s.nx⟩ mo ⟨(d, x) :: E', N ++ H2, s.nx⟩ := by
  have hg : ∀ E', (∀ t ∈ mo.reads, find E' t = find s.env t) → guardOf E' mo.g = guardOf s.env mo.g := fun E' h => guard_local fun t ht => h t (by simp [MO.reads, ht])
  have he : ∀ E', (∀ t ∈ mo.reads, find E' t = find s.env t) → ∀ y ∈ mo.opds, ev E' y = ev s.env y := fun E' h => ev_local fun t ht => h t (by simp only [MO.reads, List.mem_append]; exact .inr ht)
  cases h with
  | skip hgv =>
    rename_i g d m
    exact ⟨d, .tup [], [], rfl, rfl, by simp [find], by simp [AV.men, AV.mens], fun E' H2 h1 h2 => AStep.skip (s := ⟨E', H2, s.nx⟩) ((hg E' h1).trans hgv)⟩
  | skipC hgv =>
    rename_i g d f as
    exact ⟨d, .tup [], [], rfl, rfl, by simp [find], by simp [AV.men, AV.mens], fun E' H2 h1 h2 => AStep.skipC (s := ⟨E', H2, s.nx⟩) ((hg E' h1).trans hgv)⟩
  | skipS hgv => simp [MO.loud] at hl
  | store hgv hm => simp [MO.loud] at hl
  | op hgv hm =>
    rename_i g d m x H'
    obtain ⟨N, rfl, _, q2, q3⟩ := mval_local (E' := s.env) (H2 := s.heap) (fun _ _ => rfl) (fun _ _ => rfl) hm
    refine ⟨d, x, N, rfl, rfl, fun k e hk => ⟨d, rfl, 0, by omega, by rw [q2 k e hk]; omega⟩, fun k hk => ?_, fun E' H2 h1 h2 => ?_⟩
    · rcases q3 k hk with rfl | h | h
      · exact .inl ⟨d, rfl, 0, by omega, by omega⟩
      · exact .inr (.inl h)
      · exact .inr (.inr ⟨d, rfl, h⟩)
    · obtain ⟨N', hN', r1, _, _⟩ := mval_local (E' := E') (H2 := H2) (he E' h1) h2 hm
      have : N' = N := List.append_cancel_right hN'.symm
      subst this
      exact AStep.op (s := ⟨E', H2, s.nx⟩) ((hg E' h1).trans hgv) r1
  | call _ _ hq => cases hq
  | callQ hgv hc =>
    rename_i g d f as x N
    obtain ⟨_, q2, q3⟩ := callQ_local (E' := s.env) (H2 := s.heap) (fun _ _ => rfl) (fun _ _ => rfl) hc
    refine ⟨d, x, N, rfl, rfl, fun k e hk => ?_, fun k hk => ?_, fun E' H2 h1 h2 => ?_⟩
    · obtain ⟨j, g1, g2⟩ := q2 k e hk; exact ⟨d, rfl, j, g1, g2⟩
    · rcases q3 k hk with ⟨j, g1, g2⟩ | h
      · exact .inl ⟨d, rfl, j, g1, g2⟩
      · exact .inr (.inl h)
    · exact AStep.callQ (s := ⟨E', H2, s.nx⟩) ((hg E' h1).trans hgv) (callQ_local (he E' h1) h2 hc).1

theorem step_nx {q : Bool} (h : AStep P q s mo s') : s'.nx = s.nx := by
  cases h with
  | call _ hc _ => cases hc <;> rfl
  | _ => rfl

end
end Go.AM
