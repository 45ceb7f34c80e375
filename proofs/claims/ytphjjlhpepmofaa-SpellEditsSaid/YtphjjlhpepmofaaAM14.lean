/- Behind a call. -/
import Derived.Test.YtphjjlhpepmofaaAM13
set_option linter.all false
namespace Go.AM
open Go

theorem find_append {α : Type} (l l' : List (Nat × α)) (t : Nat) : find (l ++ l') t = match find l t with | some x => some x | none => find l' t := by
  induction l with
  | nil => simp [find]
  | cons p l ih =>
    obtain ⟨k, v⟩ := p
    simp only [List.cons_append, find_cons, ih]
    by_cases h : t = k <;> simp [h]

theorem find_strikes (H : Heap) (ids : List Nat) (t : Nat) : find (strikes H ids) t = if t ∈ ids then none else find H t := by
  induction ids generalizing H with
  | nil => simp [strikes]
  | cons j l ih =>
    simp only [strikes, ih, find_strike, List.mem_cons]
    by_cases h : t ∈ l
    · simp [h]
    · by_cases h2 : t = j <;> simp [h, h2]

theorem find_mem {α : Type} {l : List (Nat × α)} {t : Nat} {x : α} (h : find l t = some x) : (t, x) ∈ l := by
  induction l with
  | nil => simp [find] at h
  | cons p l ih =>
    obtain ⟨k, v⟩ := p
    rw [find_cons] at h
    by_cases hk : t = k
    · rw [if_pos hk] at h; cases h; subst hk; simp
    · rw [if_neg hk] at h; exact List.mem_cons_of_mem _ (ih h)

theorem find_map {g : Nat → Nat} {l : Heap} {m : Nat} (hl : ∀ p ∈ l, p.1 < m) (hg : ∀ i j, i < m → j < m → g i = g j → i = j) :
    (∀ k, k < m → find (l.map fun p => (g p.1, p.2)) (g k) = find l k) ∧ (∀ id e, find (l.map fun p => (g p.1, p.2)) id = some e → ∃ k, k < m ∧ g k = id ∧ find l k = some e) := by
  constructor
  · intro k hk
    induction l with
    | nil => simp [find]
    | cons p l ih =>
      obtain ⟨j, v⟩ := p
      have hj := hl (j, v) (by simp)
      simp only [List.map_cons, find_cons, ih fun q hq => hl q (List.mem_cons_of_mem _ hq)]
      by_cases h : k = j
      · subst h; simp
      · rw [if_neg h, if_neg fun e => h (hg k j hk hj e)]
  · intro id e h
    induction l with
    | nil => simp [find] at h
    | cons p l ih =>
      obtain ⟨j, v⟩ := p
      have hj := hl (j, v) (by simp)
      simp only [List.map_cons, find_cons] at h
      by_cases hi : id = g j
      · rw [if_pos hi] at h; cases h
        exact ⟨j, hj, hi.symm, by simp [find]⟩
      · rw [if_neg hi] at h
        obtain ⟨k, h1, h2, h3⟩ := ih (fun q hq => hl q (List.mem_cons_of_mem _ hq)) h
        refine ⟨k, h1, h2, ?_⟩
        rw [find_cons, if_neg (by rintro rfl; exact hi h2.symm)]; exact h3

section
variable {P : Program} {C : Cx} {n : Nat} {F : Nat → Prop} {s : St} {a : Act} {W W' : World} {hdr hdr' : Nat → Value} {ow ow' : Nat → Option Nat} {ids : List Nat} {base : Nat} {Hout Hn : Heap}

theorem bk_inj (hn : ids.Nodup) (hF : ∀ id ∈ ids, F id) (hf : ∀ j, j < 8 → ¬ F (base + 1024 * j)) : ∀ i j, i < ids.length + 8 → j < ids.length + 8 → bk ids base i = bk ids base j → i = j := by
  intro i j hi hj h
  unfold bk at h
  cases e1 : ids[i]? with
  | some x =>
    cases e2 : ids[j]? with
    | some y =>
      rw [e1, e2] at h
      simp only at h
      subst h
      obtain ⟨g1, g2⟩ := List.getElem?_eq_some_iff.1 e1
      obtain ⟨g3, g4⟩ := List.getElem?_eq_some_iff.1 e2
      exact (List.getElem_inj hn).1 (g2.trans g4.symm)
    | none =>
      rw [e1, e2] at h
      simp only at h
      have := hF x (List.mem_of_getElem? e1)
      rw [h] at this
      have hjl := List.getElem?_eq_none_iff.1 e2
      exact (hf (j - ids.length) (by omega) this).elim
  | none =>
    have hil := List.getElem?_eq_none_iff.1 e1
    cases e2 : ids[j]? with
    | some y =>
      rw [e1, e2] at h
      simp only at h
      have := hF y (List.mem_of_getElem? e2)
      rw [← h] at this
      exact (hf (i - ids.length) (by omega) this).elim
    | none =>
      rw [e1, e2] at h
      simp only at h
      have hjl := List.getElem?_eq_none_iff.1 e2
      omega

/-- Where the number of a row comes from. -/
def src (ids : List Nat) (base : Nat) (Hout : Heap) (id : Nat) : Prop := ∃ k, k < ids.length + 8 ∧ bk ids base k = id ∧ (find Hout k).isSome = true

open Classical in
noncomputable def joinF {α : Type} (ids : List Nat) (base : Nat) (Hout : Heap) (f' f : Nat → α) (id : Nat) : α :=
  if h : src ids base Hout id then f' (Classical.choose h) else f id

theorem joinF_src {α : Type} {f' f : Nat → α} (hinj : ∀ i j, i < ids.length + 8 → j < ids.length + 8 → bk ids base i = bk ids base j → i = j) {k : Nat} {e : Ent} (hk : k < ids.length + 8) (he : find Hout k = some e) :
    joinF ids base Hout f' f (bk ids base k) = f' k := by
  have h : src ids base Hout (bk ids base k) := ⟨k, hk, rfl, by rw [he]; rfl⟩
  unfold joinF
  rw [dif_pos h]
  obtain ⟨h1, h2, h3⟩ := Classical.choose_spec h
  rw [hinj _ k h1 hk h2]

theorem joinF_not {α : Type} {f' f : Nat → α} {id : Nat} (h : ¬ src ids base Hout id) : joinF ids base Hout f' f id = f id := by
  unfold joinF; rw [dif_neg h]

theorem merge (r : RelAt C n F s a W hdr ow) (hn : ids.Nodup) (hfound : ∀ id ∈ ids, (find s.heap id).isSome = true) (hfr : ∀ j, j < 8 → ¬ F (base + 1024 * j))
    (me : Mem (Cx.of W (OK C W s.heap ow) (Own (passH s.heap 0 ids) (owI ow ids))) W' Hout hdr' ow') (hkeys : ∀ p ∈ Hout, p.1 < ids.length + 8) (hz : ∀ k e, find Hout k = some e → e.sz ≠ 0)
    (hhdr : ∀ k e e', find (passH s.heap 0 ids) k = some e → find Hout k = some e' → hdr' k = hdrI hdr ids k ∧ e'.sz = e.sz)
    (hHn : ∀ k, find Hn k = find (outH s.heap ids base Hout) k) :
    RelAt C n (fun i => F i ∨ ∃ j, j < 8 ∧ i = base + 1024 * j) ⟨s.env, Hn, s.nx⟩ a W' (joinF ids base Hout hdr' hdr) (joinF ids base Hout ow' ow) ∧
      (∀ b, OK (Cx.of W (OK C W s.heap ow) (Own (passH s.heap 0 ids) (owI ow ids))) W' Hout ow' b → OK C W' Hn (joinF ids base Hout ow' ow) b) ∧
      (∀ k e, k < ids.length + 8 → find Hn (bk ids base k) = some e → find Hout k = some e) := by
  have hF : ∀ id ∈ ids, F id := fun id hi => by
    obtain ⟨e, he⟩ := Option.isSome_iff_exists.1 (hfound id hi)
    exact r.idsH id e he
  have hinj := bk_inj (base := base) hn hF hfr
  obtain ⟨hm1, hm2⟩ := find_map hkeys hinj
  -- the rows behind the call
  have hA : ∀ id e, find Hn id = some e → (∃ k, k < ids.length + 8 ∧ bk ids base k = id ∧ find Hout k = some e) ∨ (¬ src ids base Hout id ∧ id ∉ ids ∧ find s.heap id = some e) := by
    intro id e he
    rw [hHn, outH, find_append] at he
    cases hx : find (Hout.map fun p => (bk ids base p.1, p.2)) id with
    | some e' =>
      rw [hx] at he; cases he
      exact .inl (hm2 id _ hx)
    | none =>
      rw [hx] at he
      simp only [find_strikes] at he
      split at he
      · cases he
      · rename_i hni
        refine .inr ⟨?_, hni, he⟩
        rintro ⟨k, h1, rfl, h3⟩
        rw [hm1 k h1] at hx
        rw [hx] at h3; cases h3
  have hB : ∀ k e, k < ids.length + 8 → find Hn (bk ids base k) = some e → find Hout k = some e := by
    intro k e hk he
    rcases hA _ e he with ⟨k', h1, h2, h3⟩ | ⟨h1, h2, h3⟩
    · have := hinj k' k h1 hk h2; subst this; exact h3
    · exfalso
      unfold bk at h2 h3
      cases e1 : ids[k]? with
      | some x => rw [e1] at h2; exact h2 (List.mem_of_getElem? e1)
      | none =>
        rw [e1] at h3
        have hjl := List.getElem?_eq_none_iff.1 e1
        exact hfr (k - ids.length) (by omega) (r.idsH _ e h3)
  have hownI : ∀ b, Own (passH s.heap 0 ids) (owI ow ids) b → ∃ id e, id ∈ ids ∧ find s.heap id = some e ∧ ow id = some b := by
    rintro b ⟨k, e, hk, ho⟩
    obtain ⟨id, h1, h2⟩ := find_in hk
    simp only [owI, h1] at ho
    exact ⟨id, e, List.mem_of_getElem? h1, h2, ho⟩
  have hrest : ∀ id e b, id ∉ ids → find s.heap id = some e → ow id = some b → b < W.heap.size ∧ ¬ Own (passH s.heap 0 ids) (owI ow ids) b := by
    intro id e b hni he hb
    refine ⟨(r.mem.lt id e b he hb).1, fun h => ?_⟩
    obtain ⟨id', e', h1, h2, h3⟩ := hownI b h
    have := r.mem.inj id id' e e' b he h2 hb h3
    subst this; exact hni h1
  have hokA : ∀ b, OK (Cx.of W (OK C W s.heap ow) (Own (passH s.heap 0 ids) (owI ow ids))) W' Hout ow' b → OK C W' Hn (joinF ids base Hout ow' ow) b := by
    rintro b ⟨⟨hv, hlt⟩, hno⟩
    refine ⟨⟨?_, hlt⟩, ?_⟩
    · rcases hv with h | h | h
      · exact h.1.1
      · obtain ⟨id, e, _, h2, h3⟩ := hownI b h
        exact .inr (r.mem.lt id e b h2 h3).2
      · exact .inr (.inr (Nat.le_trans r.mem.size h))
    · rintro ⟨id, e, he, ho⟩
      rcases hA id e he with ⟨k, h1, rfl, h3⟩ | ⟨h1, h2, h3⟩
      · rw [joinF_src hinj h1 h3] at ho; exact hno ⟨k, e, h3, ho⟩
      · rw [joinF_not h1] at ho
        obtain ⟨g1, g2⟩ := hrest id e b h2 h3 ho
        rcases hv with h | h | h
        · exact h.2 ⟨id, e, h3, ho⟩
        · exact g2 h
        · have : W.heap.size ≤ b := h; omega
  have hokB : ∀ b, OK C W s.heap ow b → OK C W' Hn (joinF ids base Hout ow' ow) b ∧ W'.heap[b]? = W.heap[b]? := by
    intro b hb
    have hni : ¬ Own (passH s.heap 0 ids) (owI ow ids) b := fun h => by
      obtain ⟨id, e, _, h2, h3⟩ := hownI b h
      exact hb.2 ⟨id, e, h2, h3⟩
    refine ⟨hokA b ⟨⟨.inl hb, Nat.lt_of_lt_of_le hb.1.2 me.size⟩, ?_⟩, me.frame b hb.1.2 hni⟩
    rintro ⟨k, e, hk, ho⟩
    rcases (me.lt k e b hk ho).2 with h | h
    · exact hni h
    · exact Nat.lt_irrefl _ (Nat.lt_of_lt_of_le hb.1.2 h)
  have hold : ∀ id, F id → ∀ e', find Hn id = some e' → ∃ e, find s.heap id = some e ∧ joinF ids base Hout hdr' hdr id = hdr id ∧ e'.sz = e.sz := by
    intro id hFi e' he'
    rcases hA id e' he' with ⟨k, h1, rfl, h3⟩ | ⟨h1, h2, h3⟩
    · rw [joinF_src hinj h1 h3]
      cases e1 : ids[k]? with
      | some y =>
        have hy : bk ids base k = y := by unfold bk; rw [e1]
        rw [hy]
        obtain ⟨e0, he0⟩ := Option.isSome_iff_exists.1 (hfound y (List.mem_of_getElem? e1))
        have hin : find (passH s.heap 0 ids) k = some e0 := by rw [find_passH, if_pos (Nat.zero_le _), Nat.sub_zero, e1]; exact he0
        obtain ⟨q1, q2⟩ := hhdr k e0 e' hin h3
        exact ⟨e0, he0, by rw [q1]; simp [hdrI, e1], q2⟩
      | none =>
        exfalso
        have hjl := List.getElem?_eq_none_iff.1 e1
        have hy : bk ids base k = base + 1024 * (k - ids.length) := by unfold bk; rw [e1]
        rw [hy] at hFi
        exact hfr (k - ids.length) (by omega) hFi
    · exact ⟨e', h3, by rw [joinF_not h1], rfl⟩
  have hjoin : ∀ c, F c → joinF ids base Hout hdr' hdr c = hdr c := by
    intro c hFc
    by_cases hs : src ids base Hout c
    · obtain ⟨k, g1, g2, g3⟩ := hs
      obtain ⟨e', he'⟩ := Option.isSome_iff_exists.1 g3
      subst g2
      rw [joinF_src hinj g1 he']
      cases e1 : ids[k]? with
      | some y =>
        have hy : bk ids base k = y := by unfold bk; rw [e1]
        rw [hy]
        obtain ⟨e0, he0⟩ := Option.isSome_iff_exists.1 (hfound y (List.mem_of_getElem? e1))
        have hin : find (passH s.heap 0 ids) k = some e0 := by rw [find_passH, if_pos (Nat.zero_le _), Nat.sub_zero, e1]; exact he0
        obtain ⟨q1, q2⟩ := hhdr k e0 e' hin he'
        rw [q1]; simp [hdrI, e1]
      | none =>
        exfalso
        have hjl := List.getElem?_eq_none_iff.1 e1
        have hy : bk ids base k = base + 1024 * (k - ids.length) := by unfold bk; rw [e1]
        rw [hy] at hFc
        exact hfr (k - ids.length) (by omega) hFc
    · exact joinF_not hs
  refine ⟨⟨⟨?_, ?_, ?_, Nat.le_trans r.mem.size me.size, ?_, me.os.trans r.mem.os, me.tape.trans r.mem.tape, me.output.trans r.mem.output⟩, r.defers, r.tsz, ?_, fun t x hx i hi => .inl (r.idsE t x hx i hi), ?_, fun k hk => .inl (r.idsG k hk), ?_, ?_⟩, hokA, hB⟩
  · intro id e he
    rcases hA id e he with ⟨k, h1, rfl, h3⟩ | ⟨h1, h2, h3⟩
    · rw [joinF_src hinj h1 h3, joinF_src hinj h1 h3]
      exact (me.ent k e h3).mono (fun b hb => ⟨hokA b hb, rfl⟩) (fun _ _ => rfl) (fun c hc => by rw [Ent.ref_none (hz k e h3)] at hc; cases hc)
    · rw [joinF_not h1, joinF_not h1]
      refine (r.mem.ent id e h3).mono hokB (fun b hb => ?_) (fun c hc => hjoin c (r.idsR id e c h3 hc))
      obtain ⟨g1, g2⟩ := hrest id e b h2 h3 hb
      exact me.frame b g1 g2
  · intro id id' e e' b he he' hb hb'
    rcases hA id e he with ⟨k, h1, rfl, h3⟩ | ⟨h1, h2, h3⟩ <;> rcases hA id' e' he' with ⟨k', h1', rfl, h3'⟩ | ⟨h1', h2', h3'⟩
    · rw [joinF_src hinj h1 h3] at hb; rw [joinF_src hinj h1' h3'] at hb'
      rw [me.inj k k' e e' b h3 h3' hb hb']
    · rw [joinF_src hinj h1 h3] at hb; rw [joinF_not h1'] at hb'
      obtain ⟨g1, g2⟩ := hrest id' e' b h2' h3' hb'
      rcases (me.lt k e b h3 hb).2 with h | h
      · exact (g2 h).elim
      · have : W.heap.size ≤ b := h; omega
    · rw [joinF_src hinj h1' h3'] at hb'; rw [joinF_not h1] at hb
      obtain ⟨g1, g2⟩ := hrest id e b h2 h3 hb
      rcases (me.lt k' e' b h3' hb').2 with h | h
      · exact (g2 h).elim
      · have : W.heap.size ≤ b := h; omega
    · rw [joinF_not h1] at hb; rw [joinF_not h1'] at hb'
      exact r.mem.inj id id' e e' b h3 h3' hb hb'
  · intro id e b he hb
    rcases hA id e he with ⟨k, h1, rfl, h3⟩ | ⟨h1, h2, h3⟩
    · rw [joinF_src hinj h1 h3] at hb
      obtain ⟨g1, g2⟩ := me.lt k e b h3 hb
      refine ⟨g1, ?_⟩
      rcases g2 with h | h
      · obtain ⟨id', e', _, q2, q3⟩ := hownI b h
        exact (r.mem.lt id' e' b q2 q3).2
      · exact .inr (Nat.le_trans r.mem.size h)
    · rw [joinF_not h1] at hb
      have := r.mem.lt id e b h3 hb
      exact ⟨Nat.lt_of_lt_of_le this.1 me.size, this.2⟩
  · intro b hb ho
    rw [me.frame b (Nat.lt_of_lt_of_le hb r.mem.size) ?_]
    · exact r.mem.frame b hb ho
    · intro h
      obtain ⟨id', e', _, q2, q3⟩ := hownI b h
      rcases (r.mem.lt id' e' b q2 q3).2 with h | h
      · exact ho h
      · omega
  · exact fun t x hx => RepA.mono hokB x _ (fun id hi e' he' => hold id (r.idsE t x hx id hi) e' he') (r.env t x hx)
  · intro id e he
    rcases hA id e he with ⟨k, h1, rfl, h3⟩ | ⟨h1, h2, h3⟩
    · unfold bk
      cases e1 : ids[k]? with
      | some y => exact .inl (hF y (List.mem_of_getElem? e1))
      | none =>
        have hjl := List.getElem?_eq_none_iff.1 e1
        exact .inr ⟨k - ids.length, by omega, rfl⟩
    · exact .inl (r.idsH id e h3)
  · intro k hk e' he'
    obtain ⟨e, g1, g2, _⟩ := hold k (r.idsG k hk) e' he'
    rw [g2]; exact r.gh k hk e g1
  · intro id e c he hc
    rcases hA id e he with ⟨k, h1, rfl, h3⟩ | ⟨h1, h2, h3⟩
    · rw [Ent.ref_none (hz k e h3)] at hc; cases hc
    · exact .inl (r.idsR id e c h3 hc)

mutual
theorem back_ok {okI okC : Nat → Prop} {hdrN : Nat → Value} (hok : ∀ b, okI b → okC b) (hB : ∀ k e, k < ids.length + 8 → find Hn (bk ids base k) = some e → find Hout k = some e ∧ hdrN (bk ids base k) = hdr' k) :
    ∀ (x : AV) (v : Value), (∀ k, x.men k → k < ids.length + 8) → RepA W' okI hdr' Hout x v → RepA W' okC hdrN Hn (backA ids base x) v
  | .h k, v, hm, h => by
    simp only [backA, RepA] at *
    intro e he
    obtain ⟨h1, h2⟩ := hB k e (hm k (by simp [AV.men])) he
    rw [h2]; exact h e h1
  | .ptr k i off, v, hm, h => by
    simp only [backA, RepA] at *
    intro e he
    obtain ⟨h1, h2⟩ := hB k e (hm k (by simp [AV.men])) he
    rw [h2]; exact h e h1
  | .fn f l, v, hm, h => by
    simp only [backA, RepA] at *
    obtain ⟨vs, h1, h2⟩ := h
    exact ⟨vs, h1, backs_ok hok hB l vs (by simpa [AV.men] using hm) h2⟩
  | .tup l, v, hm, h => by
    simp only [backA, RepA] at *
    obtain ⟨vs, h1, h2⟩ := h
    exact ⟨vs, h1, backs_ok hok hB l vs (by simpa [AV.men] using hm) h2⟩
  | .u, v, hm, h => by simp [backA, RepA]
  | .v p, v, hm, h => by simp only [backA, RepA] at *; exact h.mono fun b hb => ⟨hok b hb, rfl⟩
  | .rp cs, v, hm, h => by
    simp only [backA, RepA] at *
    obtain ⟨b, o, c, h1, h2, h3, h4, h5⟩ := h
    exact ⟨b, o, c, h1, hok b h2, h3, h4.mono fun j hj => ⟨hok j hj, rfl⟩, h5⟩
theorem backs_ok {okI okC : Nat → Prop} {hdrN : Nat → Value} (hok : ∀ b, okI b → okC b) (hB : ∀ k e, k < ids.length + 8 → find Hn (bk ids base k) = some e → find Hout k = some e ∧ hdrN (bk ids base k) = hdr' k) :
    ∀ (l : List AV) (vs : List Value), (∀ k, AV.mens l k → k < ids.length + 8) → RepAs W' okI hdr' Hout l vs → RepAs W' okC hdrN Hn (backAs ids base l) vs
  | [], [], _, _ => by simp [backAs, RepAs]
  | [], _ :: _, _, h => by simp [RepAs] at h
  | _ :: _, [], _, h => by simp [RepAs] at h
  | x :: l, v :: vs, hm, h => by
    simp only [backAs, RepAs] at *
    exact ⟨back_ok hok hB x v (fun k hk => hm k (by simp [AV.mens, hk])) h.1, backs_ok hok hB l vs (fun k hk => hm k (by simp [AV.mens, hk])) h.2⟩
end

mutual
theorem men_back : ∀ (x : AV) (i : Nat), (backA ids base x).men i → ∃ k, x.men k ∧ bk ids base k = i
  | .h k, i, h => by simp only [backA, AV.men] at *; exact ⟨k, rfl, h⟩
  | .ptr k _ _, i, h => by simp only [backA, AV.men] at *; exact ⟨k, rfl, h⟩
  | .fn f l, i, h => by simp only [backA, AV.men] at *; exact mens_back l i h
  | .tup l, i, h => by simp only [backA, AV.men] at *; exact mens_back l i h
  | .u, i, h => by simp [backA, AV.men] at h
  | .v _, i, h => by simp [backA, AV.men] at h
  | .rp _, i, h => by simp [backA, AV.men] at h
theorem mens_back : ∀ (l : List AV) (i : Nat), AV.mens (backAs ids base l) i → ∃ k, AV.mens l k ∧ bk ids base k = i
  | [], i, h => by simp [backAs, AV.mens] at h
  | x :: l, i, h => by
    simp only [backAs, AV.mens] at h
    rcases h with h | h
    · obtain ⟨k, h1, h2⟩ := men_back x i h; exact ⟨k, by simp [AV.mens, h1], h2⟩
    · obtain ⟨k, h1, h2⟩ := mens_back l i h; exact ⟨k, by simp [AV.mens, h1], h2⟩
end

end
end Go.AM
