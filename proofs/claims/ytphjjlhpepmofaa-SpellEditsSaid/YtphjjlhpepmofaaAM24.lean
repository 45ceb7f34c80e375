/- Forgetting, renaming, loops. -/
import Derived.Test.YtphjjlhpepmofaaAM23
set_option linter.all false
namespace Go.AM
open Go

/-- The new number of a row: kp has pairs (new, old). -/
def newOf : List (Nat × Nat) → Nat → Option Nat
  | [], _ => none
  | (a, b) :: l, id => if id = b then some a else newOf l id

mutual
/-- A value under new numbers; a row that is not kept becomes a shared value. -/
def conv (kp : List (Nat × Nat)) (H : Heap) : AV → Option AV
  | .h id => match newOf kp id with
    | some a => some (.h a)
    | none => match find H id with
      | some e => if e.sz = 0 then none else some (.v (.sl e.sz e.l))
      | none => none
  | .ptr id i o => match newOf kp id with
    | some a => some (.ptr a i o)
    | none => none
  | .fn f l => match convs kp H l with
    | some l => some (.fn f l)
    | none => none
  | .tup l => match convs kp H l with
    | some l => some (.tup l)
    | none => none
  | .u => some .u
  | .v p => some (.v p)
  | .rp cs => some (.rp cs)
def convs (kp : List (Nat × Nat)) (H : Heap) : List AV → Option (List AV)
  | [] => some []
  | x :: l => match conv kp H x, convs kp H l with
    | some y, some ys => some (y :: ys)
    | _, _ => none
end

def EnvLe (kp : List (Nat × Nat)) (H : Heap) (E : Env) : Env → Prop
  | [] => True
  | (t, x) :: E' => (find E t).bind (conv kp H) = some x ∧ EnvLe kp H E E'

/-- A row under new numbers; z: as a row of rows. -/
def convE (kp : List (Nat × Nat)) (H : Heap) (e : Ent) (z : Bool) : Option Ent :=
  if e.sz = 0 then (if e.fro = false then (match e.l with
    | h :: rest => (match decR h with
      | some none => if z = true then some e else some ⟨e.fro, 1, rest⟩
      | some (some (i, c)) => (match newOf kp c with
        | some c' => if z = true then some ⟨e.fro, 0, encR i c' :: rest⟩ else none
        | none => (match find H c with
          | some ec => if ec.sz = 0 then none else if z = true then some ⟨e.fro, 0, .st [] :: rest.set i (.sl ec.sz ec.l)⟩ else some ⟨e.fro, 1, rest.set i (.sl ec.sz ec.l)⟩
          | none => none))
      | none => none)
    | [] => none) else none)
  else if z = true then (if e.sz = 1 ∧ e.fro = false then some ⟨e.fro, 0, .st [] :: e.l⟩ else none) else some e

def HeapLe (kp : List (Nat × Nat)) (H : Heap) : Heap → Prop
  | [] => True
  | (a, e) :: H' => ((find kp a).bind (find H)).bind (fun x => convE kp H x (e.sz == 0)) = some e ∧ HeapLe kp H H'

section
variable {P : Program} {D : Fd} {G : Gl} {k : List MI} {s s' : St} {kp : List (Nat × Nat)}

theorem newOf_mem : ∀ {kp : List (Nat × Nat)} {id a : Nat}, newOf kp id = some a → (a, id) ∈ kp
  | [], _, _, h => by simp [newOf] at h
  | (x, y) :: l, id, a, h => by
    simp only [newOf] at h
    split at h
    · rename_i he; cases h; subst he; simp
    · simp [newOf_mem h]

theorem newOf_none : ∀ {kp : List (Nat × Nat)} {id : Nat}, newOf kp id = none → ∀ a, (a, id) ∉ kp
  | [], _, _, _ => by simp
  | (x, y) :: l, id, h, a => by
    simp only [newOf] at h
    split at h
    · cases h
    · rename_i he
      intro hm
      rcases List.mem_cons.1 hm with hm | hm
      · cases hm; exact he rfl
      · exact newOf_none h a hm

theorem find_of_mem {α : Type} : ∀ {l : List (Nat × α)} {a : Nat} {x : α}, (l.map Prod.fst).Nodup → (a, x) ∈ l → find l a = some x
  | (b, y) :: l, a, x, hn, hm => by
    simp only [List.map_cons, List.nodup_cons] at hn
    rw [find_cons]
    rcases List.mem_cons.1 hm with hm | hm
    · cases hm; simp
    · have : a ≠ b := by intro hab; exact hn.1 (List.mem_map.2 ⟨(a, x), hm, hab⟩)
      rw [if_neg this]; exact find_of_mem hn.2 hm

theorem envLe_get {kp : List (Nat × Nat)} {H : Heap} {E : Env} : ∀ {E' : Env} {t : Nat} {x : AV}, EnvLe kp H E E' → find E' t = some x → ∃ y, find E t = some y ∧ conv kp H y = some x
  | [], t, x, _, h => by simp [find] at h
  | (u, z) :: E', t, x, hle, h => by
    simp only [EnvLe] at hle
    rw [find_cons] at h
    split at h
    · rename_i ht; cases h; subst ht; exact Option.bind_eq_some_iff.1 hle.1
    · exact envLe_get hle.2 h

theorem heapLe_get {kp : List (Nat × Nat)} {H : Heap} : ∀ {H' : Heap} {a : Nat} {e : Ent}, HeapLe kp H H' → find H' a = some e → ∃ old e0, find kp a = some old ∧ find H old = some e0 ∧ convE kp H e0 (e.sz == 0) = some e
  | [], a, e, _, h => by simp [find] at h
  | (u, z) :: H', a, e, hle, h => by
    simp only [HeapLe] at hle
    rw [find_cons] at h
    split at h
    · rename_i ht; cases h; subst ht
      obtain ⟨e0, h1, h2⟩ := Option.bind_eq_some_iff.1 hle.1
      obtain ⟨old, h3, h4⟩ := Option.bind_eq_some_iff.1 h1
      exact ⟨old, e0, h3, h4, h2⟩
    · exact heapLe_get hle.2 h

theorem convE_w {kp : List (Nat × Nat)} {H : Heap} {e0 e : Ent} {z : Bool} (h : convE kp H e0 z = some e) : e.w = e0.w := by
  unfold convE at h
  split at h
  · rename_i hz
    have hw : e0.w = 1 := by unfold Ent.w; rw [if_pos hz]
    rw [hw]
    split at h
    rotate_left
    · cases h
    split at h
    · split at h
      · split at h
        · cases h; exact hw
        · cases h; rfl
      · split at h
        · split at h
          · cases h; rfl
          · cases h
        · split at h
          · split at h
            · cases h
            · split at h
              · cases h; rfl
              · cases h; rfl
          · cases h
      · cases h
    · cases h
  · rename_i hz
    split at h
    · split at h
      · rename_i h1; cases h; unfold Ent.w; rw [if_pos rfl, if_neg hz, h1.1]
      · cases h
    · cases h; rfl

theorem snd_one : ∀ {l : List (Nat × Nat)}, (l.map Prod.snd).Nodup → ∀ {i i' old : Nat}, (i, old) ∈ l → (i', old) ∈ l → i = i'
  | [], _, _, _, _, h, _ => by simp at h
  | (x, y) :: l, hnd, i, i', old, h, h' => by
    simp only [List.map_cons, List.nodup_cons] at hnd
    rcases List.mem_cons.1 h with g | g <;> rcases List.mem_cons.1 h' with g' | g'
    · cases g; cases g'; rfl
    · cases g; exact (hnd.1 (List.mem_map.2 ⟨(i', y), g', rfl⟩)).elim
    · cases g'; exact (hnd.1 (List.mem_map.2 ⟨(i, y), g, rfl⟩)).elim
    · exact snd_one hnd.2 g g'

def ren {α : Type} (f : Nat → α) (d : α) (kp : List (Nat × Nat)) (a : Nat) : α := match find kp a with | some old => f old | none => d

section conv
variable {C : Cx} {n : Nat} {F : Nat → Prop} {a : Act} {W : World} {hdr : Nat → Value} {ow : Nat → Option Nat} {okC : Nat → Prop} {H' : Heap}
mutual
theorem conv_ok (r : RelAt C n F s a W hdr ow) (hn : (kp.map Prod.fst).Nodup) (hle : HeapLe kp s.heap H') (hok : ∀ j, OK C W s.heap ow j → okC j) (hb : ∀ id e j, (∀ b, (b, id) ∉ kp) → find s.heap id = some e → ow id = some j → okC j) :
    ∀ (x y : AV) (v : Value), conv kp s.heap x = some y → RepA W (OK C W s.heap ow) hdr s.heap x v → RepA W okC (ren hdr default kp) H' y v
  | .h id, y, v, h, hx => by
    simp only [conv] at h
    simp only [RepA] at hx
    split at h
    · rename_i b hb'
      cases h
      have hf := find_of_mem hn (newOf_mem hb')
      simp only [RepA]
      intro e he
      obtain ⟨old, e0, h1, h2, _⟩ := heapLe_get hle he
      rw [hf] at h1; cases h1
      rw [hx e0 h2]; simp [ren, hf]
    · rename_i hnone
      split at h
      · rename_i e he
        split at h
        · cases h
        rename_i hz
        cases h
        simp only [RepA]
        rw [hx e he]
        exact RepV.sl (((r.mem.ent id e he).plain hz).shared hok fun j hj => hb id e j (newOf_none hnone) he hj)
      · cases h
  | .ptr id i off, y, v, h, hx => by
    simp only [conv] at h
    simp only [RepA] at hx
    split at h
    · rename_i b hb'
      cases h
      have hf := find_of_mem hn (newOf_mem hb')
      simp only [RepA]
      intro e he
      obtain ⟨old, e0, h1, h2, h3⟩ := heapLe_get hle he
      rw [hf] at h1; cases h1
      rw [convE_w h3]
      simpa [ren, hf] using hx e0 h2
    · cases h
  | .fn f l, y, v, h, hx => by
    simp only [conv] at h
    simp only [RepA] at hx
    split at h
    · rename_i l' hl
      cases h
      simp only [RepA]
      obtain ⟨vs, h1, h2⟩ := hx
      exact ⟨vs, h1, convs_ok r hn hle hok hb l l' vs hl h2⟩
    · cases h
  | .tup l, y, v, h, hx => by
    simp only [conv] at h
    simp only [RepA] at hx
    split at h
    · rename_i l' hl
      cases h
      simp only [RepA]
      obtain ⟨vs, h1, h2⟩ := hx
      exact ⟨vs, h1, convs_ok r hn hle hok hb l l' vs hl h2⟩
    · cases h
  | .u, y, v, h, hx => by simp only [conv] at h; cases h; simp [RepA]
  | .v p, y, v, h, hx => by
    simp only [conv] at h; cases h
    simp only [RepA] at *
    exact hx.mono fun j hj => ⟨hok j hj, rfl⟩
  | .rp cs, y, v, h, hx => by
    simp only [conv] at h; cases h
    simp only [RepA] at *
    obtain ⟨b, o, c, h1, h2, h3, h4, h5⟩ := hx
    exact ⟨b, o, c, h1, hok b h2, h3, h4.mono fun j hj => ⟨hok j hj, rfl⟩, h5⟩
theorem convs_ok (r : RelAt C n F s a W hdr ow) (hn : (kp.map Prod.fst).Nodup) (hle : HeapLe kp s.heap H') (hok : ∀ j, OK C W s.heap ow j → okC j) (hb : ∀ id e j, (∀ b, (b, id) ∉ kp) → find s.heap id = some e → ow id = some j → okC j) :
    ∀ (l l' : List AV) (vs : List Value), convs kp s.heap l = some l' → RepAs W (OK C W s.heap ow) hdr s.heap l vs → RepAs W okC (ren hdr default kp) H' l' vs
  | [], l', [], h, _ => by simp [convs] at h; subst h; simp [RepAs]
  | [], l', _ :: _, h, hx => by simp [RepAs] at hx
  | _ :: _, l', [], h, hx => by simp [RepAs] at hx
  | x :: l, l', v :: vs, h, hx => by
    simp only [convs] at h
    simp only [RepAs] at hx
    split at h
    · rename_i y ys h1 h2
      cases h
      simp only [RepAs]
      exact ⟨conv_ok r hn hle hok hb x y v h1 hx.1, convs_ok r hn hle hok hb l ys vs h2 hx.2⟩
    · cases h
end
mutual
theorem conv_men {H : Heap} : ∀ (x y : AV) (i : Nat), conv kp H x = some y → y.men i → ∃ b, (i, b) ∈ kp
  | .h id, y, i, h, hi => by
    simp only [conv] at h
    split at h
    · rename_i b hb; cases h; simp only [AV.men] at hi; subst hi; exact ⟨id, newOf_mem hb⟩
    · split at h
      · split at h
        · cases h
        · cases h; simp [AV.men] at hi
      · cases h
  | .ptr id j o, y, i, h, hi => by
    simp only [conv] at h
    split at h
    · rename_i b hb; cases h; simp only [AV.men] at hi; subst hi; exact ⟨id, newOf_mem hb⟩
    · cases h
  | .fn f l, y, i, h, hi => by
    simp only [conv] at h
    split at h
    · rename_i l' hl; cases h; exact convs_men l l' i hl (by simpa [AV.men] using hi)
    · cases h
  | .tup l, y, i, h, hi => by
    simp only [conv] at h
    split at h
    · rename_i l' hl; cases h; exact convs_men l l' i hl (by simpa [AV.men] using hi)
    · cases h
  | .u, y, i, h, hi => by simp only [conv] at h; cases h; simp [AV.men] at hi
  | .v _, y, i, h, hi => by simp only [conv] at h; cases h; simp [AV.men] at hi
  | .rp _, y, i, h, hi => by simp only [conv] at h; cases h; simp [AV.men] at hi
theorem convs_men {H : Heap} : ∀ (l l' : List AV) (i : Nat), convs kp H l = some l' → AV.mens l' i → ∃ b, (i, b) ∈ kp
  | [], l', i, h, hi => by simp [convs] at h; subst h; simp [AV.mens] at hi
  | x :: l, l', i, h, hi => by
    simp only [convs] at h
    split at h
    · rename_i y ys h1 h2
      cases h
      simp only [AV.mens] at hi
      rcases hi with hi | hi
      · exact conv_men x y i h1 hi
      · exact convs_men l ys i h2 hi
    · cases h
end
end conv

section ent
variable {C : Cx} {n : Nat} {F : Nat → Prop} {a : Act} {W : World} {hdr : Nat → Value} {ow : Nat → Option Nat} {okC : Nat → Prop}

theorem nestL_rep {ok : Nat → Prop} {rest : List PV} {vs : List Value} (r : NestL W ok hdr none rest vs) : RepL W ok 1 rest vs := by
  refine RepL.ofGet (by rw [r.1, Nat.mul_one]) fun i p hp => ?_
  have hi : i < vs.length := by rw [r.1]; exact (List.getElem?_eq_some_iff.1 hp).1
  have := (r.2 i p vs[i] hp (List.getElem?_eq_getElem hi)).2 (fun i c h => by cases h)
  rw [Nat.mul_one, List.drop_eq_getElem_cons hi, List.take_succ_cons, List.take_zero]
  exact this

theorem rep_nestL {ok : Nat → Prop} {hdr : Nat → Value} {rest : List PV} {vs : List Value} (r : RepL W ok 1 rest vs) : NestL W ok hdr none rest vs := by
  refine ⟨by rw [r.length, Nat.mul_one], fun j p v hp hv => ⟨fun i c h => (by cases h), fun _ => ?_⟩⟩
  obtain ⟨v', h1, h2⟩ := r.get1 hp
  rw [hv] at h1; cases h1; exact h2

theorem nestL_set {ok ok' : Nat → Prop} {hdr hdr' : Nat → Value} {rest : List PV} {vs : List Value} {i c : Nat} {p : PV} (r : NestL W ok hdr (some (i, c)) rest vs) (h : ∀ b, ok b → ok' b) (hp : RepC W ok' p [hdr c]) : NestL W ok' hdr' none (rest.set i p) vs := by
  refine ⟨by rw [r.1, List.length_set], fun j q v hq hv => ⟨fun i c h => (by cases h), fun _ => ?_⟩⟩
  rw [List.getElem?_set] at hq
  by_cases hji : i = j
  · subst hji
    rw [if_pos rfl] at hq
    split at hq
    · rename_i hlt
      cases hq
      have := (r.2 i rest[i] v (List.getElem?_eq_getElem hlt) hv).1 i c rfl rfl
      rw [this.1]; exact hp
    · cases hq
  · rw [if_neg hji] at hq
    exact ((r.2 j q v hq hv).2 (fun i' c' h => by cases h; exact fun h' => hji h'.symm)).mono fun b hb => ⟨h b hb, rfl⟩

theorem conv_ent (r : RelAt C n F s a W hdr ow) (hn : (kp.map Prod.fst).Nodup) (hok : ∀ j, OK C W s.heap ow j → okC j) (hb : ∀ id e j, (∀ b, (b, id) ∉ kp) → find s.heap id = some e → ow id = some j → okC j) {old : Nat} {e0 e : Ent} {z : Bool}
    (he : find s.heap old = some e0) (h : convE kp s.heap e0 z = some e) : RepE W okC (ren hdr default kp) e (hdr old) (ow old) ∧ (∀ c, e.ref = some c → ∃ b, (c, b) ∈ kp) := by
  have hmo : ∀ b, OK C W s.heap ow b → okC b ∧ W.heap[b]? = W.heap[b]? := fun b hb => ⟨hok b hb, rfl⟩
  have hE := r.mem.ent old e0 he
  unfold convE at h
  split at h
  · rename_i hz
    split at h
    rotate_left
    · cases h
    rename_i hfr
    split at h
    · rename_i g rest hl
      obtain ⟨_, _, g', rest', rf, hl', hrf, hN⟩ := hE.nest hz hfr (by rw [hl]; simp)
      rw [hl] at hl'
      injection hl' with q1 q2
      subst q1 q2
      split at h
      · rename_i hq
        rw [hrf] at hq; cases hq
        split at h
        · cases h
          refine ⟨.inr ⟨hfr, hz, g, rest, none, hl, hrf, ?_⟩, fun c hc => by simp [Ent.ref, hz, hl, hrf] at hc⟩
          rcases hN with hN | ⟨b, off, cap, c, h1, h2, h3, h4, h5, h6⟩
          · exact .inl hN
          · exact .inr ⟨b, off, cap, c, h1, h2, h3, h4, h5, h6.mono hmo (fun i c h => by cases h)⟩
        · cases h
          refine ⟨.inl ⟨fun h => by simp at h, ?_⟩, fun c hc => by simp [Ent.ref] at hc⟩
          rcases hN with ⟨h1, h2, h3⟩ | ⟨b, off, cap, c, h1, h2, h3, h4, h5, h6⟩
          · exact .inr (.inl ⟨h1, h2, h3⟩)
          · exact .inr (.inr ⟨hfr, b, off, cap, c, h1, h2, h3, by simpa using h4, h5, by simpa using nestL_rep (hdr := hdr) (h6.mono hmo (fun i c h => by cases h))⟩)
      · rename_i i c hq
        rw [hrf] at hq; cases hq
        split at h
        · rename_i c' hc'
          split at h
          · cases h
            have hm := newOf_mem hc'
            have hf := find_of_mem hn hm
            refine ⟨.inr ⟨hfr, rfl, encR i c', rest, some (i, c'), rfl, by simp [decR], ?_⟩, fun c1 hc1 => by simp [Ent.ref, decR] at hc1; subst hc1; exact ⟨c, hm⟩⟩
            rcases hN with hN | ⟨b, off, cap, cc, h1, h2, h3, h4, h5, h6⟩
            · exact .inl hN
            · refine .inr ⟨b, off, cap, cc, h1, h2, h3, h4, h5, h6.1, fun j p v hp hv => ?_⟩
              obtain ⟨k1, k2⟩ := h6.2 j p v hp hv
              refine ⟨fun i1 c1 h h' => ?_, fun h' => (k2 fun i1 c1 h => by cases h; exact h' i c' rfl).mono hmo⟩
              cases h
              have := k1 i c rfl h'
              simp only [ren, hf]; exact this
          · cases h
        · rename_i hnone
          split at h
          · rename_i ec hec
            split at h
            · cases h
            · rename_i hzc
              have hsh : RepC W okC (.sl ec.sz ec.l) [hdr c] := ((r.mem.ent c ec hec).plain hzc).shared hok fun j hj => hb c ec j (newOf_none hnone) hec hj
              split at h
              · cases h
                refine ⟨.inr ⟨hfr, rfl, .st [], rest.set i (.sl ec.sz ec.l), none, rfl, by simp [decR], ?_⟩, fun c1 hc1 => by simp [Ent.ref, decR] at hc1⟩
                rcases hN with ⟨h1, h2, h3⟩ | ⟨b, off, cap, cc, h1, h2, h3, h4, h5, h6⟩
                · exact .inl ⟨by rw [h1]; rfl, h2, h3⟩
                · exact .inr ⟨b, off, cap, cc, h1, by rw [List.length_set]; exact h2, h3, h4, by rw [List.length_set]; exact h5, by rw [List.length_set]; exact nestL_set h6 hok hsh⟩
              · cases h
                refine ⟨.inl ⟨fun h => by simp at h, ?_⟩, fun c hc => by simp [Ent.ref] at hc⟩
                rcases hN with ⟨h1, h2, h3⟩ | ⟨b, off, cap, cc, h1, h2, h3, h4, h5, h6⟩
                · exact .inr (.inl ⟨by rw [h1]; rfl, h2, h3⟩)
                · exact .inr (.inr ⟨hfr, b, off, cap, cc, h1, by simp only [List.length_set]; exact h2, h3, by simpa using h4, by simp only [List.length_set]; exact h5, by
                    simp only [List.length_set, Nat.mul_one]
                    exact nestL_rep (nestL_set (hdr' := hdr) h6 hok hsh)⟩)
          · cases h
      · cases h
    · cases h
  · rename_i hz
    split at h
    · split at h
      · rename_i hc
        cases h
        refine ⟨.inr ⟨hc.2, rfl, .st [], e0.l, none, rfl, by simp [decR], ?_⟩, fun c hc => by simp [Ent.ref, decR] at hc⟩
        rcases hE.plain hz with ⟨h3, _⟩ | ⟨h1, h2, h3⟩ | ⟨_, b, off, cap, c, h1, h2, h3, h4, h5, h6⟩
        · rw [hc.2] at h3; cases h3
        · exact .inl ⟨h1, h2, h3⟩
        · rw [hc.1, Nat.mul_one] at h4
          rw [hc.1, Nat.mul_one] at h6
          exact .inr ⟨b, off, cap, c, h1, h2, h3, h4, h5, (rep_nestL (hdr := ren hdr default kp) h6).mono hmo (fun i c h => by cases h)⟩
      · cases h
    · cases h
      exact ⟨hE.mono hmo (fun _ _ => rfl) (fun c hc => by rw [Ent.ref_none hz] at hc; cases hc), fun c hc => by rw [Ent.ref_none hz] at hc; cases hc⟩
end ent

/-- What holds from a state that says less holds from one that says more. -/
theorem Run.weaken (kp : List (Nat × Nat)) (hn : (kp.map Prod.fst).Nodup) (hn2 : (kp.map Prod.snd).Nodup) (hE : EnvLe kp s.heap s.env s'.env) (hH : HeapLe kp s.heap s'.heap) (hnx : ∀ p ∈ kp, p.1 < s'.nx) (hnin : G.nin ≤ s'.nx)
    (hkeep : ∀ j, j < G.nin → (find s'.heap j).isSome = true → find kp j = some j) (h : Run P D G k s') : Run P D G k s := by
  intro C fn a W hdr ow items hC hfn r hm b cs hb hbk
  have hget : ∀ i e, find s'.heap i = some e → ∃ old e0, find kp i = some old ∧ find s.heap old = some e0 ∧ convE kp s.heap e0 (e.sz == 0) = some e := fun i e he => heapLe_get hH he
  have hown : ∀ j, Own s'.heap (ren ow none kp) j → ∃ i id e, (i, id) ∈ kp ∧ find s.heap id = some e ∧ ow id = some j := by
    rintro j ⟨i, e, hi, ho⟩
    obtain ⟨old, e0, h1, h2, _⟩ := hget i e hi
    simp only [ren, h1] at ho
    exact ⟨i, old, e0, find_mem h1, h2, ho⟩
  have hok : ∀ j, OK C W s.heap ow j → OK C W s'.heap (ren ow none kp) j := by
    rintro j ⟨h1, h2⟩
    refine ⟨h1, fun h => ?_⟩
    obtain ⟨i, id, e, _, q1, q2⟩ := hown j h
    exact h2 ⟨id, e, q1, q2⟩
  have hokb : ∀ id e j, (∀ b, (b, id) ∉ kp) → find s.heap id = some e → ow id = some j → OK C W s'.heap (ren ow none kp) j := by
    intro id e j hni he hj
    have hlt := r.mem.lt id e j he hj
    refine ⟨⟨.inr hlt.2, hlt.1⟩, fun h => ?_⟩
    obtain ⟨i, id', e', q0, q1, q2⟩ := hown j h
    have := r.mem.inj id id' e e' j he q1 hj q2
    subst this; exact hni i q0
  have hold : ∀ {i i' old : Nat}, (i, old) ∈ kp → (i', old) ∈ kp → i = i' := fun h1 h2 => snd_one hn2 h1 h2
  have r' : RelAt C D.n (· < s'.nx) s' a W (ren hdr default kp) (ren ow none kp) := by
    refine ⟨⟨?_, ?_, ?_, r.mem.size, r.mem.frame, r.mem.os, r.mem.tape, r.mem.output⟩, r.defers, r.tsz, ?_, ?_, ?_, ?_, ?_, ?_⟩
    · intro i e he
      obtain ⟨old, e0, h1, h2, h3⟩ := hget i e he
      have := (conv_ent r hn hok hokb h2 h3).1
      have e1 : ren hdr default kp i = hdr old := by simp [ren, h1]
      have e2 : ren ow none kp i = ow old := by simp [ren, h1]
      rw [e1, e2]; exact this
    · intro i i' e e' j hi hi' hj hj'
      obtain ⟨old, e0, h1, h2, _⟩ := hget i e hi
      obtain ⟨old', e0', h1', h2', _⟩ := hget i' e' hi'
      simp only [ren, h1] at hj
      simp only [ren, h1'] at hj'
      have := r.mem.inj old old' e0 e0' j h2 h2' hj hj'
      subst this
      exact hold (find_mem h1) (find_mem h1')
    · intro i e j hi hj
      obtain ⟨old, e0, h1, h2, _⟩ := hget i e hi
      simp only [ren, h1] at hj
      exact r.mem.lt old e0 j h2 hj
    · intro t x hx
      obtain ⟨y, h1, h2⟩ := envLe_get hE hx
      exact conv_ok r hn hH hok hokb y x _ h2 (r.env t y h1)
    · intro t x hx i hi
      obtain ⟨y, h1, h2⟩ := envLe_get hE hx
      obtain ⟨b, hb⟩ := conv_men y x i h2 hi
      exact hnx _ hb
    · intro i e he
      obtain ⟨old, e0, h1, h2, _⟩ := hget i e he
      exact hnx _ (find_mem h1)
    · intro j hj
      rw [hC] at hj
      show j < s'.nx
      omega
    · intro j hj e he
      rw [hC] at hj
      have h1 := hkeep j hj (by rw [he]; rfl)
      obtain ⟨old, e0, h2, h3, _⟩ := hget j e he
      rw [h1] at h2; cases h2
      simp only [ren, h1]
      exact r.gh j (by rw [hC]; exact hj) e0 h3
    · intro i e c he hc
      obtain ⟨old, e0, h1, h2, h3⟩ := hget i e he
      obtain ⟨b, hb⟩ := (conv_ent r hn hok hokb h2 h3).2 c hc
      exact hnx _ hb
  exact h C fn a W _ _ items hC hfn r' hm b cs hb hbk

/-- A loop: from the states st i (I i), by what is left (ms i). -/
theorem Run.loop_ind {x : MC} {ι : Type} (I : ι → Prop) (st : ι → St) (ms : ι → Nat) (step : ∀ i, I i → (∀ j, I j → ms j < ms i → Run P D G (.inLoop x :: k) (st j)) → Run P D G (.code x :: .inLoop x :: k) (st i)) :
    ∀ i, I i → Run P D G (.code (.loop x) :: k) (st i) := by
  have key : ∀ (m : Nat) (i : ι), ms i < m → I i → Run P D G (.inLoop x :: k) (st i) := by
    intro m
    induction m with
    | zero => intro i h; omega
    | succ m ih => intro i h hI; exact (step i hI fun j hj hlt => ih j (by omega) hj).inLoop
  intro i hI
  exact (step i hI fun j hj _ => key (ms j + 1) j (Nat.lt_succ_self _) hj).loop

end
end Go.AM
