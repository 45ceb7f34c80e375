/- Forgetting, renaming, loops. -/
import Derived.Test.YtphjjlhpepmofaaAM23
set_option linter.all false
namespace Go.AM
open Go

/-- The new number of a row: kp has pairs (new, old). -/
def newOf : List (Nat × Nat) → Nat → Option Nat
  | [], _ => none
  | (a, b) :: l, id => if id = b then some a else newOf l id

mutual
/-- A value under new numbers; a row that is not kept becomes a shared value. -/
def conv (kp : List (Nat × Nat)) (H : Heap) : AV → Option AV
  | .h id => match newOf kp id with
    | some a => some (.h a)
    | none => match find H id with
      | some e => some (.v (.sl e.sz e.l))
      | none => none
  | .ptr id i o => match newOf kp id with
    | some a => some (.ptr a i o)
    | none => none
  | .fn f l => match convs kp H l with
    | some l => some (.fn f l)
    | none => none
  | .tup l => match convs kp H l with
    | some l => some (.tup l)
    | none => none
  | .u => some .u
  | .v p => some (.v p)
  | .rp cs => some (.rp cs)
def convs (kp : List (Nat × Nat)) (H : Heap) : List AV → Option (List AV)
  | [] => some []
  | x :: l => match conv kp H x, convs kp H l with
    | some y, some ys => some (y :: ys)
    | _, _ => none
end

def EnvLe (kp : List (Nat × Nat)) (H : Heap) (E : Env) : Env → Prop
  | [] => True
  | (t, x) :: E' => (find E t).bind (conv kp H) = some x ∧ EnvLe kp H E E'

def HeapLe (kp : List (Nat × Nat)) (H : Heap) : Heap → Prop
  | [] => True
  | (a, e) :: H' => (find kp a).bind (find H) = some e ∧ HeapLe kp H H'

section
variable {P : Program} {D : Fd} {G : Gl} {k : List MI} {s s' : St} {kp : List (Nat × Nat)}

theorem newOf_mem : ∀ {kp : List (Nat × Nat)} {id a : Nat}, newOf kp id = some a → (a, id) ∈ kp
  | [], _, _, h => by simp [newOf] at h
  | (x, y) :: l, id, a, h => by
    simp only [newOf] at h
    split at h
    · rename_i he; cases h; subst he; simp
    · simp [newOf_mem h]

theorem newOf_none : ∀ {kp : List (Nat × Nat)} {id : Nat}, newOf kp id = none → ∀ a, (a, id) ∉ kp
  | [], _, _, _ => by simp
  | (x, y) :: l, id, h, a => by
    simp only [newOf] at h
    split at h
    · cases h
    · rename_i he
      intro hm
      rcases List.mem_cons.1 hm with hm | hm
      · cases hm; exact he rfl
      · exact newOf_none h a hm

theorem find_of_mem {α : Type} : ∀ {l : List (Nat × α)} {a : Nat} {x : α}, (l.map Prod.fst).Nodup → (a, x) ∈ l → find l a = some x
  | (b, y) :: l, a, x, hn, hm => by
    simp only [List.map_cons, List.nodup_cons] at hn
    rw [find_cons]
    rcases List.mem_cons.1 hm with hm | hm
    · cases hm; simp
    · have : a ≠ b := by intro hab; exact hn.1 (List.mem_map.2 ⟨(a, x), hm, hab⟩)
      rw [if_neg this]; exact find_of_mem hn.2 hm

theorem envLe_get {kp : List (Nat × Nat)} {H : Heap} {E : Env} : ∀ {E' : Env} {t : Nat} {x : AV}, EnvLe kp H E E' → find E' t = some x → ∃ y, find E t = some y ∧ conv kp H y = some x
  | [], t, x, _, h => by simp [find] at h
  | (u, z) :: E', t, x, hle, h => by
    simp only [EnvLe] at hle
    rw [find_cons] at h
    split at h
    · rename_i ht; cases h; subst ht; exact Option.bind_eq_some_iff.1 hle.1
    · exact envLe_get hle.2 h

theorem heapLe_get {kp : List (Nat × Nat)} {H : Heap} : ∀ {H' : Heap} {a : Nat} {e : Ent}, HeapLe kp H H' → find H' a = some e → ∃ old, find kp a = some old ∧ find H old = some e
  | [], a, e, _, h => by simp [find] at h
  | (u, z) :: H', a, e, hle, h => by
    simp only [HeapLe] at hle
    rw [find_cons] at h
    split at h
    · rename_i ht; cases h; subst ht; exact Option.bind_eq_some_iff.1 hle.1
    · exact heapLe_get hle.2 h

theorem snd_one : ∀ {l : List (Nat × Nat)}, (l.map Prod.snd).Nodup → ∀ {i i' old : Nat}, (i, old) ∈ l → (i', old) ∈ l → i = i'
  | [], _, _, _, _, h, _ => by simp at h
  | (x, y) :: l, hnd, i, i', old, h, h' => by
    simp only [List.map_cons, List.nodup_cons] at hnd
    rcases List.mem_cons.1 h with g | g <;> rcases List.mem_cons.1 h' with g' | g'
    · cases g; cases g'; rfl
    · cases g; exact (hnd.1 (List.mem_map.2 ⟨(i', y), g', rfl⟩)).elim
    · cases g'; exact (hnd.1 (List.mem_map.2 ⟨(i, y), g, rfl⟩)).elim
    · exact snd_one hnd.2 g g'

def ren {α : Type} (f : Nat → α) (d : α) (kp : List (Nat × Nat)) (a : Nat) : α := match find kp a with | some old => f old | none => d

section conv
variable {C : Cx} {n : Nat} {F : Nat → Prop} {a : Act} {W : World} {hdr : Nat → Value} {ow : Nat → Option Nat} {okC : Nat → Prop} {H' : Heap}
mutual
theorem conv_ok (r : RelAt C n F s a W hdr ow) (hn : (kp.map Prod.fst).Nodup) (hle : HeapLe kp s.heap H') (hok : ∀ j, OK C W s.heap ow j → okC j) (hb : ∀ id e j, (∀ b, (b, id) ∉ kp) → find s.heap id = some e → ow id = some j → okC j) :
    ∀ (x y : AV) (v : Value), conv kp s.heap x = some y → RepA W (OK C W s.heap ow) hdr s.heap x v → RepA W okC (ren hdr default kp) H' y v
  | .h id, y, v, h, hx => by
    simp only [conv] at h
    simp only [RepA] at hx
    split at h
    · rename_i b hb'
      cases h
      have hf := find_of_mem hn (newOf_mem hb')
      simp only [RepA]
      intro e he
      obtain ⟨old, h1, h2⟩ := heapLe_get hle he
      rw [hf] at h1; cases h1
      rw [hx e h2]; simp [ren, hf]
    · rename_i hnone
      split at h
      · rename_i e he
        cases h
        simp only [RepA]
        rw [hx e he]
        exact RepV.sl ((r.mem.ent id e he).shared hok fun j hj => hb id e j (newOf_none hnone) he hj)
      · cases h
  | .ptr id i off, y, v, h, hx => by
    simp only [conv] at h
    simp only [RepA] at hx
    split at h
    · rename_i b hb'
      cases h
      have hf := find_of_mem hn (newOf_mem hb')
      simp only [RepA]
      intro e he
      obtain ⟨old, h1, h2⟩ := heapLe_get hle he
      rw [hf] at h1; cases h1
      simpa [ren, hf] using hx e h2
    · cases h
  | .fn f l, y, v, h, hx => by
    simp only [conv] at h
    simp only [RepA] at hx
    split at h
    · rename_i l' hl
      cases h
      simp only [RepA]
      obtain ⟨vs, h1, h2⟩ := hx
      exact ⟨vs, h1, convs_ok r hn hle hok hb l l' vs hl h2⟩
    · cases h
  | .tup l, y, v, h, hx => by
    simp only [conv] at h
    simp only [RepA] at hx
    split at h
    · rename_i l' hl
      cases h
      simp only [RepA]
      obtain ⟨vs, h1, h2⟩ := hx
      exact ⟨vs, h1, convs_ok r hn hle hok hb l l' vs hl h2⟩
    · cases h
  | .u, y, v, h, hx => by simp only [conv] at h; cases h; simp [RepA]
  | .v p, y, v, h, hx => by
    simp only [conv] at h; cases h
    simp only [RepA] at *
    exact hx.mono fun j hj => ⟨hok j hj, rfl⟩
  | .rp cs, y, v, h, hx => by
    simp only [conv] at h; cases h
    simp only [RepA] at *
    obtain ⟨b, o, c, h1, h2, h3, h4, h5⟩ := hx
    exact ⟨b, o, c, h1, hok b h2, h3, h4.mono fun j hj => ⟨hok j hj, rfl⟩, h5⟩
theorem convs_ok (r : RelAt C n F s a W hdr ow) (hn : (kp.map Prod.fst).Nodup) (hle : HeapLe kp s.heap H') (hok : ∀ j, OK C W s.heap ow j → okC j) (hb : ∀ id e j, (∀ b, (b, id) ∉ kp) → find s.heap id = some e → ow id = some j → okC j) :
    ∀ (l l' : List AV) (vs : List Value), convs kp s.heap l = some l' → RepAs W (OK C W s.heap ow) hdr s.heap l vs → RepAs W okC (ren hdr default kp) H' l' vs
  | [], l', [], h, _ => by simp [convs] at h; subst h; simp [RepAs]
  | [], l', _ :: _, h, hx => by simp [RepAs] at hx
  | _ :: _, l', [], h, hx => by simp [RepAs] at hx
  | x :: l, l', v :: vs, h, hx => by
    simp only [convs] at h
    simp only [RepAs] at hx
    split at h
    · rename_i y ys h1 h2
      cases h
      simp only [RepAs]
      exact ⟨conv_ok r hn hle hok hb x y v h1 hx.1, convs_ok r hn hle hok hb l ys vs h2 hx.2⟩
    · cases h
end
mutual
theorem conv_men {H : Heap} : ∀ (x y : AV) (i : Nat), conv kp H x = some y → y.men i → ∃ b, (i, b) ∈ kp
  | .h id, y, i, h, hi => by
    simp only [conv] at h
    split at h
    · rename_i b hb; cases h; simp only [AV.men] at hi; subst hi; exact ⟨id, newOf_mem hb⟩
    · split at h
      · cases h; simp [AV.men] at hi
      · cases h
  | .ptr id j o, y, i, h, hi => by
    simp only [conv] at h
    split at h
    · rename_i b hb; cases h; simp only [AV.men] at hi; subst hi; exact ⟨id, newOf_mem hb⟩
    · cases h
  | .fn f l, y, i, h, hi => by
    simp only [conv] at h
    split at h
    · rename_i l' hl; cases h; exact convs_men l l' i hl (by simpa [AV.men] using hi)
    · cases h
  | .tup l, y, i, h, hi => by
    simp only [conv] at h
    split at h
    · rename_i l' hl; cases h; exact convs_men l l' i hl (by simpa [AV.men] using hi)
    · cases h
  | .u, y, i, h, hi => by simp only [conv] at h; cases h; simp [AV.men] at hi
  | .v _, y, i, h, hi => by simp only [conv] at h; cases h; simp [AV.men] at hi
  | .rp _, y, i, h, hi => by simp only [conv] at h; cases h; simp [AV.men] at hi
theorem convs_men {H : Heap} : ∀ (l l' : List AV) (i : Nat), convs kp H l = some l' → AV.mens l' i → ∃ b, (i, b) ∈ kp
  | [], l', i, h, hi => by simp [convs] at h; subst h; simp [AV.mens] at hi
  | x :: l, l', i, h, hi => by
    simp only [convs] at h
    split at h
    · rename_i y ys h1 h2
      cases h
      simp only [AV.mens] at hi
      rcases hi with hi | hi
      · exact conv_men x y i h1 hi
      · exact convs_men l ys i h2 hi
    · cases h
end
end conv

/-- What holds from a state that says less holds from one that says more. -/
theorem Run.weaken (kp : List (Nat × Nat)) (hn : (kp.map Prod.fst).Nodup) (hn2 : (kp.map Prod.snd).Nodup) (hE : EnvLe kp s.heap s.env s'.env) (hH : HeapLe kp s.heap s'.heap) (hnx : ∀ p ∈ kp, p.1 < s'.nx) (hnin : G.nin ≤ s'.nx)
    (hkeep : ∀ j, j < G.nin → (find s'.heap j).isSome = true → find kp j = some j) (h : Run P D G k s') : Run P D G k s := by
  intro C fn a W hdr ow items hC hfn r hm b cs hb hbk
  have hget : ∀ i e, find s'.heap i = some e → ∃ old, find kp i = some old ∧ find s.heap old = some e := fun i e he => heapLe_get hH he
  have hown : ∀ j, Own s'.heap (ren ow none kp) j → ∃ i id e, (i, id) ∈ kp ∧ find s.heap id = some e ∧ ow id = some j := by
    rintro j ⟨i, e, hi, ho⟩
    obtain ⟨old, h1, h2⟩ := hget i e hi
    simp only [ren, h1] at ho
    exact ⟨i, old, e, find_mem h1, h2, ho⟩
  have hok : ∀ j, OK C W s.heap ow j → OK C W s'.heap (ren ow none kp) j := by
    rintro j ⟨h1, h2⟩
    refine ⟨h1, fun h => ?_⟩
    obtain ⟨i, id, e, _, q1, q2⟩ := hown j h
    exact h2 ⟨id, e, q1, q2⟩
  have hokb : ∀ id e j, (∀ b, (b, id) ∉ kp) → find s.heap id = some e → ow id = some j → OK C W s'.heap (ren ow none kp) j := by
    intro id e j hni he hj
    have hlt := r.mem.lt id e j he hj
    refine ⟨⟨.inr hlt.2, hlt.1⟩, fun h => ?_⟩
    obtain ⟨i, id', e', q0, q1, q2⟩ := hown j h
    have := r.mem.inj id id' e e' j he q1 hj q2
    subst this; exact hni i q0
  have hold : ∀ {i i' old : Nat}, (i, old) ∈ kp → (i', old) ∈ kp → i = i' := fun h1 h2 => snd_one hn2 h1 h2
  have r' : RelAt C D.n (· < s'.nx) s' a W (ren hdr default kp) (ren ow none kp) := by
    refine ⟨⟨?_, ?_, ?_, r.mem.size, r.mem.frame, r.mem.os, r.mem.tape, r.mem.output⟩, r.defers, r.tsz, ?_, ?_, ?_, ?_, ?_⟩
    · intro i e he
      obtain ⟨old, h1, h2⟩ := hget i e he
      simp only [ren, h1]
      exact (r.mem.ent old e h2).mono (fun j hj => ⟨hok j hj, rfl⟩) (fun _ _ => rfl)
    · intro i i' e e' j hi hi' hj hj'
      obtain ⟨old, h1, h2⟩ := hget i e hi
      obtain ⟨old', h1', h2'⟩ := hget i' e' hi'
      simp only [ren, h1] at hj
      simp only [ren, h1'] at hj'
      have := r.mem.inj old old' e e' j h2 h2' hj hj'
      subst this
      exact hold (find_mem h1) (find_mem h1')
    · intro i e j hi hj
      obtain ⟨old, h1, h2⟩ := hget i e hi
      simp only [ren, h1] at hj
      exact r.mem.lt old e j h2 hj
    · intro t x hx
      obtain ⟨y, h1, h2⟩ := envLe_get hE hx
      exact conv_ok r hn hH hok hokb y x _ h2 (r.env t y h1)
    · intro t x hx i hi
      obtain ⟨y, h1, h2⟩ := envLe_get hE hx
      obtain ⟨b, hb⟩ := conv_men y x i h2 hi
      exact hnx _ hb
    · intro i e he
      obtain ⟨old, h1, h2⟩ := hget i e he
      exact hnx _ (find_mem h1)
    · intro j hj
      rw [hC] at hj
      show j < s'.nx
      omega
    · intro j hj e he
      rw [hC] at hj
      have h1 := hkeep j hj (by rw [he]; rfl)
      obtain ⟨old, h2, h3⟩ := hget j e he
      rw [h1] at h2; cases h2
      simp only [ren, h1]
      exact r.gh j (by rw [hC]; exact hj) e h3
  exact h C fn a W _ _ items hC hfn r' hm b cs hb hbk

/-- A loop: from the states st i (I i), by what is left (ms i). -/
theorem Run.loop_ind {x : MC} {ι : Type} (I : ι → Prop) (st : ι → St) (ms : ι → Nat) (step : ∀ i, I i → (∀ j, I j → ms j < ms i → Run P D G (.inLoop x :: k) (st j)) → Run P D G (.code x :: .inLoop x :: k) (st i)) :
    ∀ i, I i → Run P D G (.code (.loop x) :: k) (st i) := by
  have key : ∀ (m : Nat) (i : ι), ms i < m → I i → Run P D G (.inLoop x :: k) (st i) := by
    intro m
    induction m with
    | zero => intro i h; omega
    | succ m ih => intro i h hI; exact (step i hI fun j hj hlt => ih j (by omega) hj).inLoop
  intro i hI
  exact (step i hI fun j hj _ => key (ms j + 1) j (Nat.lt_succ_self _) hj).loop

end
end Go.AM
