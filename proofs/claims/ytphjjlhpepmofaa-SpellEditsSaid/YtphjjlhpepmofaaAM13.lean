/- Calls: what a function comes to, and what a caller has of it. -/
import Derived.Test.YtphjjlhpepmofaaAM12
set_option linter.all false
namespace Go.AM
open Go

section congr
variable {P : Program} {C : Cx} {n : Nat} {F : Nat → Prop} {s : St} {a : Act} {W : World} {hdr : Nat → Value} {ow : Nat → Option Nat}

/-- A state tells by its look-ups alone. -/
theorem RelAt.congr (r : RelAt C n F s a W hdr ow) {E : Env} {H : Heap} {m : Nat} (hE : ∀ t x, find E t = some x → find s.env t = some x) (hH : ∀ k, find H k = find s.heap k) : RelAt C n F ⟨E, H, m⟩ a W hdr ow := by
  have hown : ∀ b, Own H ow b ↔ Own s.heap ow b := by intro b; unfold Own; simp only [hH]
  have hok : ∀ b, OK C W s.heap ow b → OK C W H ow b ∧ W.heap[b]? = W.heap[b]? := fun b hb => ⟨⟨hb.1, fun h => hb.2 ((hown b).1 h)⟩, rfl⟩
  have me := r.mem
  refine ⟨⟨?_, ?_, ?_, me.size, me.frame, me.os, me.tape, me.output⟩, r.defers, r.tsz, ?_, fun t x h => r.idsE t x (hE t x h), fun k e h => r.idsH k e (by rw [← hH]; exact h), r.idsG, fun k hk e h => r.gh k hk e (by rw [← hH]; exact h), fun k e c h => r.idsR k e c (by rw [← hH]; exact h)⟩
  · intro k e he; rw [hH] at he; exact (me.ent k e he).mono hok (fun _ _ => rfl) (fun _ _ => rfl)
  · intro k k' e e' b h h'; rw [hH] at h h'; exact me.inj k k' e e' b h h'
  · intro k e b h; rw [hH] at h; exact me.lt k e b h
  · intro t x h; exact RepA.mono hok x _ (fun k _ e he => ⟨e, by rw [← hH]; exact he, rfl, rfl⟩) (r.env t x (hE t x h))
end congr

/-- What a function comes to: handed args and the rows H (numbered from 0), it returns res, and the rows are then H'. -/
def FOk (P : Program) (f : FuncId) (args : List AV) (H : Heap) (res : AV) (H' : Heap) : Prop :=
  (∀ (as : Array Value) (W : World), (callFunc f as).run P W = .ok (.enter f as) W) ∧
  ∀ (W : World) (ok0 : Nat → Prop) (vals : List Value) (hdr : Nat → Value) (ow : Nat → Option Nat), Mem (Cx.of W (ok0) (Own H ow)) W H hdr ow → RepAs W (OK (Cx.of W (ok0) (Own H ow)) W H ow) hdr H args vals →
    Calls P f vals.toArray W fun e W' => ∃ v hdr' ow', e = .returned v ∧ Mem (Cx.of W (ok0) (Own H ow)) W' H' hdr' ow' ∧ RepA W' (OK (Cx.of W (ok0) (Own H ow)) W' H' ow') hdr' H' res v ∧
      ∀ k e e', find H k = some e → find H' k = some e' → hdr' k = hdr k ∧ e'.sz = e.sz

/-! ### Handing over -/
def idx (ids : List Nat) (id : Nat) (k : Nat := 0) : Option Nat :=
  match ids with
  | [] => none
  | j :: l => if j = id then some k else idx l id (k + 1)

def passH (H : Heap) : Nat → List Nat → Heap
  | _, [] => []
  | k, id :: l => match find H id with
    | some e => (k, e) :: passH H (k + 1) l
    | none => passH H (k + 1) l

mutual
/-- What is handed over but not as a row of its own is written no more. -/
def frz (ids : List Nat) (H : Heap) : AV → Heap
  | .h id => match idx ids id with
    | some _ => H
    | none => match find H id with
      | some e => if e.fro = true ∨ e.sz = 0 then H else setIn H id { e with fro := true }
      | none => H
  | .fn _ l => frzs ids H l
  | .u => H
  | .v _ => H
  | .ptr _ _ _ => H
  | .rp _ => H
  | .tup _ => H
def frzs (ids : List Nat) (H : Heap) : List AV → Heap
  | [] => H
  | x :: l => frzs ids (frz ids H x) l
end

mutual
/-- An argument as the callee has it. b: a row may be lent (the result bears no row). -/
def passA (b : Bool) (H : Heap) (ids : List Nat) : AV → Option AV
  | .h id => match idx ids id with
    | some k => some (.h k)
    | none => match find H id with
      | some e => if e.sz = 0 then none else if e.fro = true ∨ b = true then some (.v (.sl e.sz e.l)) else none
      | none => none
  | .ptr id i o => match idx ids id with
    | some k => some (.ptr k i o)
    | none => none
  | .fn f l => match passAs b H ids l with
    | some l => some (.fn f l)
    | none => none
  | .u => some .u
  | .v p => some (.v p)
  | .rp cs => some (.rp cs)
  | .tup _ => none
def passAs (b : Bool) (H : Heap) (ids : List Nat) : List AV → Option (List AV)
  | [] => some []
  | x :: l => match passA b H ids x, passAs b H ids l with
    | some y, some ys => some (y :: ys)
    | _, _ => none
end

/-- The caller's number of a row. -/
def bk (ids : List Nat) (base k : Nat) : Nat := match ids[k]? with | some id => id | none => base + 1024 * (k - ids.length)

mutual
def backA (ids : List Nat) (base : Nat) : AV → AV
  | .h k => .h (bk ids base k)
  | .ptr k i o => .ptr (bk ids base k) i o
  | .fn f l => .fn f (backAs ids base l)
  | .tup l => .tup (backAs ids base l)
  | .u => .u
  | .v p => .v p
  | .rp cs => .rp cs
def backAs (ids : List Nat) (base : Nat) : List AV → List AV
  | [] => []
  | x :: l => backA ids base x :: backAs ids base l
end

def strikes (H : Heap) : List Nat → Heap
  | [] => H
  | id :: l => strikes (strike H id) l

def outH (H : Heap) (ids : List Nat) (base : Nat) (Hout : Heap) : Heap := Hout.map (fun p => (bk ids base p.1, p.2)) ++ strikes H ids

def fnOf : AV → Option (FuncId × List AV)
  | .fn f l => some (f, l)
  | .v (.w (.func (.func f) a b)) => if a.size = 0 ∧ b.size = 0 then some (f, []) else none
  | _ => none

mutual
def flatA : AV → Bool
  | .v (.w _) => true
  | .tup l => flatAs l
  | .u => true
  | .fn _ l => flatAs l
  | .v (.sl _ _) => false
  | .v (.st cs) => cs.all fun p => match p with | .w _ => true | _ => false
  | .h _ => false
  | .ptr _ _ _ => false
  | .rp _ => false
def flatAs : List AV → Bool
  | [] => true
  | x :: l => flatA x && flatAs l
end

/-- A call, with rows handed over (ids). -/
inductive CallOk (P : Program) (s : St) (d : Nat) (f : Opd) (args : List Opd) : St → Prop
  | rows {u : AV} {fid : FuncId} {caps as ys : List AV} {ids : List Nat} {res : AV} {Hout Hn : Heap} : ev s.env f = some u → fnOf u = some (fid, caps) → evs s.env args = some as →
      passAs false (frzs ids s.heap (as ++ caps)) ids (as ++ caps) = some ys → ids.Nodup → (∀ id ∈ ids, ∃ e, find s.heap id = some e ∧ e.sz ≠ 0) →
      FOk P fid ys (passH (frzs ids s.heap (as ++ caps)) 0 ids) res Hout → (∀ p ∈ Hout, p.1 < ids.length + 8 ∧ p.2.sz ≠ 0) → (∀ k, res.men k → k < ids.length + 8) →
      (∀ k, find Hn k = find (outH (frzs ids s.heap (as ++ caps)) ids (s.nx + d) Hout) k) →
      CallOk P s d f args ⟨(d, backA ids (s.nx + d) res) :: s.env, Hn, s.nx⟩
  | lent {u : AV} {fid : FuncId} {caps as ys : List AV} {res : AV} : ev s.env f = some u → fnOf u = some (fid, caps) → evs s.env args = some as →
      passAs true s.heap [] (as ++ caps) = some ys → FOk P fid ys [] res [] → flatA res = true → CallOk P s d f args ⟨(d, res) :: s.env, s.heap, s.nx⟩

section
variable {P : Program} {C : Cx} {n : Nat} {F : Nat → Prop} {s : St} {a : Act} {W : World} {hdr : Nat → Value} {ow : Nat → Option Nat} {id : Nat} {o : Oper}

/-- A row is frozen: what lies under each number. -/
def Frzd (H H' : Heap) : Prop := ∀ k, (∀ e, find H' k = some e → ∃ e0, find H k = some e0 ∧ e0.sz = e.sz ∧ e0.l = e.l) ∧ (∀ e0, find H k = some e0 → ∃ e, find H' k = some e)

theorem Frzd.refl (H : Heap) : Frzd H H := fun k => ⟨fun e h => ⟨e, h, rfl, rfl⟩, fun e h => ⟨e, h⟩⟩
theorem Frzd.trans {H H1 H2 : Heap} (h : Frzd H H1) (h' : Frzd H1 H2) : Frzd H H2 := fun k =>
  ⟨fun e he => by
    obtain ⟨e1, h1, h2, h3⟩ := (h' k).1 e he
    obtain ⟨e0, h4, h5, h6⟩ := (h k).1 e1 h1
    exact ⟨e0, h4, h5.trans h2, h6.trans h3⟩, fun e he => by
    obtain ⟨e1, h1⟩ := (h k).2 e he
    exact (h' k).2 e1 h1⟩

theorem Frzd.setIn {H : Heap} {id : Nat} {e : Ent} (he : find H id = some e) : Frzd H (setIn H id { e with fro := true }) := by
  intro k
  constructor
  · intro y hk
    rw [find_setIn] at hk
    by_cases hki : k = id
    · subst hki; rw [if_pos rfl, he] at hk; simp at hk; subst hk; exact ⟨e, he, rfl, rfl⟩
    · rw [if_neg hki] at hk; exact ⟨y, hk, rfl, rfl⟩
  · intro y hk
    rw [find_setIn]
    by_cases hki : k = id
    · subst hki; rw [if_pos rfl, he]; exact ⟨_, rfl⟩
    · rw [if_neg hki]; exact ⟨y, hk⟩

mutual
theorem frz_ok (ids : List Nat) : ∀ (x : AV) (s : St) (ow : Nat → Option Nat), RelAt C n F s a W hdr ow → ∃ ow', RelAt C n F { s with heap := frz ids s.heap x } a W hdr ow' ∧ Frzd s.heap (frz ids s.heap x)
  | .h id, s, ow, r => by
    simp only [frz]
    split
    · exact ⟨ow, r, Frzd.refl _⟩
    · split
      · rename_i e he
        split
        · exact ⟨ow, r, Frzd.refl _⟩
        · rename_i hz; exact ⟨_, r.freeze he (fun h => hz (.inr h)), Frzd.setIn he⟩
      · exact ⟨ow, r, Frzd.refl _⟩
  | .fn f l, s, ow, r => by simp only [frz]; exact frzs_ok ids l s ow r
  | .u, s, ow, r => by simp only [frz]; exact ⟨ow, r, Frzd.refl _⟩
  | .v _, s, ow, r => by simp only [frz]; exact ⟨ow, r, Frzd.refl _⟩
  | .ptr _ _ _, s, ow, r => by simp only [frz]; exact ⟨ow, r, Frzd.refl _⟩
  | .rp _, s, ow, r => by simp only [frz]; exact ⟨ow, r, Frzd.refl _⟩
  | .tup _, s, ow, r => by simp only [frz]; exact ⟨ow, r, Frzd.refl _⟩
theorem frzs_ok (ids : List Nat) : ∀ (l : List AV) (s : St) (ow : Nat → Option Nat), RelAt C n F s a W hdr ow → ∃ ow', RelAt C n F { s with heap := frzs ids s.heap l } a W hdr ow' ∧ Frzd s.heap (frzs ids s.heap l)
  | [], s, ow, r => by simp only [frzs]; exact ⟨ow, r, Frzd.refl _⟩
  | x :: l, s, ow, r => by
    simp only [frzs]
    obtain ⟨ow1, r1, h1⟩ := frz_ok ids x s ow r
    obtain ⟨ow2, r2, h2⟩ := frzs_ok ids l _ ow1 r1
    exact ⟨ow2, r2, h1.trans h2⟩
end

theorem idx_get : ∀ {ids : List Nat} {id k0 k : Nat}, idx ids id k0 = some k → k0 ≤ k ∧ ids[k - k0]? = some id
  | [], _, _, _, h => by simp [idx] at h
  | j :: l, id, k0, k, h => by
    simp only [idx] at h
    split at h
    · rename_i hj; cases h; simp [hj]
    · obtain ⟨h1, h2⟩ := idx_get h
      refine ⟨by omega, ?_⟩
      rw [show k - k0 = (k - (k0 + 1)) + 1 by omega, List.getElem?_cons_succ]; exact h2

theorem idx_none : ∀ {ids : List Nat} {id k0 : Nat}, idx ids id k0 = none → id ∉ ids
  | [], _, _, _ => by simp
  | j :: l, id, k0, h => by
    simp only [idx] at h
    split at h
    · cases h
    · rename_i hj; intro hm; rcases List.mem_cons.1 hm with rfl | hm; exact hj rfl; exact idx_none h hm

theorem find_passH (H : Heap) : ∀ (ids : List Nat) (k0 k : Nat), find (passH H k0 ids) k = if k0 ≤ k then (ids[k - k0]?).bind (find H) else none
  | [], k0, k => by simp [passH, find]
  | id :: l, k0, k => by
    have ih := find_passH H l (k0 + 1) k
    have hk : ∀ v : Option Ent, (match v with | some e => (k0, e) :: passH H (k0 + 1) l | none => passH H (k0 + 1) l) = (match v with | some e => [(k0, e)] | none => []) ++ passH H (k0 + 1) l := by intro v; cases v <;> rfl
    simp only [passH]
    by_cases h : k = k0
    · subst h
      cases hf : find H id with
      | some e => simp [find, hf]
      | none => simp [ih, hf]; intro hlt; omega
    · have : ∀ e, find ((k0, e) :: passH H (k0 + 1) l) k = find (passH H (k0 + 1) l) k := by intro e; rw [find_cons, if_neg h]
      have hh : find (match find H id with | some e => (k0, e) :: passH H (k0 + 1) l | none => passH H (k0 + 1) l) k = find (passH H (k0 + 1) l) k := by
        cases find H id with
        | some e => exact this e
        | none => rfl
      rw [hh, ih]
      by_cases h2 : k0 ≤ k
      · rw [if_pos (by omega), if_pos h2, show k - k0 = (k - (k0 + 1)) + 1 by omega, List.getElem?_cons_succ]
      · rw [if_neg (by omega), if_neg h2]

/-- The callee's words for the rows. -/
theorem find_in {H : Heap} {ids : List Nat} {k : Nat} {e : Ent} (h : find (passH H 0 ids) k = some e) : ∃ id, ids[k]? = some id ∧ find H id = some e := by
  rw [find_passH, if_pos (by omega), Nat.sub_zero] at h
  exact Option.bind_eq_some_iff.1 h

theorem evs_ok' (r : RelAt C n F s a W hdr ow) : ∀ {xs : List (Operand × TypeId)} {ys : List Opd} {l : List AV}, mapO (fun q => opd P q.2 q.1) xs = some ys → evs s.env ys = some l →
    RepAs W (OK C W s.heap ow) hdr s.heap l (xs.map fun q => a.eval q.1) ∧ ∀ i, AV.mens l i → F i
  | [], ys, l, hx, hl => by simp [mapO] at hx; subst hx; simp [evs] at hl; subst hl; simp [RepAs, AV.mens]
  | x :: xs, ys, l, hx, hl => by
    simp only [mapO] at hx
    split at hx
    · rename_i y ys' h1 h2
      cases hx
      simp only [evs] at hl
      split at hl
      · rename_i u us h3 h4
        cases hl
        obtain ⟨r1, r2⟩ := opd_ok r h1 h3
        obtain ⟨r3, r4⟩ := evs_ok' r h2 h4
        exact ⟨by simp only [List.map_cons, RepAs]; exact ⟨r1, r3⟩, fun i hi => by simp only [AV.mens] at hi; exact hi.elim (r2 i) (r4 i)⟩
      · cases hl
    · cases hx

section pass
variable {b : Bool} {ids : List Nat} {okC : Nat → Prop}

/-- The arguments, as the callee has them. -/
def hdrI (hdr : Nat → Value) (ids : List Nat) (k : Nat) : Value := match ids[k]? with | some id => hdr id | none => default
def owI (ow : Nat → Option Nat) (ids : List Nat) (k : Nat) : Option Nat := match ids[k]? with | some id => ow id | none => none

mutual
theorem passA_ok (r : RelAt C n F s a W hdr ow) (hok : ∀ j, OK C W s.heap ow j → okC j) (hb : b = true → ∀ id e j, id ∉ ids → find s.heap id = some e → ow id = some j → okC j) :
    ∀ (x y : AV) (v : Value), passA b s.heap ids x = some y → RepA W (OK C W s.heap ow) hdr s.heap x v → RepA W okC (hdrI hdr ids) (passH s.heap 0 ids) y v
  | .h id, y, v, h, hx => by
    simp only [passA] at h
    simp only [RepA] at hx
    split at h
    · rename_i k hk
      cases h
      simp only [RepA]
      intro e he
      obtain ⟨id', h1, h2⟩ := find_in he
      obtain ⟨_, h3⟩ := idx_get hk
      rw [Nat.sub_zero] at h3
      rw [h3] at h1; cases h1
      rw [hx e h2]; simp [hdrI, h3]
    · split at h
      · rename_i e he
        split at h
        · cases h
        rename_i hz
        split at h
        · rename_i hfb
          cases h
          simp only [RepA]
          rw [hx e he]
          by_cases hfr : e.fro = true
          · rcases (r.mem.ent id e he).plain hz with ⟨_, h2, _⟩ | ⟨h1, _, ao, h3⟩ | ⟨h1, _⟩
            · exact RepV.sl (h2.mono fun j hj => ⟨hok j hj, rfl⟩)
            · rw [h1, h3]; exact RepV.sl .nil
            · rw [hfr] at h1; cases h1
          · have hb' := hb (hfb.resolve_left hfr)
            exact RepV.sl (((r.mem.ent id e he).plain hz).shared hok fun j hj => hb' id e j (idx_none ‹idx ids id = none›) he hj)
        · cases h
      · cases h
  | .ptr id i off, y, v, h, hx => by
    simp only [passA] at h
    simp only [RepA] at hx
    split at h
    · rename_i k hk
      cases h
      simp only [RepA]
      intro e he
      obtain ⟨id', h1, h2⟩ := find_in he
      obtain ⟨_, h3⟩ := idx_get hk
      rw [Nat.sub_zero] at h3
      rw [h3] at h1; cases h1
      simpa [hdrI, h3] using hx e h2
    · cases h
  | .fn f l, y, v, h, hx => by
    simp only [passA] at h
    simp only [RepA] at hx
    split at h
    · rename_i l' hl
      cases h
      simp only [RepA]
      obtain ⟨vs, h1, h2⟩ := hx
      exact ⟨vs, h1, passAs_ok r hok hb l l' vs hl h2⟩
    · cases h
  | .u, y, v, h, hx => by simp only [passA] at h; cases h; simp [RepA]
  | .v p, y, v, h, hx => by
    simp only [passA] at h; cases h
    simp only [RepA] at *
    exact hx.mono fun j hj => ⟨hok j hj, rfl⟩
  | .rp cs, y, v, h, hx => by
    simp only [passA] at h; cases h
    simp only [RepA] at *
    obtain ⟨b, o, c, h1, h2, h3, h4, h5⟩ := hx
    exact ⟨b, o, c, h1, hok b h2, h3, h4.mono fun j hj => ⟨hok j hj, rfl⟩, h5⟩
  | .tup l, y, v, h, hx => by simp [passA] at h
theorem passAs_ok (r : RelAt C n F s a W hdr ow) (hok : ∀ j, OK C W s.heap ow j → okC j) (hb : b = true → ∀ id e j, id ∉ ids → find s.heap id = some e → ow id = some j → okC j) :
    ∀ (l l' : List AV) (vs : List Value), passAs b s.heap ids l = some l' → RepAs W (OK C W s.heap ow) hdr s.heap l vs → RepAs W okC (hdrI hdr ids) (passH s.heap 0 ids) l' vs
  | [], l', [], h, _ => by simp [passAs] at h; subst h; simp [RepAs]
  | [], l', _ :: _, h, hx => by simp [RepAs] at hx
  | _ :: _, l', [], h, hx => by simp [RepAs] at hx
  | x :: l, l', v :: vs, h, hx => by
    simp only [passAs] at h
    simp only [RepAs] at hx
    split at h
    · rename_i y ys h1 h2
      cases h
      simp only [RepAs]
      exact ⟨passA_ok r hok hb x y v h1 hx.1, passAs_ok r hok hb l ys vs h2 hx.2⟩
    · cases h
end
end pass

/-- The callee finds its rows. -/
theorem mem_in (r : RelAt C n F s a W hdr ow) {ids : List Nat} (hn : ids.Nodup) (ok0 : Nat → Prop) (h0 : ∀ j, OK C W s.heap ow j → ok0 j) (hz : ∀ id ∈ ids, ∀ e, find s.heap id = some e → e.sz ≠ 0) :
    Mem (Cx.of W (ok0) (Own (passH s.heap 0 ids) (owI ow ids))) W (passH s.heap 0 ids) (hdrI hdr ids) (owI ow ids) := by
  have hown : ∀ j, Own (passH s.heap 0 ids) (owI ow ids) j → Own s.heap ow j := by
    rintro j ⟨k, e, hk, ho⟩
    obtain ⟨id, h1, h2⟩ := find_in hk
    simp only [owI, h1] at ho
    exact ⟨id, e, h2, ho⟩
  refine ⟨?_, ?_, ?_, Nat.le_refl _, fun _ _ _ => rfl, rfl, rfl, rfl⟩
  · intro k e he
    obtain ⟨id, h1, h2⟩ := find_in he
    simp only [hdrI, owI, h1]
    exact (r.mem.ent id e h2).mono (fun j hj => ⟨⟨⟨.inl (h0 j hj), hj.1.2⟩, fun h => hj.2 (hown j h)⟩, rfl⟩) (fun _ _ => rfl) (fun c hc => by rw [Ent.ref_none (hz id (List.mem_of_getElem? h1) e h2)] at hc; cases hc)
  · intro k k' e e' b hk hk' hb hb'
    obtain ⟨id, h1, h2⟩ := find_in hk
    obtain ⟨id', h1', h2'⟩ := find_in hk'
    simp only [owI, h1] at hb
    simp only [owI, h1'] at hb'
    have := r.mem.inj id id' e e' b h2 h2' hb hb'
    subst this
    obtain ⟨g1, g2⟩ := List.getElem?_eq_some_iff.1 h1
    obtain ⟨g3, g4⟩ := List.getElem?_eq_some_iff.1 h1'
    exact (List.getElem_inj hn).1 (g2.trans g4.symm)
  · intro k e b hk hb
    obtain ⟨id, h1, h2⟩ := find_in hk
    refine ⟨?_, .inl ⟨k, e, hk, hb⟩⟩
    simp only [owI, h1] at hb
    exact (r.mem.lt id e b h2 hb).1

end
end Go.AM
