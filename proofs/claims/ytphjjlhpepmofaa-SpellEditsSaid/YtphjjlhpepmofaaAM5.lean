/- What the operands and the rows are in the world. -/
import Derived.Test.YtphjjlhpepmofaaAM4
set_option linter.all false
namespace Go.AM
open Go

theorem scal_cell {v : Value} (h : scal v = true) : v.cells = #[v] ∧ v.oneCell' = true := by
  cases v <;> first | (simp [scal] at h; done) | exact ⟨rfl, rfl⟩

section
variable {W : World} {ok : Nat → Prop}

theorem RepC.slInv {sz : Nat} {l : List PV} {vs : List Value} (r : RepC W ok (.sl sz l) vs) :
    (l = [] ∧ ∃ ao, vs = [.slice ao 0 0]) ∨ ∃ b off cap c, vs = [.slice (some ⟨b, off, none⟩) l.length cap] ∧ ok b ∧ World.row W b c ∧ off + cap * sz ≤ c.length ∧ l.length ≤ cap ∧
      RepL W ok sz l ((c.drop off).take (l.length * sz)) := by
  cases r with
  | nil => exact .inl ⟨rfl, _, rfl⟩
  | sl h1 h2 h3 h4 h5 => exact .inr ⟨_, _, _, _, rfl, h1, h2, h3, h4, h5⟩

theorem RepV.slInv {sz : Nat} {l : List PV} {v : Value} (r : RepV W ok (.sl sz l) v) : RepC W ok (.sl sz l) [v] := by
  unfold RepV at r; simpa using r

theorem RepV.sl {sz : Nat} {l : List PV} {v : Value} (r : RepC W ok (.sl sz l) [v]) : RepV W ok (.sl sz l) v := by
  unfold RepV; simpa using r

theorem RepV.wInv {u v : Value} (r : RepV W ok (.w u) v) : v = u ∧ scal u = true := by
  unfold RepV at r
  simp only [PV.isSt, Bool.false_eq_true, if_false] at r
  cases r with | w h => exact ⟨rfl, h⟩

theorem RepV.w {v : Value} (h : scal v = true) : RepV W ok (.w v) v := by
  unfold RepV; simpa using RepC.w h

theorem RepV.stInv {cs : List PV} {v : Value} (r : RepV W ok (.st cs) v) : ∃ vs : List Value, v = .agg vs.toArray ∧ RepL W ok 1 cs vs ∧ ∀ p ∈ cs, p.isSt = false := by
  unfold RepV at r
  simp only [PV.isSt, if_true] at r
  obtain ⟨vs, e, r⟩ := r
  cases r with | st h r => exact ⟨vs, e, r, h⟩

theorem RepV.st {cs : List PV} {vs : List Value} (r : RepL W ok 1 cs vs) (h : ∀ p ∈ cs, p.isSt = false) : RepV W ok (.st cs) (.agg vs.toArray) := by
  unfold RepV; simp only [PV.isSt, if_true]; exact ⟨vs, rfl, .st h r⟩

/-- The cells of a value. -/
theorem RepC.cells {p : PV} {vs : List Value} (r : RepC W ok p vs) : RepL W ok 1 p.cells vs ∧ ∀ q ∈ p.cells, q.isSt = false := by
  cases r with
  | w h => exact ⟨by simpa using RepL.one (RepC.w (W := W) (ok := ok) h), by simp⟩
  | nil => rename_i sz ao; exact ⟨by simpa using RepL.one (RepC.nil (W := W) (ok := ok) (sz := sz) (ao := ao)), by simp⟩
  | sl h1 h2 h3 h4 h5 => exact ⟨by simpa using RepL.one (RepC.sl h1 h2 h3 h4 h5), by simp⟩
  | st h r => exact ⟨r, h⟩

theorem RepL.oneCell {cs : List PV} {vs : List Value} (r : RepL W ok 1 cs vs) (h : ∀ p ∈ cs, p.isSt = false) : ∀ v ∈ vs, v.oneCell' = true := by
  induction cs generalizing vs with
  | nil => cases r; simp
  | cons p l ih =>
    cases r with
    | cons h1 r0 r =>
      intro v hv
      rcases List.mem_append.1 hv with hv | hv
      · have hp := h p (by simp)
        cases r0 with
        | w hw => simp at hv; subst hv; exact (scal_cell hw).2
        | nil => simp at hv; subst hv; rfl
        | sl => simp at hv; subst hv; rfl
        | st => simp at hp
      · exact ih r (fun q hq => h q (by simp [hq])) v hv

theorem RepV.oneCell {p : PV} {v : Value} (r : RepV W ok p v) (h : p.isSt = false) : v.oneCell' = true ∧ v.cells = #[v] ∧ RepC W ok p [v] := by
  unfold RepV at r
  rw [h] at r
  simp only [Bool.false_eq_true, if_false] at r
  refine ⟨?_, ?_, r⟩
  · cases r with
    | w hw => exact (scal_cell hw).2
    | nil => rfl
    | sl => rfl
    | st => simp at h
  · cases r with
    | w hw => exact (scal_cell hw).1
    | nil => rfl
    | sl => rfl
    | st => simp at h

/-- The cells of an operand. -/
theorem RepV.toC {p : PV} {v : Value} (r : RepV W ok p v) : RepC W ok p v.cells.toList := by
  by_cases h : p.isSt = true
  · cases p with
    | st cs => obtain ⟨vs, rfl, r, hs⟩ := r.stInv; exact .st hs (by simpa [Value.cells] using r)
    | _ => simp at h
  · obtain ⟨h1, h2, h3⟩ := r.oneCell (by simpa using h)
    rw [h2]; exact h3

theorem RepL.get1 {cs : List PV} {vs : List Value} (r : RepL W ok 1 cs vs) {i : Nat} {p : PV} (h : cs[i]? = some p) : ∃ v, vs[i]? = some v ∧ RepC W ok p [v] := by
  obtain ⟨r1, r2⟩ := r.get h
  simp only [Nat.mul_one] at r1 r2
  have hi : i < vs.length := by omega
  refine ⟨vs[i], List.getElem?_eq_getElem hi, ?_⟩
  have e : (vs.drop i).take 1 = [vs[i]] := by
    rw [List.drop_eq_getElem_cons hi, List.take_succ_cons, List.take_zero]
  rw [e] at r1; exact r1

theorem RepV.ofC {p : PV} {v : Value} (r : RepC W ok p [v]) (h : p.isSt = false) : RepV W ok p v := by
  unfold RepV; rw [h]; simpa using r

/-- Reading a part of a row of cells. -/
theorem cellRd_ok {cs : List PV} {vs : List Value} {agg : Bool} {off sz : Nat} {p : PV} (r : RepL W ok 1 cs vs) (hs : ∀ p ∈ cs, p.isSt = false) (h : cellRd cs agg off sz = some p) :
    if agg = true then RepV W ok p (.agg ((vs.drop off).take sz).toArray) ∧ off + sz ≤ vs.length else ∃ v, vs[off]? = some v ∧ RepV W ok p v := by
  unfold cellRd at h
  by_cases ha : agg = true
  · rw [if_pos ha] at h ⊢
    by_cases hl : off + sz ≤ cs.length
    · rw [if_pos hl] at h
      simp only [Option.some.injEq] at h
      subst h
      have hlen := r.length
      refine ⟨RepV.st ?_ (fun q hq => hs q (List.mem_of_mem_drop (List.mem_of_mem_take hq))), by omega⟩
      have := (r.drop off).take sz
      simpa using this
    · rw [if_neg hl] at h; cases h
  · rw [if_neg ha] at h ⊢
    obtain ⟨v, h1, h2⟩ := r.get1 h
    exact ⟨v, h1, RepV.ofC h2 (hs p (List.mem_of_getElem? h))⟩

end

section
variable {P : Program} {C : Cx} {n : Nat} {F : Nat → Prop} {s : St} {a : Act} {W : World} {hdr : Nat → Value} {ow : Nat → Option Nat}

theorem constC_ok {ok : Nat → Prop} {v : Value} {p : PV} (h : constC v = some p) : RepC W ok p [v] ∧ p.isSt = false := by
  unfold constC at h
  split at h
  · cases h; exact ⟨.nil, rfl⟩
  · split at h
    · rename_i hs; cases h; exact ⟨.w hs, rfl⟩
    · cases h

theorem mapO_consts {ok : Nat → Prop} {vs : List Value} {ps : List PV} (h : mapO constC vs = some ps) : RepL W ok 1 ps vs ∧ ∀ p ∈ ps, p.isSt = false := by
  induction vs generalizing ps with
  | nil => simp [mapO] at h; subst h; exact ⟨.nil, by simp⟩
  | cons v vs ih =>
    simp only [mapO] at h
    split at h
    · rename_i y ys h1 h2
      cases h
      obtain ⟨r1, r2⟩ := constC_ok (W := W) (ok := ok) h1
      obtain ⟨r3, r4⟩ := ih h2
      exact ⟨RepL.cons rfl r1 r3, by intro p hp; rcases List.mem_cons.1 hp with rfl | hp; exact r2; exact r4 p hp⟩
    · cases h

theorem constP_ok {ok : Nat → Prop} {t : TypeId} {v : Value} {p : PV} (h : constP P t v = some p) : RepV W ok p v := by
  unfold constP at h
  split at h
  · cases h; exact RepV.sl .nil
  · rename_i cs
    cases e : mapO constC cs.toList with
    | none => rw [e] at h; cases h
    | some ps =>
      rw [e] at h; cases h
      obtain ⟨r1, r2⟩ := mapO_consts (W := W) (ok := ok) e
      have := RepV.st r1 r2
      simpa using this
  · split at h
    · rename_i hs; cases h; exact RepV.w hs
    · cases h

theorem opd_ok (r : RelAt C n F s a W hdr ow) {t : TypeId} {x : Operand} {y : Opd} {av : AV} (h : opd P t x = some y) (he : ev s.env y = some av) :
    RepA W (OK C W s.heap ow) hdr s.heap av (a.eval x) ∧ ∀ id, av.men id → F id := by
  unfold opd at h
  split at h
  · cases h; simp only [ev] at he; exact ⟨r.env _ _ he, r.idsE _ _ he⟩
  · cases h; simp only [ev] at he; cases he; exact ⟨by simp only [RepA]; exact ⟨[], rfl, by simp [RepAs]⟩, by simp [AV.men, AV.mens]⟩
  · rename_i f x y
    split at h
    · rename_i hh; cases h; simp only [ev] at he; cases he
      refine ⟨by simp only [RepA]; refine ⟨[], ?_, by simp [RepAs]⟩; simp only [Act.eval]; congr 1; exact Array.eq_empty_of_size_eq_zero hh.1; exact Array.eq_empty_of_size_eq_zero hh.2, by simp [AV.men, AV.mens]⟩
    · cases h
  · rename_i v _
    cases e : constP P t v with
    | none => rw [e] at h; cases h
    | some p =>
      rw [e] at h; cases h; simp only [ev] at he; cases he
      exact ⟨by simp only [RepA]; exact constP_ok e, by simp [AV.men]⟩
  · cases h

theorem rdRow_h {H : Heap} {id sz : Nat} {l : List PV} (h : rdRow H (.h id) = some (sz, l)) : ∃ e, find H id = some e ∧ e.sz ≠ 0 ∧ e.sz = sz ∧ e.l = l := by
  simp only [rdRow] at h
  split at h
  · rename_i e he
    split at h
    · cases h
    · rename_i hz; cases h; exact ⟨e, he, hz, rfl, rfl⟩
  · cases h

/-- What a row is. -/
theorem rdRow_ok (r : RelAt C n F s a W hdr ow) {x : AV} {v : Value} {sz : Nat} {l : List PV} (hx : RepA W (OK C W s.heap ow) hdr s.heap x v) (h : rdRow s.heap x = some (sz, l)) :
    RepC W (fun b => b < W.heap.size) (.sl sz l) [v] := by
  cases x with
  | v p =>
    cases p with
    | sl sz' l' =>
      simp only [rdRow, Option.some.injEq, Prod.mk.injEq] at h
      obtain ⟨rfl, rfl⟩ := h
      simp only [RepA] at hx
      exact hx.slInv.mono fun b hb => ⟨hb.1.2, rfl⟩
    | _ => simp [rdRow] at h
  | h id =>
    obtain ⟨e, he, hz, rfl, rfl⟩ := rdRow_h h
    simp only [RepA] at hx
    rw [hx e he]
    exact ((r.mem.ent id e he).plain hz).shared (fun b hb => hb.1.2) (fun b hb => (r.mem.lt id e b he hb).1)
  | _ => simp [rdRow] at h

/-- A value that is kept. -/
theorem tov_ok (r : RelAt C n F s a W hdr ow) {x : AV} {v : Value} {p : PV} {H' : Heap} (hx : RepA W (OK C W s.heap ow) hdr s.heap x v) {q : Bool} (h : tov q s.heap x = some (p, H')) :
    ∃ ow', RelAt C n F { s with heap := H' } a W hdr ow' ∧ RepV W (OK C W H' ow') p v ∧ (∀ b, OK C W s.heap ow b → OK C W H' ow' b) ∧
      (∀ k e, find H' k = some e → ∃ e0, find s.heap k = some e0 ∧ e0.sz = e.sz ∧ e0.l = e.l) := by
  cases x with
  | v q' =>
    simp only [tov, Option.some.injEq, Prod.mk.injEq] at h
    obtain ⟨rfl, rfl⟩ := h
    simp only [RepA] at hx
    exact ⟨ow, r, hx, fun b hb => hb, fun k e he => ⟨e, he, rfl, rfl⟩⟩
  | h id =>
    simp only [tov] at h
    cases he : find s.heap id with
    | none => rw [he] at h; cases h
    | some e =>
      rw [he] at h
      simp only at h
      simp only [RepA] at hx
      rw [hx e he]
      by_cases hz : e.sz = 0
      · rw [if_pos hz] at h; cases h
      rw [if_neg hz] at h
      by_cases hf : e.fro = true
      · rw [if_pos hf] at h
        simp only [Option.some.injEq, Prod.mk.injEq] at h
        obtain ⟨rfl, rfl⟩ := h
        refine ⟨ow, r, ?_, fun b hb => hb, fun k e he => ⟨e, he, rfl, rfl⟩⟩
        rcases (r.mem.ent id e he).plain hz with ⟨_, h2, _⟩ | ⟨h1, _, ao, h3⟩ | ⟨h1, _⟩
        · exact RepV.sl h2
        · rw [h1, h3]; exact RepV.sl .nil
        · rw [hf] at h1; cases h1
      · rw [if_neg hf] at h
        by_cases hq : q = true
        · rw [if_pos hq] at h; cases h
        rw [if_neg hq] at h
        simp only [Option.some.injEq, Prod.mk.injEq] at h
        obtain ⟨rfl, rfl⟩ := h
        have r2 := r.freeze he hz
        have hfd : find (setIn s.heap id { e with fro := true }) id = some { e with fro := true } := by rw [find_setIn, if_pos rfl, he]; rfl
        refine ⟨_, r2, ?_, ?_, ?_⟩
        · rcases (r2.mem.ent id _ hfd).plain hz with ⟨_, h2, _⟩ | ⟨h1, _, ao, h3⟩ | ⟨h1, _⟩
          · exact RepV.sl h2
          · simp only at h1; rw [h1, h3]; exact RepV.sl .nil
          · cases h1
        · rintro k ⟨h1, h2⟩
          refine ⟨h1, ?_⟩
          rintro ⟨j, y, hj, ho⟩
          simp only [upd] at ho
          by_cases hji : j = id
          · rw [if_pos hji] at ho; cases ho
          · rw [if_neg hji] at ho
            rw [find_setIn, if_neg hji] at hj
            exact h2 ⟨j, y, hj, ho⟩
        · intro k y hk
          rw [find_setIn] at hk
          by_cases hki : k = id
          · subst hki; rw [if_pos rfl, he] at hk; simp at hk; subst hk; exact ⟨e, he, rfl, rfl⟩
          · rw [if_neg hki] at hk; exact ⟨y, hk, rfl, rfl⟩
  | fn f caps =>
    cases caps with
    | nil =>
      simp only [tov, Option.some.injEq, Prod.mk.injEq] at h
      obtain ⟨rfl, rfl⟩ := h
      simp only [RepA] at hx
      obtain ⟨vs, rfl, hvs⟩ := hx
      cases vs with
      | nil => exact ⟨ow, r, RepV.w (by simp [scal]), fun b hb => hb, fun k e he => ⟨e, he, rfl, rfl⟩⟩
      | cons v vs => simp [RepAs] at hvs
    | cons c cs => simp [tov] at h
  | _ => simp [tov] at h

end
end Go.AM
