/- A region, operation by operation. -/
import Derived.Test.YtphjjlhpepmofaaAM15
set_option linter.all false
namespace Go.AM
open Go

section
variable {P : Program} {C : Cx} {n : Nat} {F : Nat → Prop} {s s' : St} {a : Act} {W : World} {hdr : Nat → Value} {ow : Nat → Option Nat} {id : Nat} {o : Oper} {ows : List Nat} {ops : Array Oper}
  {Q : Exit → Act → World → Prop} {K : Act → World → Prop} {q : Bool} {mo : MO}

/-- The numbers given by an operation. -/
def news (mo : MO) (nx : Nat) (i : Nat) : Prop := ∃ d, mo.dst = some d ∧ ∃ j, j < 8 ∧ i = nx + d + 1024 * j

theorem wp_value {v : Value} {W' : World} {next : Act → World → Prop} (h : (execOp a.eval o).run P W = .ok (.value v) W') (hn : next (a.put o.dst v) W') : o.wp P a W next Q := by
  unfold Oper.wp; rw [h]; exact hn

theorem wp_skipV {W' : World} {next : Act → World → Prop} (h : (execOp a.eval o).run P W = .ok .skip W') (hn : next (a.put o.dst undef) W') : o.wp P a W next Q := by
  unfold Oper.wp; rw [h]; exact hn

theorem wp_snd {x : AV} {H' : Heap} {next : Act → World → Prop} (h : Snd P C n F s a W id o x H') (hn : ∀ v W' hdr' ow', RelAt C n (fun i => F i ∨ i = id) { s with heap := H' } a W' hdr' ow' → RepA W' (OK C W' H' ow') hdr' H' x v →
    (∀ i, x.men i → F i ∨ i = id) → next (a.put o.dst v) W') : o.wp P a W next Q := by
  obtain ⟨v, W', hdr', ow', h1, h2, h3, h4⟩ := h
  rcases h1 with h1 | ⟨h1, rfl⟩
  · exact wp_value h1 (hn v W' hdr' ow' h2 h3 h4)
  · exact wp_skipV h1 (hn undef W' hdr' ow' h2 h3 h4)

theorem step_ok (hs : AStep P q s mo s') {i : Nat} (hi : ops[i]? = some o) (hc : cO P ows n ops o = some mo) (r : RelAt C n F s a W hdr ow) (hfr : ∀ k, news mo s.nx k → ¬ F k)
    (hK : ∀ a' W' hdr' ow', RelAt C n (fun k => F k ∨ news mo s.nx k) s' a' W' hdr' ow' → K a' W') : wpOp P ops Q i K a W := by
  unfold wpOp
  rw [hi]
  simp only
  unfold cO at hc
  split at hc
  · cases hc
  rename_i g hg
  have hskip : guardOf s.env g = some false → ∀ d, d < n → o.dst = some d → mo.dst = some d → s' = ⟨(d, .tup []) :: s.env, s.heap, s.nx⟩ →
      if Region.wanted o (yielded ops a.tmps) = true then o.wp P a W K Q ∨ (o.asks P a W ∧ LetsOut Q) else K (a.put o.dst undef) W := by
    intro hgv d hd hdst _ hs'
    rw [guard_ok r hg hgv]
    simp only [Bool.false_eq_true, if_false]
    subst hs'
    rw [hdst]
    exact hK _ _ hdr ow ((r.put hd (x := .tup []) (v := undef) (by simp only [RepA]; exact ⟨[], rfl, by simp [RepAs]⟩) (by simp [AV.men, AV.mens])).monoF fun i h => .inl h)
  have hcallK : guardOf s.env g = some true → ∀ (d : Nat) (f' : Opd) (xs : List Opd) (f : Operand) (as : Array Operand) (ts : Array TypeId), o.op = .call { callee := .value f, args := as, argTypes := ts } → o.dst = some d → d < n → as.size = ts.size →
      opd P 0 f = some f' → mapO (fun q => opd P q.2 q.1) (as.toList.zip ts.toList) = some xs → mo.dst = some d → CallOk P s d f' xs s' →
      if Region.wanted o (yielded ops a.tmps) = true then o.wp P a W K Q ∨ (o.asks P a W ∧ LetsOut Q) else K (a.put o.dst undef) W := by
    intro hgv d f' xs f as ts ho hdst h1 h3 hf hx hmd hcall
    rw [guard_ok r hg hgv]
    simp only [if_true]
    left
    obtain ⟨fid, vals, q1, q2⟩ := snd_call r hcall ho hf h3 hx h1 (fun j hj => hfr _ ⟨d, hmd, j, hj, rfl⟩)
    unfold Oper.wp
    rw [q1, Oper.upon_enter]
    refine q2.mono ?_
    rintro e W' ⟨v, hdr', ow', rfl, hr⟩
    simp only
    rw [hdst]
    exact hK _ _ hdr' ow' (hr.monoF fun k hk => hk.imp (fun h => h) fun ⟨j, hj, e⟩ => ⟨d, hmd, j, hj, e⟩)
  split at hc
  · rename_i f as ts d ho hdst
    split at hc
    · rename_i hlt
      obtain ⟨h1, h2, h3⟩ := hlt
      split at hc
      · rename_i f' xs hf hx
        cases hc
        cases hs with
        | skipC hgv => exact hskip hgv d h1 hdst rfl rfl
        | call hgv hcall _ => exact hcallK hgv d f' xs f as ts ho hdst h1 h3 hf hx rfl hcall
        | callQ hgv hcall => exact hcallK hgv d f' xs f as ts ho hdst h1 h3 hf hx rfl (callQ_ok r.idsH (fun j hj => hfr _ ⟨d, rfl, j, hj, rfl⟩) hcall)
      · cases hc
    · cases hc
  · rename_i t x v ho hdst
    split at hc
    · rename_i agg sz x' v' hop
      cases hc
      cases hs with
      | skipS hgv =>
        rw [guard_ok r hg hgv]
        simp only [Bool.false_eq_true, if_false]
        rw [hdst]
        exact hK _ _ hdr ow (r.monoF fun k h => .inl h)
      | store hgv hm =>
        rename_i y H'
        rw [guard_ok r hg hgv]
        simp only [if_true]
        left
        have hop' := hop
        obtain ⟨_, W', ow', k1, k2⟩ := store_core r ho hop' hm
        refine wp_skipV k1 ?_
        rw [hdst]
        exact hK _ _ _ ow' (k2.monoF fun k h => .inl h)
    · cases hc
  · rename_i d hdst hno
    split at hc
    · rename_i hlt
      obtain ⟨m, hm, rfl⟩ := Option.map_eq_some_iff.1 hc
      cases hs with
      | skip hgv => exact hskip hgv d hlt.1 hdst rfl rfl
      | op hgv hmv =>
        rw [guard_ok r hg hgv]
        simp only [if_true]
        left
        have hid : ¬ F (s.nx + d) := hfr _ ⟨d, rfl, 0, by omega, by omega⟩
        refine wp_snd (snd_all r hid hm hmv) ?_
        intro v W' hdr' ow' h1 h2 h3
        rw [hdst]
        refine hK _ _ hdr' ow' ((h1.put hlt.1 h2 h3).monoF fun k hk => hk.imp (fun h => h) fun h => ?_)
        subst h
        exact ⟨d, rfl, 0, by omega, by omega⟩
    · cases hc
  · cases hc

end
end Go.AM
