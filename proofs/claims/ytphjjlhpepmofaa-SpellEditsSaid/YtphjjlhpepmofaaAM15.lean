/- One step of a region. -/
import Derived.Test.YtphjjlhpepmofaaAM14
import Derived.Orders
set_option linter.all false
namespace Go.AM
open Go

section
variable (P : Program) (ows : List Nat) (n : Nat)

def cGuard (ops : Array Oper) : Option (Nat × Bool) → Option (Option (Nat × Bool))
  | none => some none
  | some (j, w) => match (ops[j]?).bind (·.dst) with
    | some t => some (some (t, w))
    | none => none

def cO (ops : Array Oper) (o : Oper) : Option MO :=
  match cGuard ops o.guard with
  | none => none
  | some g => match o.op, o.dst with
    | .call { callee := .value f, args := as, argTypes := ts }, some d => if d < n ∧ d < 1024 ∧ as.size = ts.size then (match opd P 0 f, mapO (fun q => opd P q.2 q.1) (as.toList.zip ts.toList) with
      | some f, some xs => some (.call g d f xs)
      | _, _ => none) else none
    | .store t x v, none => match cOp P ows o with
      | some (.stt agg sz x v) => some (.store g agg sz x v)
      | _ => none
    | _, some d => if d < n ∧ d < 1024 then (cOp P ows o).map (.op g d) else none
    | _, none => none
end

def guardOf (E : Env) : Option (Nat × Bool) → Option Bool
  | none => some true
  | some (t, w) => match find E t with
    | some (.v (.w (.bool b))) => some (b == w)
    | some (.tup _) => some false
    | _ => none

/-- Rows that the operands name. -/
def Named' (E : Env) (xs : List Opd) (k : Nat) : Prop := ∃ y ∈ xs, ∃ u, ev E y = some u ∧ u.men k

def MO.dst : MO → Option Nat
  | .op _ d _ => some d
  | .store .. => none
  | .call _ d _ _ => some d

/-- A call that leaves the rows that there are as they were. -/
inductive CallQ (P : Program) (s : St) (d : Nat) (f : Opd) (args : List Opd) : AV → Heap → Prop
  | lent {u : AV} {fid : FuncId} {caps as ys : List AV} {res : AV} : ev s.env f = some u → fnOf u = some (fid, caps) → evs s.env args = some as →
      passAs true s.heap [] (as ++ caps) = some ys → FOk P fid ys [] res [] → flatA res = true → CallQ P s d f args res []
  | plain {u : AV} {fid : FuncId} {caps as ys : List AV} {res : AV} {Hout : Heap} : ev s.env f = some u → fnOf u = some (fid, caps) → evs s.env args = some as →
      passAs false s.heap [] (as ++ caps) = some ys → FOk P fid ys [] res Hout → (∀ p ∈ Hout, p.1 < 8 ∧ p.2.sz ≠ 0) → (∀ k, res.men k → k < 8) → CallQ P s d f args (backA [] (s.nx + d) res) (Hout.map fun p => (bk [] (s.nx + d) p.1, p.2))
  | same {u : AV} {fid : FuncId} {caps as ys : List AV} {ids : List Nat} {res : AV} : ev s.env f = some u → fnOf u = some (fid, caps) → evs s.env args = some as →
      passAs false s.heap ids (as ++ caps) = some ys → ids.Nodup → (∀ id ∈ ids, ∃ e, find s.heap id = some e ∧ e.sz ≠ 0) → FOk P fid ys (passH s.heap 0 ids) res (passH s.heap 0 ids) → (∀ k, res.men k → k < ids.length) → (∀ id ∈ ids, Named' s.env (args ++ [f]) id) →
      CallQ P s d f args (backA ids (s.nx + d) res) []

inductive AStep (P : Program) (q : Bool) : St → MO → St → Prop
  | skip {s : St} {g : Option (Nat × Bool)} {d : Nat} {m : MOp} : guardOf s.env g = some false → AStep P q s (.op g d m) ⟨(d, .tup []) :: s.env, s.heap, s.nx⟩
  | skipC {s : St} {g : Option (Nat × Bool)} {d : Nat} {f : Opd} {as : List Opd} : guardOf s.env g = some false → AStep P q s (.call g d f as) ⟨(d, .tup []) :: s.env, s.heap, s.nx⟩
  | skipS {s : St} {g : Option (Nat × Bool)} {agg : Bool} {sz : Nat} {x v : Opd} : guardOf s.env g = some false → AStep P q s (.store g agg sz x v) s
  | op {s : St} {g : Option (Nat × Bool)} {d : Nat} {m : MOp} {x : AV} {H' : Heap} : guardOf s.env g = some true → mval q s.env s.heap (s.nx + d) m = some (x, H') → AStep P q s (.op g d m) ⟨(d, x) :: s.env, H', s.nx⟩
  | store {s : St} {g : Option (Nat × Bool)} {agg : Bool} {sz : Nat} {x v : Opd} {y : AV} {H' : Heap} : guardOf s.env g = some true → mval q s.env s.heap s.nx (.stt agg sz x v) = some (y, H') →
      AStep P q s (.store g agg sz x v) ⟨s.env, H', s.nx⟩
  | call {s s' : St} {g : Option (Nat × Bool)} {d : Nat} {f : Opd} {as : List Opd} : guardOf s.env g = some true → CallOk P s d f as s' → q = false → AStep P q s (.call g d f as) s'
  | callQ {s : St} {g : Option (Nat × Bool)} {d : Nat} {f : Opd} {as : List Opd} {x : AV} {N : Heap} : guardOf s.env g = some true → CallQ P s d f as x N → AStep P q s (.call g d f as) ⟨(d, x) :: s.env, N ++ s.heap, s.nx⟩

section
variable {P : Program} {C : Cx} {n : Nat} {F : Nat → Prop} {s s' : St} {a : Act} {W : World} {hdr : Nat → Value} {ow : Nat → Option Nat} {id : Nat} {o : Oper} {ows : List Nat} {ops : Array Oper}
  {Q : Exit → Act → World → Prop} {K : Act → World → Prop}

theorem tmps_of {a : Act} {t : Nat} {b : Bool} (h : a.tmps.getD t undef = .bool b) : a.tmps[t]? = some (.bool b) := by
  rw [Array.getD_eq_getD_getElem?] at h
  cases e : a.tmps[t]? with
  | none => rw [e] at h; simp [undef] at h
  | some v => rw [e] at h; simpa using h

/-- The guard. -/
theorem guard_ok (r : RelAt C n F s a W hdr ow) {g : Option (Nat × Bool)} {b : Bool} (hc : cGuard ops o.guard = some g) (hg : guardOf s.env g = some b) : Region.wanted o (yielded ops a.tmps) = b := by
  unfold cGuard at hc
  unfold Region.wanted
  split at hc
  · rename_i h
    cases hc
    simp only [guardOf, Option.some.injEq] at hg
    rw [h]; exact hg
  · rename_i j w h
    split at hc
    · rename_i t ht
      cases hc
      simp only [guardOf] at hg
      split at hg
      · rename_i c hcv
        cases hg
        have hv := r.env t _ hcv
        simp only [RepA] at hv
        have := tmps_of hv.wInv.1
        rw [h]
        simp only [yielded, ht, Option.bind_some, this]
        cases c <;> cases w <;> rfl
      · rename_i l hcv
        cases hg
        have hv := r.env t _ hcv
        simp only [RepA] at hv
        obtain ⟨vs, hv, _⟩ := hv
        rw [h]
        rw [Array.getD_eq_getD_getElem?] at hv
        simp only [yielded, ht, Option.bind_some]
        cases e : a.tmps[t]? with
        | none => cases w <;> rfl
        | some v => rw [e] at hv; simp at hv; subst hv; cases w <;> rfl
      · cases hg
    · cases hc

theorem fnOf_ok {ok : Nat → Prop} {H : Heap} {u : AV} {fid : FuncId} {caps : List AV} {v : Value} (h : fnOf u = some (fid, caps)) (hu : RepA W ok hdr H u v) : ∃ vs : List Value, v = .func (.func fid) #[] vs.toArray ∧ RepAs W ok hdr H caps vs := by
  unfold fnOf at h
  split at h
  · cases h; simp only [RepA] at hu; exact hu
  · split at h
    · rename_i hz
      cases h
      simp only [RepA] at hu
      refine ⟨[], ?_, by simp [RepAs]⟩
      rw [hu.wInv.1, Array.eq_empty_of_size_eq_zero hz.1, Array.eq_empty_of_size_eq_zero hz.2]
    · cases h
  · cases h

theorem RepAs.append {ok : Nat → Prop} {H : Heap} : ∀ {l l' : List AV} {vs vs' : List Value}, RepAs W ok hdr H l vs → RepAs W ok hdr H l' vs' → RepAs W ok hdr H (l ++ l') (vs ++ vs')
  | [], l', [], vs', _, h => by simpa using h
  | [], _, _ :: _, _, h, _ => by simp [RepAs] at h
  | _ :: _, _, [], _, h, _ => by simp [RepAs] at h
  | x :: l, l', v :: vs, vs', h, h' => by
    simp only [RepAs, List.cons_append] at *
    exact ⟨h.1, RepAs.append h.2 h'⟩

theorem flat_w {ok ok' : Nat → Prop} {W W' : World} {u v : Value} (h : RepV W ok (.w u) v) : RepV W' ok' (.w u) v := by
  obtain ⟨h1, h2⟩ := h.wInv
  rw [h1]; exact RepV.w h2

theorem flat_st {ok ok' : Nat → Prop} {W W' : World} {cs : List PV} {v : Value} (hf : (cs.all fun p => match p with | .w _ => true | _ => false) = true) (h : RepV W ok (.st cs) v) : RepV W' ok' (.st cs) v := by
  obtain ⟨vs, rfl, h1, h2⟩ := h.stInv
  refine RepV.st ?_ h2
  rw [List.all_eq_true] at hf
  have hlen := h1.length
  refine RepL.ofGet (by simpa using hlen) fun i p hp => ?_
  have hq := hf p (List.mem_of_getElem? hp)
  have := (h1.get hp).1
  cases p with
  | w u =>
    cases hx : (vs.drop (i * 1)).take 1 with
    | nil => rw [hx] at this; cases this
    | cons y ys =>
      rw [hx] at this
      cases this with
      | w hs => exact .w hs
  | sl _ _ => simp at hq
  | st _ => simp at hq

mutual
theorem flat_ok {ok ok' : Nat → Prop} {hdr' : Nat → Value} {H H' : Heap} {W W' : World} : ∀ (x : AV) (v : Value), flatA x = true → RepA W ok hdr H x v → RepA W' ok' hdr' H' x v
  | .u, v, _, _ => by simp [RepA]
  | .v (.w u), v, _, h => by simp only [RepA] at *; exact flat_w h
  | .v (.sl _ _), v, hf, _ => by simp [flatA] at hf
  | .v (.st cs), v, hf, h => by simp only [flatA] at hf; simp only [RepA] at *; exact flat_st hf h
  | .h _, v, hf, _ => by simp [flatA] at hf
  | .ptr _ _ _, v, hf, _ => by simp [flatA] at hf
  | .rp _, v, hf, _ => by simp [flatA] at hf
  | .fn f l, v, hf, h => by
    simp only [flatA] at hf
    simp only [RepA] at *
    obtain ⟨vs, h1, h2⟩ := h
    exact ⟨vs, h1, flats_ok l vs hf h2⟩
  | .tup l, v, hf, h => by
    simp only [flatA] at hf
    simp only [RepA] at *
    obtain ⟨vs, h1, h2⟩ := h
    exact ⟨vs, h1, flats_ok l vs hf h2⟩
theorem flats_ok {ok ok' : Nat → Prop} {hdr' : Nat → Value} {H H' : Heap} {W W' : World} : ∀ (l : List AV) (vs : List Value), flatAs l = true → RepAs W ok hdr H l vs → RepAs W' ok' hdr' H' l vs
  | [], [], _, _ => by simp [RepAs]
  | [], _ :: _, _, h => by simp [RepAs] at h
  | _ :: _, [], _, h => by simp [RepAs] at h
  | x :: l, v :: vs, hf, h => by
    simp only [flatAs, Bool.and_eq_true] at hf
    simp only [RepAs] at *
    exact ⟨flat_ok x v hf.1 h.1, flats_ok l vs hf.2 h.2⟩
end

mutual
theorem flat_men : ∀ (x : AV) (i : Nat), flatA x = true → ¬ x.men i
  | .u, i, _ => by simp [AV.men]
  | .v _, i, _ => by simp [AV.men]
  | .rp _, i, _ => by simp [AV.men]
  | .h _, i, hf => by simp [flatA] at hf
  | .ptr _ _ _, i, hf => by simp [flatA] at hf
  | .fn f l, i, hf => by simp only [flatA] at hf; simp only [AV.men]; exact flats_men l i hf
  | .tup l, i, hf => by simp only [flatA] at hf; simp only [AV.men]; exact flats_men l i hf
theorem flats_men : ∀ (l : List AV) (i : Nat), flatAs l = true → ¬ AV.mens l i
  | [], i, _ => by simp [AV.mens]
  | x :: l, i, hf => by
    simp only [flatAs, Bool.and_eq_true] at hf
    simp only [AV.mens, not_or]
    exact ⟨flat_men x i hf.1, flats_men l i hf.2⟩
end

theorem fnOf_men {u : AV} {fid : FuncId} {caps : List AV} (h : fnOf u = some (fid, caps)) (i : Nat) (hi : AV.mens caps i) : u.men i := by
  unfold fnOf at h
  split at h
  · cases h; simpa [AV.men] using hi
  · split at h
    · cases h; simp [AV.mens] at hi
    · cases h
  · cases h

mutual
theorem frz_id {ids : List Nat} {H : Heap} : ∀ (x y : AV), passA false H ids x = some y → frz ids H x = H
  | .h id, y, h => by
    simp only [passA] at h
    simp only [frz]
    split at h
    · rfl
    · split at h
      · rename_i e he
        split at h
        · cases h
        split at h
        · rename_i hf
          simp at hf
          simp [hf]
        · cases h
      · cases h
  | .fn f l, y, h => by
    simp only [passA] at h
    simp only [frz]
    split at h
    · rename_i l' hl; exact frzs_id l l' hl
    · cases h
  | .u, y, h => by simp [frz]
  | .v _, y, h => by simp [frz]
  | .ptr _ _ _, y, h => by simp [frz]
  | .rp _, y, h => by simp [frz]
  | .tup _, y, h => by simp [frz]
theorem frzs_id {ids : List Nat} {H : Heap} : ∀ (l l' : List AV), passAs false H ids l = some l' → frzs ids H l = H
  | [], l', h => by simp [frzs]
  | x :: l, l', h => by
    simp only [passAs] at h
    split at h
    · rename_i y ys h1 h2
      simp only [frzs]
      rw [frz_id x y h1]; exact frzs_id l ys h2
    · cases h
end

theorem passH_keys (H : Heap) : ∀ (ids : List Nat) (k0 : Nat), ∀ p ∈ passH H k0 ids, p.1 < k0 + ids.length
  | [], k0 => by simp [passH]
  | id :: l, k0 => by
    intro p hp
    simp only [passH] at hp
    have ih := passH_keys H l (k0 + 1)
    split at hp
    · rcases List.mem_cons.1 hp with rfl | hp
      · simp
      · have := ih p hp; simp; omega
    · have := ih p hp; simp; omega

theorem passH_mem (H : Heap) : ∀ (ids : List Nat) (k0 : Nat), ∀ p ∈ passH H k0 ids, ∃ id ∈ ids, find H id = some p.2
  | [], k0 => by simp [passH]
  | id :: l, k0 => by
    intro p hp
    simp only [passH] at hp
    have ih := passH_mem H l (k0 + 1)
    split at hp
    · rename_i e he
      rcases List.mem_cons.1 hp with rfl | hp
      · exact ⟨id, by simp, he⟩
      · obtain ⟨i, h1, h2⟩ := ih p hp; exact ⟨i, by simp [h1], h2⟩
    · obtain ⟨i, h1, h2⟩ := ih p hp; exact ⟨i, by simp [h1], h2⟩

theorem callQ_ok {d : Nat} {f : Opd} {args : List Opd} {x : AV} {N : Heap} (hF : ∀ k e, find s.heap k = some e → F k) (hfr : ∀ j, j < 8 → ¬ F (s.nx + d + 1024 * j)) (h : CallQ P s d f args x N) : CallOk P s d f args ⟨(d, x) :: s.env, N ++ s.heap, s.nx⟩ := by
  cases h with
  | lent h1 h2 h3 h4 h5 h6 => exact CallOk.lent h1 h2 h3 h4 h5 h6
  | plain h1 h2 h3 h4 h5 h6 h7 =>
    rename_i u fid caps as ys res Hout
    have e := frzs_id _ _ h4
    refine CallOk.rows (ids := []) h1 h2 h3 (by rw [e]; exact h4) List.nodup_nil (by simp) (by rw [e]; exact h5) (by simpa using h6) (by simpa using h7) (fun k => ?_)
    rw [e]; simp [outH, strikes]
  | same h1 h2 h3 h4 h5 h6 h7 h8 h9 =>
    rename_i u fid caps as ys ids res
    have e := frzs_id _ _ h4
    refine CallOk.rows (ids := ids) h1 h2 h3 (by rw [e]; exact h4) h5 h6 (by rw [e]; exact h7) (fun p hp => ?_) (fun k hk => Nat.lt_of_lt_of_le (h8 k hk) (by omega)) (fun k => ?_)
    · have := passH_keys s.heap ids 0 p hp
      obtain ⟨i, g1, g2⟩ := passH_mem s.heap ids 0 p hp
      obtain ⟨e0, g3, g4⟩ := h6 i g1
      rw [g2] at g3; cases g3
      exact ⟨by omega, g4⟩
    · rw [e]
      have hFi : ∀ id ∈ ids, F id := fun id hi => by
        obtain ⟨e, he, _⟩ := h6 id hi
        exact hF id e he
      have hinj := bk_inj (base := s.nx + d) h5 hFi hfr
      obtain ⟨hm1, hm2⟩ := find_map (m := ids.length + 8) (fun p hp => by have := passH_keys s.heap ids 0 p hp; omega) hinj
      simp only [List.nil_append, outH, find_append, find_strikes]
      by_cases hk : k ∈ ids
      · obtain ⟨j, hj⟩ := List.mem_iff_getElem?.1 hk
        have hjl := (List.getElem?_eq_some_iff.1 hj).1
        have hb : bk ids (s.nx + d) j = k := by unfold bk; rw [hj]
        have := hm1 j (by omega)
        rw [hb] at this
        rw [this, find_passH, if_pos (Nat.zero_le _), Nat.sub_zero, hj]
        obtain ⟨e', he', _⟩ := h6 k hk
        simp [he']
      · cases hx : find ((passH s.heap 0 ids).map fun p => (bk ids (s.nx + d) p.1, p.2)) k with
        | none => simp [hk]
        | some e' =>
          exfalso
          obtain ⟨j, g1, g2, g3⟩ := hm2 k e' hx
          obtain ⟨id, q1, q2⟩ := find_in g3
          have hb : bk ids (s.nx + d) j = id := by unfold bk; rw [q1]
          rw [hb] at g2; subst g2
          exact hk (List.mem_of_getElem? q1)

/-- A call goes through. -/
theorem snd_call (r : RelAt C n F s a W hdr ow) {d : Nat} {f : Opd} {xs : List Opd} {fo : Operand} {as : Array Operand} {ts : Array TypeId} {t : TypeId} (hc : CallOk P s d f xs s') (ho : o.op = .call { callee := .value fo, args := as, argTypes := ts })
    (hf : opd P t fo = some f) (hsz : as.size = ts.size) (hx : mapO (fun q => opd P q.2 q.1) (as.toList.zip ts.toList) = some xs) (hd : d < n) (hfr : ∀ j, j < 8 → ¬ F (s.nx + d + 1024 * j)) :
    ∃ fid vals, (execOp a.eval o).run P W = .ok (.enter fid vals) W ∧ Calls P fid vals W fun e W' => ∃ v hdr' ow', e = .returned v ∧ RelAt C n (fun i => F i ∨ ∃ j, j < 8 ∧ i = s.nx + d + 1024 * j) s' (a.put (some d) v) W' hdr' ow' := by
  have hzip : (as.toList.zip ts.toList).map (fun q => a.eval q.1) = as.toList.map a.eval := by
    have h1 : (as.toList.zip ts.toList).map (fun q => a.eval q.1) = ((as.toList.zip ts.toList).map Prod.fst).map a.eval := by rw [List.map_map]; rfl
    rw [h1, List.map_fst_zip (by rw [Array.length_toList, Array.length_toList]; omega)]
  have hexec : ∀ (fid : FuncId) (cs : List Value), a.eval fo = .func (.func fid) #[] cs.toArray → (∀ (as : Array Value) (W : World), (callFunc fid as).run P W = .ok (.enter fid as) W) →
      (execOp a.eval o).run P W = .ok (.enter fid (as.toList.map a.eval ++ cs).toArray) W := by
    intro fid cs h1 h2
    simp [execOp, ho, resolve, invoke, Deferred.ofValue, h1, h2]
  cases hc with
  | rows hu hfn has hpass hn hfound hF hkeys hmen hHn =>
    rename_i u fid caps avs ys ids res Hout Hn
    obtain ⟨ow1, r1, hfz⟩ := frzs_ok ids (avs ++ caps) s ow r
    have hfv := (opd_ok r1 hf hu).1
    obtain ⟨cs, hcs, hcr⟩ := fnOf_ok hfn hfv
    obtain ⟨ha1, _⟩ := evs_ok' r1 hx has
    rw [hzip] at ha1
    have hall := ha1.append hcr
    have hfound' : ∀ id ∈ ids, (find (frzs ids s.heap (avs ++ caps)) id).isSome = true := fun id hi => by
      obtain ⟨e, he, _⟩ := hfound id hi
      obtain ⟨e', he'⟩ := (hfz id).2 e he
      exact Option.isSome_iff_exists.2 ⟨e', he'⟩
    have hsz' : ∀ id ∈ ids, ∀ e, find (frzs ids s.heap (avs ++ caps)) id = some e → e.sz ≠ 0 := fun id hi e' he' => by
      obtain ⟨e, he, hz⟩ := hfound id hi
      obtain ⟨e0, h0, h1, _⟩ := (hfz id).1 e' he'
      rw [he] at h0; cases h0
      rw [← h1]; exact hz
    have hargs := passAs_ok (b := false) (ids := ids) (okC := OK (Cx.of W (OK C W (frzs ids s.heap (avs ++ caps)) ow1) (Own (passH (frzs ids s.heap (avs ++ caps)) 0 ids) (owI ow1 ids))) W (passH (frzs ids s.heap (avs ++ caps)) 0 ids) (owI ow1 ids)) r1
      (by
        intro j hj
        refine ⟨⟨.inl hj, hj.1.2⟩, ?_⟩
        rintro ⟨k, e, hk, hko⟩
        obtain ⟨id, g1, g2⟩ := find_in hk
        simp only [owI, g1] at hko
        exact hj.2 ⟨id, e, g2, hko⟩)
      (by intro h; cases h) _ _ _ hpass hall
    have hmem := mem_in r1 hn (OK C W (frzs ids s.heap (avs ++ caps)) ow1) (fun j hj => hj) hsz'
    refine ⟨fid, _, hexec fid cs hcs hF.1, (hF.2 W _ _ _ _ hmem hargs).mono ?_⟩
    rintro e W' ⟨v, hdr', ow', rfl, q1, q2, q3⟩
    obtain ⟨m1, m2, m3⟩ := merge (base := s.nx + d) (Hn := Hn) r1 hn hfound' hfr q1 (fun p hp => (hkeys p hp).1) (fun k e he => (hkeys _ (find_mem he)).2) q3 hHn
    have hF' : ∀ id ∈ ids, F id := fun id hi => by
      obtain ⟨e, he, _⟩ := hfound id hi
      exact r.idsH id e he
    have hinj := bk_inj (base := s.nx + d) hn hF' hfr
    have hb := back_ok (hdrN := joinF ids (s.nx + d) Hout hdr' hdr) m2 (fun k e hk he => ⟨m3 k e hk he, joinF_src hinj hk (m3 k e hk he)⟩) res v hmen q2
    refine ⟨v, _, _, rfl, m1.put hd hb ?_⟩
    intro i hi
    obtain ⟨k, g1, g2⟩ := men_back res i hi
    have hk := hmen k g1
    subst g2
    unfold bk
    cases e1 : ids[k]? with
    | some y => exact .inl (hF' y (List.mem_of_getElem? e1))
    | none =>
      have hjl := List.getElem?_eq_none_iff.1 e1
      exact .inr ⟨k - ids.length, by omega, rfl⟩
  | lent hu hfn has hpass hF hflat =>
    rename_i u fid caps avs ys res
    have hfv := (opd_ok r hf hu).1
    obtain ⟨cs, hcs, hcr⟩ := fnOf_ok hfn hfv
    obtain ⟨ha1, _⟩ := evs_ok' r hx has
    rw [hzip] at ha1
    have hall := ha1.append hcr
    have hno : ∀ (ow2 : Nat → Option Nat) (j : Nat), ¬ Own [] ow2 j := by rintro ow2 j ⟨k, e, hk, _⟩; simp [find] at hk
    have hargs := passAs_ok (b := true) (ids := []) (okC := OK (Cx.of W (fun j => j < W.heap.size) (Own (passH s.heap 0 []) (owI ow []))) W (passH s.heap 0 []) (owI ow [])) r
      (by intro j hj; exact ⟨⟨.inl hj.1.2, hj.1.2⟩, hno _ j⟩) (by intro _ id e j _ he hj; have := (r.mem.lt id e j he hj).1; exact ⟨⟨.inl this, this⟩, hno _ j⟩) _ _ _ hpass hall
    have hmem := mem_in r List.nodup_nil (fun j => j < W.heap.size) (fun j hj => hj.1.2) (by simp)
    refine ⟨fid, _, hexec fid cs hcs hF.1, (hF.2 W _ _ _ _ hmem hargs).mono ?_⟩
    rintro e W' ⟨v, hdr', ow', rfl, q1, q2, q3⟩
    have q1' : Mem (Cx.of W (OK C W s.heap ow) (Own (passH s.heap 0 []) (owI ow []))) W' [] hdr' ow' := ⟨fun k e he => by simp [find] at he, fun k k' e e' b h => by simp [find] at h, fun k e b h => by simp [find] at h, q1.size, q1.frame, q1.os, q1.tape, q1.output⟩
    obtain ⟨m1, m2, m3⟩ := merge (base := s.nx + d) (Hn := s.heap) (ids := []) r List.nodup_nil (by simp) hfr q1' (by simp) (by simp [find]) (by intro k e e' h; simp [passH, find] at h) (by intro k; simp [outH, strikes])
    exact ⟨v, _, _, rfl, m1.put hd (flat_ok _ v hflat q2) (fun i hi => (flat_men _ i hflat hi).elim)⟩

end
end Go.AM
