/- The set of equations that the reckoning goes by. -/
import Derived.Test.YtphjjlhpepmofaaAM24
import Derived.IntWalk
set_option linter.all false
namespace Go.AM
open Go

/-- The function's text, read. -/
def FnCode (P : Program) (f : FuncId) (ows : List Nat) (n : Nat) (rs : List Nat) (m : MC) : Prop :=
  ∃ fn, P.funcs[f]? = some fn ∧ (∀ (as : Array Value) (W : World), (callFunc f as).run P W = .ok (.enter f as) W) ∧ fn.ntmps = n ∧ fn.results = (rs.map ResultVar.tmp).toArray ∧ fn.body.bind (cC P ows n) = some m

theorem FOk.of {P : Program} {f : FuncId} {ows rs : List Nat} {n : Nat} {m : MC} {args : List AV} {H : Heap} {res : AV} {H' : Heap} (hc : FnCode P f ows n rs m) (nin : Nat) (hargs : args.length ≤ n) (hnin : nin ≤ 1024) (hH : ∀ p ∈ H, p.1 < nin ∧ p.2.sz ≠ 0)
    (hmen : ∀ k, AV.mens args k → k < 1024) (hsz : ∀ k e e', find H k = some e → find H' k = some e' → e'.sz = e.sz) (hl : rs.length ≤ 4)
    (h : Ex P ⟨f, ows, n, rs⟩ ⟨nin, res, H'⟩ 4000 .ctl [.code m] ⟨envOf 0 args, H, 1024⟩) : FOk P f args H res H' := by
  obtain ⟨fn, h1, h2, rfl, h4, h5⟩ := hc
  obtain ⟨c, h6, h7⟩ := Option.bind_eq_some_iff.1 h5
  exact FOk.intro h1 h2 h6 ows rs h4 h7 hargs nin hnin hH hmen hsz (Ex.run hl h)

/-- Values come in, a value goes out. -/
theorem FOk.val {P : Program} {f : FuncId} {ows rs : List Nat} {n : Nat} {m : MC} {args : List AV} {res : AV} {H' : Heap} (hc : FnCode P f ows n rs m) (hargs : args.length ≤ n) (hmen : ∀ k, AV.mens args k → k < 1024) (hl : rs.length ≤ 4)
    (h : Ex P ⟨f, ows, n, rs⟩ ⟨0, res, H'⟩ 4000 .ctl [.code m] ⟨envOf 0 args, [], 1024⟩) : FOk P f args [] res H' :=
  FOk.of hc 0 hargs (by decide) (by simp) hmen (by simp [find]) hl h

theorem Ends.val {D : Fd} {G : Gl} {s : St} {x : AV} (h1 : retA s.env D.rs = some x) (h2 : passR s.heap [] x = some G.res) (h3 : G.H' = []) : Ends D G s :=
  ⟨[], x, List.nodup_nil, h1, h2, by simp [passH, h3], by simp [h3], by intro k _ h; rw [h3] at h; simp [find] at h⟩

/-- The finish, by reckoning: nothing but a value goes out. -/
def outV (E : Env) (H : Heap) (rs : List Nat) : Option AV := match retA E rs with
  | some x => passR H [] x
  | none => none

theorem Ends.v {D : Fd} {G : Gl} {s : St} (h3 : G.H' = []) (h : outV s.env s.heap D.rs = some G.res) : Ends D G s := by
  unfold outV at h
  split at h
  · rename_i x hx
    exact Ends.val hx h h3
  · cases h

/-- Says less, of the same. -/
def Le (nin : Nat) (kp : List (Nat × Nat)) (s s' : St) : Prop :=
  (kp.map Prod.fst).Nodup ∧ (kp.map Prod.snd).Nodup ∧ EnvLe kp s.heap s.env s'.env ∧ HeapLe kp s.heap s'.heap ∧ (∀ p ∈ kp, p.1 < s'.nx) ∧ nin ≤ s'.nx ∧ ∀ j, j < nin → (find s'.heap j).isSome = true → find kp j = some j

section
variable {P : Program} {D : Fd} {G : Gl} {k : List MI} {s s' : St}

theorem Run.le {kp : List (Nat × Nat)} (h : Le G.nin kp s s') (hr : Run P D G k s') : Run P D G k s :=
  Run.weaken kp h.1 h.2.1 h.2.2.1 h.2.2.2.1 h.2.2.2.2.1 h.2.2.2.2.2.1 h.2.2.2.2.2.2 hr

/-- A loop whose rounds begin at states st i. -/
theorem Run.loopI {x : MC} {ι : Type} (I : ι → Prop) (st : ι → St) (ms : ι → Nat) (i0 : ι) (kp : List (Nat × Nat)) (hl : D.rs.length ≤ 4) (hle : Le G.nin kp s (st i0)) (h0 : I i0)
    (step : ∀ i, I i → (∀ (j : ι) (kp : List (Nat × Nat)) (s' : St), I j → ms j < ms i → Le G.nin kp s' (st j) → Run P D G (.inLoop x :: k) s') → Ex P D G 4000 .ctl (.code x :: .inLoop x :: k) (st i)) : Run P D G (.code (.loop x) :: k) s :=
  Run.le hle (Run.loop_ind I st ms (fun i hi ih => Ex.run hl (step i hi fun j _ _ hj hm hle' => Run.le hle' (ih j hj hm))) i0 h0)

/-- Ahead to a place from which all is known by states st j. -/
theorem Run.cut {a b : MC} {ι : Type} (J : ι → Prop) (st : ι → St) (hl : D.rs.length ≤ 4) (hk : ∀ j, J j → Ex P D G 4000 .ctl (.code b :: k) (st j))
    (h : (∀ (j : ι) (kp : List (Nat × Nat)) (s' : St), J j → Le G.nin kp s' (st j) → Run P D G (.code b :: k) s') → Ex P D G 4000 .ctl (.code a :: .stop :: .code b :: k) s) : Run P D G (.code (.seq a b) :: k) s :=
  Run.seq (by
    have h1 : Run P D G (.code a :: .stop :: .code b :: k) s := Ex.run hl (h fun j _ _ hj hle => Run.le hle (Ex.run hl (hk j hj)))
    intro C fn a W hdr ow items hC hfn r hm b cs hb hbk
    cases hm with
    | cons hx hm => exact h1 C fn a W hdr ow _ hC hfn r (.cons hx (.stop hm)) b cs hb hbk)

end

theorem wrap_i64 {x : Int} (h0 : -9223372036854775808 ≤ x) (h : x ≤ 9223372036854775807) : IntKind.i64.wrap x = x := IntWalk.i64_in x ⟨h0, h⟩

attribute [simp] outV Le
attribute [simp high] ex_cndT ex_cndF ex_gdOT ex_gdOF ex_gdST ex_gdSF ex_gdCT ex_gdCF
attribute [simp] ex_ret ex_nil ex_skip ex_seq ex_cond ex_cnd ex_block ex_inBlock ex_exit ex_loop ex_inLoop ex_stop ex_reg ex_end ex_op ex_opG ex_gdO ex_put ex_st ex_stG ex_gdS ex_sto ex_call ex_callG ex_gdC
attribute [simp] mval.eq_1 mval.eq_2 mval.eq_3 mval.eq_4 mval.eq_5 mval.eq_6 mval.eq_7 mval.eq_8 mval.eq_9 mval.eq_10 mval.eq_11 mval.eq_12 mval.eq_13 mval.eq_14 mval.eq_15 mval.eq_16 mval.eq_17 mval.eq_18 mval.eq_19 mval.eq_20 mval.eq_21 mval.eq_22 mval.eq_23 mval.eq_24 mval.eq_25 mval.eq_26 mval.eq_27 mval.eq_28 mval.eq_29 mval.eq_30 mval.eq_31 mval.eq_32 mval.eq_33 mval.eq_34
attribute [simp] intBin.eq_1 intBin.eq_2 intBin.eq_3 intBin.eq_4 intBin.eq_5 intBin.eq_6 intBin.eq_7 intBin.eq_8 intBin.eq_9 intBin.eq_10 intBin.eq_11 intBin.eq_12 intBin.eq_13 shV strBin.eq_1 strBin.eq_2 strBin.eq_3 strBin.eq_4 strBin.eq_5 strBin.eq_6 strBin.eq_7 binV.eq_1 binV.eq_2 binA.eq_1 ev.eq_1 ev.eq_2 ev.eq_3 asI.eq_1 guardOf.eq_1 guardOf.eq_2 rdRow.eq_1 rdRow.eq_2 tov.eq_1 tov.eq_2 tov.eq_3
attribute [simp] setG repl find_cons find_nil evs mexit MO.loud unA optL bnds cellRd layP mkEl zOf buildP buildL strike_nil strike_cons setIn envOf
attribute [simp] ldX sttN decR.eq_1 decR.eq_2 eqCells.eq_1 eqCells.eq_2 eqCells.eq_3 convE
attribute [simp] passA passAs passR retA newOf conv convs EnvLe HeapLe frz frzs idx passH bk backA backAs strikes outH fnOf flatA flatAs AV.men AV.mens

end Go.AM
