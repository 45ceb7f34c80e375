/- Whatever the program's operation is: if it is read, and the reading comes to something, it goes through. -/
import Derived.Test.YtphjjlhpepmofaaAM11
set_option linter.all false
namespace Go.AM
open Go

section
variable {P : Program} {C : Cx} {n : Nat} {F : Nat → Prop} {s : St} {a : Act} {W : World} {hdr : Nat → Value} {ow : Nat → Option Nat} {id : Nat} {o : Oper} {ows : List Nat}

theorem snd_cMv {q : Bool} (r : RelAt C n F s a W hdr ow) (hid : ¬ F id) {x : Operand} {m : MOp} {u : AV} {H' : Heap} (ho : o.op = .move x ∨ o.op = .assign x) (hc : cMv P x o.type = some m) (hm : mval q s.env s.heap id m = some (u, H')) : Snd P C n F s a W id o u H' := by
  have hplain : ∀ y, opd P o.type x = some y → m = .mv y → Snd P C n F s a W id o u H' := by
    intro y hy h
    subst h
    simp only [mval, Option.map_eq_some_iff, Prod.mk.injEq] at hm
    obtain ⟨v, hv, rfl, rfl⟩ := hm
    exact snd_mv r ho hy hv
  unfold cMv at hc
  split at hc
  · rename_i v
    split at hc
    · rename_i hn
      obtain ⟨e, he, rfl⟩ := Option.map_eq_some_iff.1 hc
      simp only [mval, Option.some.injEq, Prod.mk.injEq] at hm
      obtain ⟨rfl, rfl⟩ := hm
      exact snd_nilS r hid ho hn
    · obtain ⟨y, hy, h⟩ := Option.map_eq_some_iff.1 hc
      exact hplain y hy h.symm
  · obtain ⟨y, hy, h⟩ := Option.map_eq_some_iff.1 hc
    exact hplain y hy h.symm

/-- What a store comes to. -/
theorem store_core {q : Bool} (r : RelAt C n F s a W hdr ow) {t : TypeId} {x y : Operand} {m : MOp} {u : AV} {H' : Heap} (ho : o.op = .store t x y) (hc : cOp P ows o = some m) (hm : mval q s.env s.heap id m = some (u, H')) :
    u = .u ∧ ∃ W' ow', (execOp a.eval o).run P W = .ok .skip W' ∧ RelAt C n F { s with heap := H' } a W' hdr ow' := by
  unfold cOp at hc
  rw [ho] at hc
  simp only at hc
  split at hc
  · rename_i x' y' h1 h2
    split at hc
    · rename_i hk2
      have hk := hk2.1
      have hplain : m = .stt (aggT P t) (szT P t) x' y' → u = .u ∧ ∃ W' ow', (execOp a.eval o).run P W = .ok .skip W' ∧ RelAt C n F { s with heap := H' } a W' hdr ow' := by
        rintro rfl
        have hz0 := hk2.2
        simp only [mval] at hm
        rw [if_neg hz0] at hm
        split at hm
        · rename_i k i off p H1 hv hp
          obtain ⟨w, hw, hp⟩ := Option.bind_eq_some_iff.1 hp
          split at hm
          · rename_i e he
            split at hm
            · rename_i w' hq
              split at hm
              · rename_i hh
                obtain ⟨g1, g2, g3, g4, g5, _, g6⟩ := hh
                simp only [Option.some.injEq, Prod.mk.injEq] at hm
                obtain ⟨rfl, rfl⟩ := hm
                exact ⟨rfl, stt_core r ho hk h1 h2 hv hw hp he hq g1 g3 g4 g5 g6⟩
              · cases hm
            · cases hm
          · cases hm
        · cases hm
      split at hc
      · rename_i d
        split at hc
        · rename_i hh
          cases hc
          simp only [mval, if_true] at hm
          split at hm
          · rename_i k i off c hv hw
            unfold sttN at hm
            split at hm
            · rename_i e ec he hec
              split at hm
              · rename_i g rest hl
                split at hm
                · rename_i hcc
                  obtain ⟨_, rfl, c3, c4, c5, c6⟩ := hcc
                  split at hm
                  · rename_i hrf
                    simp only [Option.some.injEq, Prod.mk.injEq] at hm
                    obtain ⟨rfl, rfl⟩ := hm
                    obtain ⟨W', g1, g2⟩ := sttN_core r ho hk hh.2.1 h1 h2 hv hw he hec c3 c4 c5 hl hrf c6 (fun i c h => by cases h)
                    exact ⟨rfl, W', ow, g1, g2⟩
                  · rename_i j c0 hrf
                    split at hm
                    · rename_i hjo
                      simp only [Option.some.injEq, Prod.mk.injEq] at hm
                      obtain ⟨rfl, rfl⟩ := hm
                      obtain ⟨W', g1, g2⟩ := sttN_core r ho hk hh.2.1 h1 h2 hv hw he hec c3 c4 c5 hl hrf c6 (fun i c h => by simp at h; rw [← h.1]; exact hjo)
                      exact ⟨rfl, W', ow, g1, g2⟩
                    · cases hm
                  · cases hm
                · cases hm
              · cases hm
            · cases hm
          · cases hm
        · exact hplain (by cases hc; rfl)
      · exact hplain (by cases hc; rfl)
    · cases hc
  · cases hc

theorem snd_all {q : Bool} (r : RelAt C n F s a W hdr ow) (hid : ¬ F id) {m : MOp} {u : AV} {H' : Heap} (hc : cOp P ows o = some m) (hm : mval q s.env s.heap id m = some (u, H')) : Snd P C n F s a W id o u H' := by
  have hc0 := hc
  unfold cOp at hc
  split at hc
  · rename_i x ho; exact snd_cMv r hid (.inl ho) hc hm
  · rename_i x ho; exact snd_cMv r hid (.inr ho) hc hm
  · rename_i c x y ho
    split at hc
    · rename_i c' x' y' h1 h2 h3
      cases hc
      simp only [mval] at hm
      split at hm
      · rename_i t ht
        simp only [Option.map_eq_some_iff, Prod.mk.injEq] at hm
        obtain ⟨v, hv, rfl, rfl⟩ := hm
        exact snd_pick r ho h1 h2 h3 ht hv
      · cases hm
    · cases hc
  · rename_i op t x y t' ho
    split at hc
    · rename_i x' y' h1 h2
      split at hc
      · rename_i hb
        split at hc
        · cases hc
          simp only [mval] at hm
          split at hm
          · rename_i i j hv hw
            cases hm
            exact snd_eqb (ng := false) r ho hb h1 h2 hv hw
          · cases hm
        · cases hc
          simp only [mval] at hm
          split at hm
          · rename_i i j hv hw
            cases hm
            exact snd_eqb (ng := true) r ho hb h1 h2 hv hw
          · cases hm
        · cases hc
      · rename_i fs hb
        split at hc
        · rename_i ks hks
          split at hc
          · rename_i hst
            split at hc
            · cases hc
              simp only [mval] at hm
              split at hm
              · rename_i cs ds hv hw
                simp only [Option.map_eq_some_iff, Prod.mk.injEq] at hm
                obtain ⟨rb, hrb, rfl, rfl⟩ := hm
                exact snd_eqS (ng := false) r ho hb hks hst.1 hst.2 h1 h2 hv hw hrb
              · cases hm
            · cases hc
              simp only [mval] at hm
              split at hm
              · rename_i cs ds hv hw
                simp only [Option.map_eq_some_iff, Prod.mk.injEq] at hm
                obtain ⟨rb, hrb, rfl, rfl⟩ := hm
                exact snd_eqS (ng := true) r ho hb hks hst.1 hst.2 h1 h2 hv hw hrb
              · cases hm
            · cases hc
          · cases hc
        · cases hc
      · cases hc
        simp only [mval] at hm
        split at hm
        · rename_i v w hv hw
          simp only [Option.map_eq_some_iff, Prod.mk.injEq] at hm
          obtain ⟨z, hz, rfl, rfl⟩ := hm
          exact snd_bin r ho h1 h2 hv hw hz
        · cases hm
    · cases hc
  · rename_i op t x ho
    obtain ⟨x', h1, rfl⟩ := Option.map_eq_some_iff.1 hc
    simp only [mval] at hm
    split at hm
    · rename_i v hv
      simp only [Option.map_eq_some_iff, Prod.mk.injEq] at hm
      obtain ⟨z, hz, rfl, rfl⟩ := hm
      exact snd_un r ho h1 hv hz
    · cases hm
  · rename_i t ho
    split at hc
    · rename_i z hz
      split at hc
      · rename_i ha
        cases hc
        simp only [mval, Option.some.injEq, Prod.mk.injEq] at hm
        obtain ⟨rfl, rfl⟩ := hm
        exact snd_alloc r hid ho hz ha.1 ha.2
      · cases hc
    · cases hc
  · rename_i t x ho
    obtain ⟨x', h1, rfl⟩ := Option.map_eq_some_iff.1 hc
    simp only [mval] at hm
    split at hm
    · rename_i p H1 hp
      obtain ⟨v, hv, hp⟩ := Option.bind_eq_some_iff.1 hp
      split at hm
      · cases hm
      · rename_i hz
        simp only [Option.some.injEq, Prod.mk.injEq] at hm
        obtain ⟨rfl, rfl⟩ := hm
        exact snd_box r hid ho h1 hv hp hz
    · cases hm
  · rename_i t ps ho
    split at hc
    · rename_i fs z hd hz
      obtain ⟨qs, h1, hc⟩ := Option.bind_eq_some_iff.1 hc
      split at hc
      · rename_i hk
        cases hc
        simp only [mval, Option.map_eq_some_iff, Prod.mk.injEq] at hm
        obtain ⟨⟨cs, H1⟩, hb, rfl, rfl⟩ := hm
        exact snd_build_s r ho hd hz h1 hk hb
      · cases hc
    · rename_i m' e z hd hz
      obtain ⟨qs, h1, hc⟩ := Option.bind_eq_some_iff.1 hc
      split at hc
      · rename_i hk
        cases hc
        simp only [mval, Option.map_eq_some_iff, Prod.mk.injEq] at hm
        obtain ⟨⟨cs, H1⟩, hb, rfl, rfl⟩ := hm
        exact snd_build_a r ho hd hz h1 hk hb
      · cases hc
    · cases hc
  · rename_i t n' ps ho
    split at hc
    · rename_i e he
      split at hc
      · rename_i z hz
        split at hc
        · rename_i hh
          obtain ⟨g1, g2, g3, g4, g5⟩ := hh
          obtain ⟨qs, h1, rfl⟩ := Option.map_eq_some_iff.1 hc
          simp only [mval, Option.map_eq_some_iff, Prod.mk.injEq] at hm
          obtain ⟨⟨l, H1⟩, hb, rfl, rfl⟩ := hm
          have hd : P.underlying t = some (.slice e) := by
            unfold elemT at he; split at he <;> simp_all
          exact snd_buildS r hid ho hd hz g4 g2 g3 g1 g5 h1 hb
        · cases hc
      · cases hc
    · cases hc
  · rename_i t x ho
    split at hc
    · rename_i hk
      obtain ⟨x', h1, rfl⟩ := Option.map_eq_some_iff.1 hc
      simp only [mval] at hm
      split at hm
      · rename_i cs hv
        simp only [Option.map_eq_some_iff, Prod.mk.injEq] at hm
        obtain ⟨p, hp, rfl, rfl⟩ := hm
        exact snd_ld_r r ho hk h1 hv hp
      · rename_i k i off hv
        split at hm
        · rename_i e he
          split at hm
          · rename_i hz
            split at hm
            · rename_i hf
              obtain ⟨w, hmx, hw⟩ := Option.map_eq_some_iff.1 hm
              simp only [Prod.mk.injEq] at hw
              obtain ⟨rfl, rfl⟩ := hw
              clear hm
              have hm := hmx
              clear hmx
              unfold ldX at hm
              split at hm
              · rename_i g rest hl
                split at hm
                · rename_i hc'
                  obtain ⟨c1, c2, rfl⟩ := hc'
                  split at hm
                  · rename_i j c p hrf hp
                    obtain ⟨k1, k2⟩ := snd_ld_n r ho hk c1 h1 hv he hz hf hl hrf hp (id := id)
                    split at hm
                    · rename_i hoj
                      split at hm
                      · cases hm
                      · cases hm
                        exact k1 c (by rw [hoj])
                    · rename_i hoj
                      split at hm
                      · cases hm
                      · rename_i hs
                        cases hm
                        exact k2 (fun i c' h => by simp at h; rw [← h.1]; exact hoj) (by simpa using hs)
                  · rename_i p hrf hp
                    obtain ⟨k1, k2⟩ := snd_ld_n r ho hk c1 h1 hv he hz hf hl hrf hp (id := id)
                    split at hm
                    · cases hm
                    · rename_i hs
                      cases hm
                      exact k2 (fun i c' h => by cases h) (by simpa using hs)
                  · cases hm
                · cases hm
              · cases hm
            · cases hm
          · split at hm
            · rename_i w hq
              split at hm
              · rename_i hlt
                simp only [Option.map_eq_some_iff, Prod.mk.injEq] at hm
                obtain ⟨p, hp, rfl, rfl⟩ := hm
                exact snd_ld_p r ho hk h1 hv he hq hlt hp
              · cases hm
            · cases hm
        · cases hm
      · cases hm
    · cases hc
  · rename_i t x y ho
    obtain ⟨rfl, W', ow', g1, g2⟩ := store_core r ho hc0 hm
    exact ⟨undef, _, _, _, .inr ⟨g1, rfl⟩, g2.monoF fun i h => .inl h, by simp [RepA], by simp [AV.men]⟩
  · rename_i x ho
    obtain ⟨x', h1, rfl⟩ := Option.map_eq_some_iff.1 hc
    simp only [mval] at hm
    split at hm
    · rename_i k i off hv
      split at hm
      · rename_i hk
        simp only [Option.some.injEq, Prod.mk.injEq] at hm
        obtain ⟨rfl, rfl⟩ := hm
        exact snd_chkP r ho h1 hv hk
      · cases hm
    · rename_i cs hv
      simp only [Option.some.injEq, Prod.mk.injEq] at hm
      obtain ⟨rfl, rfl⟩ := hm
      exact snd_chk r ho h1 hv (.inl ⟨_, rfl⟩)
    · rename_i f cs hv
      simp only [Option.some.injEq, Prod.mk.injEq] at hm
      obtain ⟨rfl, rfl⟩ := hm
      exact snd_chk r ho h1 hv (.inr ⟨_, _, rfl⟩)
    · cases hm
  · rename_i t t' x ho
    split at hc
    · rename_i k0 k hd hd'
      obtain ⟨x', h1, rfl⟩ := Option.map_eq_some_iff.1 hc
      simp only [mval] at hm
      split at hm
      · rename_i k' i hv
        simp only [Option.some.injEq, Prod.mk.injEq] at hm
        obtain ⟨rfl, rfl⟩ := hm
        exact snd_conv r ho hd hd' h1 hv
      · cases hm
    · rename_i hd hd'
      obtain ⟨x', h1, rfl⟩ := Option.map_eq_some_iff.1 hc
      simp only [mval] at hm
      split at hm
      · rename_i b hv
        simp only [Option.some.injEq, Prod.mk.injEq] at hm
        obtain ⟨rfl, rfl⟩ := hm
        exact snd_convS r ho hd hd' h1 hv ⟨_, rfl⟩
      · cases hm
    · cases hc
  · rename_i f fi caps ho
    split at hc
    · rename_i hf
      obtain ⟨ys, h1, rfl⟩ := Option.map_eq_some_iff.1 hc
      simp only [mval, Option.map_eq_some_iff, Prod.mk.injEq] at hm
      obtain ⟨l, hl, rfl, rfl⟩ := hm
      exact snd_mkf r ho hf h1 hl
    · cases hc
  · rename_i t x y ho
    split at hc
    · rename_i e he
      split at hc
      · rename_i z i x' y' hz hi h1 h2
        split at hc
        · rename_i hh
          obtain ⟨g1, g2, g3, hk⟩ := hh
          cases hc
          have hd : P.underlying t = some (.slice e) := by
            unfold elemT at he; split at he <;> simp_all
          simp only [mval] at hm
          split at hm
          · rename_i n' c' hn hc'
            split at hm
            · rename_i hb
              obtain ⟨b1, b2, b3, b4⟩ := hb
              simp only [Option.some.injEq, Prod.mk.injEq] at hm
              obtain ⟨rfl, rfl⟩ := hm
              exact snd_mkS r hid ho hd hz hi hk g1 g2 g3 h1 h2 hn hc' b1 b2 b3 b4
            · cases hm
          · cases hm
        · cases hc
      · cases hc
    · cases hc
  · rename_i t x lo hi mx ho
    split at hc
    · rename_i hd
      split at hc
      · rename_i x' lo' hi' h1 h2 h3
        cases hc
        simp only [mval] at hm
        split at hm
        · rename_i b hv
          simp only [Option.map_eq_some_iff, Prod.mk.injEq] at hm
          obtain ⟨⟨i, j⟩, hb, rfl, rfl⟩ := hm
          exact snd_sls r ho hd h1 h2 h3 hv hb
        · cases hm
      · cases hc
    · rename_i e hd
      split at hc
      · rename_i hk
        split at hc
        · split at hc
          · rename_i x' lo' hi' d h1 h2 h3 h4
            cases hc
            simp only [mval] at hm
            split at hm
            · rename_i v hv
              split at hm
              · rename_i sz' l hl
                split at hm
                · rename_i hsz
                  subst hsz
                  split at hm
                  · rename_i i j hb
                    split at hm
                    · split at hm
                      · rename_i k
                        split at hm
                        · rename_i en he
                          split at hm
                          · cases hm
                          · rename_i hf
                            simp only [Option.some.injEq, Prod.mk.injEq] at hm
                            obtain ⟨rfl, rfl⟩ := hm
                            obtain ⟨en', he', hz, e1, rfl⟩ := rdRow_h hl
                            rw [he] at he'; cases he'
                            exact snd_slcO r hid ho hd hk h1 h2 h3 hv he e1 (by simp only [not_or] at hf; simpa using hf.1) hb hz
                        · cases hm
                      · cases hm
                    · simp only [Option.map_eq_some_iff, Prod.mk.injEq] at hm
                      obtain ⟨⟨p, H1⟩, hp, rfl, rfl⟩ := hm
                      exact snd_slc r ho hd hk h1 h2 h3 hv hl hb hp
                  · cases hm
                · cases hm
              · cases hm
            · cases hm
          · cases hc
        · split at hc
          · obtain ⟨x', h1, rfl⟩ := Option.map_eq_some_iff.1 hc
            simp only [mval] at hm
            split at hm
            · rename_i v hv
              split at hm
              · rename_i l hl
                simp only [Option.some.injEq, Prod.mk.injEq] at hm
                obtain ⟨rfl, rfl⟩ := hm
                exact snd_sl0 r hid ho hd hk h1 hv hl
              · cases hm
            · cases hm
          · cases hc
        · cases hc
      · cases hc
    · cases hc
  · rename_i t x i ho
    split at hc
    · rename_i fs hd
      split at hc
      · rename_i f hf
        split at hc
        · rename_i hk
          obtain ⟨x', h1, rfl⟩ := Option.map_eq_some_iff.1 hc
          simp only [mval] at hm
          split at hm
          · rename_i k j off hv
            split at hm
            · rename_i he
              obtain ⟨en, he⟩ := Option.isSome_iff_exists.1 he
              simp only [Option.some.injEq, Prod.mk.injEq] at hm
              obtain ⟨rfl, rfl⟩ := hm
              exact snd_fa_p r ho hd hf hk.1 hk.2 h1 hv he
            · cases hm
          · rename_i cs hv
            simp only [Option.some.injEq, Prod.mk.injEq] at hm
            obtain ⟨rfl, rfl⟩ := hm
            exact snd_fa_r r ho hd hf hk.1 hk.2 h1 hv
          · cases hm
        · cases hc
      · cases hc
    · cases hc
  · rename_i t x i ho
    split at hc
    · rename_i fs hd
      split at hc
      · rename_i f hf
        split at hc
        · rename_i hk
          obtain ⟨x', h1, rfl⟩ := Option.map_eq_some_iff.1 hc
          simp only [mval] at hm
          split at hm
          · rename_i cs hv
            simp only [Option.map_eq_some_iff, Prod.mk.injEq] at hm
            obtain ⟨p, hp, rfl, rfl⟩ := hm
            exact snd_fld r ho hd hf hk h1 hv hp
          · cases hm
        · cases hc
      · cases hc
    · cases hc
  · rename_i t x y ho
    split at hc
    · rename_i e x' y' hd h1 h2
      split at hc
      · rename_i hk
        cases hc
        simp only [mval] at hm
        split at hm
        · rename_i sz' l j hv hj
          split at hm
          · rename_i hh
            obtain ⟨h0, rfl⟩ := hh
            simp only [Option.map_eq_some_iff, Prod.mk.injEq] at hm
            obtain ⟨p, hp, rfl, rfl⟩ := hm
            exact snd_ia_v r ho hd hk.1 hk.2 h1 h2 hv hj h0 hp
          · cases hm
        · rename_i k j hv hj
          split at hm
          · rename_i en he
            split at hm
            · rename_i hz
              split at hm
              · rename_i hh
                obtain ⟨c1, c2, c3, c4⟩ := hh
                simp only [Option.some.injEq, Prod.mk.injEq] at hm
                obtain ⟨rfl, rfl⟩ := hm
                exact snd_ia_n r ho hd hk.1 c1 h1 h2 hv he hz c3 hj c2 c4
              · cases hm
            · split at hm
              · rename_i hh
                obtain ⟨h0, hes⟩ := hh
                simp only [Option.map_eq_some_iff, Prod.mk.injEq] at hm
                obtain ⟨p, hp, rfl, rfl⟩ := hm
                exact snd_ia_h r ho hd hk.1 hk.2 h1 h2 hv he hes hj h0 hp
              · cases hm
          · cases hm
        · cases hm
      · cases hc
    · rename_i n' e x' y' hd h1 h2
      split at hc
      · rename_i hk
        cases hc
        simp only [mval] at hm
        split at hm
        · rename_i k i off j hv hj
          split at hm
          · rename_i hh
            obtain ⟨h0, hlt, he⟩ := hh
            obtain ⟨en, he⟩ := Option.isSome_iff_exists.1 he
            simp only [Option.some.injEq, Prod.mk.injEq] at hm
            obtain ⟨rfl, rfl⟩ := hm
            exact snd_iaA_p r ho hd hk h1 h2 hv he hj h0 hlt
          · cases hm
        · rename_i cs j hv hj
          split at hm
          · rename_i hh
            obtain ⟨h0, hlt⟩ := hh
            simp only [Option.some.injEq, Prod.mk.injEq] at hm
            obtain ⟨rfl, rfl⟩ := hm
            exact snd_iaA_r r ho hd hk h1 h2 hv hj h0 hlt
          · cases hm
        · cases hm
      · cases hc
    · cases hc
  · rename_i t x y ho
    split at hc
    · rename_i x' y' hd h1 h2
      cases hc
      simp only [mval] at hm
      split at hm
      · rename_i b i hv hi
        split at hm
        · rename_i h0
          simp only [Option.map_eq_some_iff, Prod.mk.injEq] at hm
          obtain ⟨c, hcc, rfl, rfl⟩ := hm
          exact snd_six r ho hd h1 h2 hv hi h0 hcc
        · cases hm
      · cases hm
    · rename_i n' e x' y' hd h1 h2
      split at hc
      · rename_i hk
        cases hc
        simp only [mval] at hm
        split at hm
        · rename_i cs j hv hj
          split at hm
          · rename_i hh
            simp only [Option.map_eq_some_iff, Prod.mk.injEq] at hm
            obtain ⟨p, hp, rfl, rfl⟩ := hm
            exact snd_aix r ho hd hk h1 h2 hv hj hh.1 hh.2 hp
          · cases hm
        · cases hm
      · cases hc
    · cases hc
  · rename_i x i ho
    obtain ⟨x', h1, rfl⟩ := Option.map_eq_some_iff.1 hc
    simp only [mval] at hm
    split at hm
    · rename_i l hv
      simp only [Option.map_eq_some_iff, Prod.mk.injEq] at hm
      obtain ⟨v, hl, rfl, rfl⟩ := hm
      exact snd_ext r ho h1 hv hl
    · cases hm
  · rename_i as ts ho
    split at hc
    · rename_i x t ha hts
      split at hc
      · rename_i hd
        obtain ⟨x', h1, rfl⟩ := Option.map_eq_some_iff.1 hc
        simp only [mval] at hm
        split at hm
        · rename_i b hv
          simp only [Option.some.injEq, Prod.mk.injEq] at hm
          obtain ⟨rfl, rfl⟩ := hm
          exact snd_len_str r ho ha hts hd h1 hv
        · cases hm
      · rename_i e hd
        obtain ⟨x', h1, rfl⟩ := Option.map_eq_some_iff.1 hc
        simp only [mval] at hm
        split at hm
        · rename_i v hv
          split at hm
          · rename_i sz l hl
            simp only [Option.some.injEq, Prod.mk.injEq] at hm
            obtain ⟨rfl, rfl⟩ := hm
            exact snd_len_row r ho ha hts hd h1 hv hl
          · cases hm
        · cases hm
      · cases hc
    · cases hc
  · rename_i as ts ho
    split at hc
    · rename_i x y ha
      split at hc
      · rename_i x' y' h1 h2
        cases hc
        simp only [mval] at hm
        split at hm
        · rename_i k i k' j hv hw
          simp only [Option.some.injEq, Prod.mk.injEq] at hm
          obtain ⟨rfl, rfl⟩ := hm
          exact snd_mm (mx := true) r ho ha h1 h2 hv hw
        · rename_i i j hv hw
          simp only [Option.some.injEq, Prod.mk.injEq] at hm
          obtain ⟨rfl, rfl⟩ := hm
          exact snd_mmS (mx := true) r ho ha h1 h2 hv hw
        · cases hm
      · cases hc
    · rename_i x y z ha
      split at hc
      · rename_i x' y' z' h1 h2 h3
        cases hc
        simp only [mval] at hm
        split at hm
        · rename_i k i k' j k'' m' hv hw hx
          simp only [Option.some.injEq, Prod.mk.injEq] at hm
          obtain ⟨rfl, rfl⟩ := hm
          exact snd_mm3 (mx := true) r ho ha h1 h2 h3 hv hw hx
        · cases hm
      · cases hc
    · cases hc
  · rename_i as ts ho
    split at hc
    · rename_i x y ha
      split at hc
      · rename_i x' y' h1 h2
        cases hc
        simp only [mval] at hm
        split at hm
        · rename_i k i k' j hv hw
          simp only [Option.some.injEq, Prod.mk.injEq] at hm
          obtain ⟨rfl, rfl⟩ := hm
          exact snd_mm (mx := false) r ho ha h1 h2 hv hw
        · rename_i i j hv hw
          simp only [Option.some.injEq, Prod.mk.injEq] at hm
          obtain ⟨rfl, rfl⟩ := hm
          exact snd_mmS (mx := false) r ho ha h1 h2 hv hw
        · cases hm
      · cases hc
    · rename_i x y z ha
      split at hc
      · rename_i x' y' z' h1 h2 h3
        cases hc
        simp only [mval] at hm
        split at hm
        · rename_i k i k' j k'' m' hv hw hx
          simp only [Option.some.injEq, Prod.mk.injEq] at hm
          obtain ⟨rfl, rfl⟩ := hm
          exact snd_mm3 (mx := false) r ho ha h1 h2 h3 hv hw hx
        · cases hm
      · cases hc
    · cases hc
  · rename_i as ts ho
    split at hc
    · rename_i x y t tx ha hts
      split at hc
      · rename_i e e2 he he2
        split at hc
        · rename_i i x' y' hi h1 h2
          split at hc
          · rename_i hz
            have hd : P.underlying t = some (.slice e) := by
              unfold elemT at he; split at he <;> simp_all
            have hd2 : P.underlying tx = some (.slice e2) := by
              unfold elemT at he2; split at he2 <;> simp_all
            split at hc
            · rename_i hnil
              cases hc
              simp only [mval] at hm
              split at hm
              · rename_i v hw
                split at hm
                · rename_i sz' ys hys
                  split at hm
                  · rename_i hh
                    obtain ⟨rfl, g4⟩ := hh
                    simp only [Option.some.injEq, Prod.mk.injEq] at hm
                    obtain ⟨rfl, rfl⟩ := hm
                    exact snd_cln r hid ho ha hts hd hd2 hi hz.1 hz.2 hnil.1 h2 hw hys g4 hnil.2
                  · cases hm
                · cases hm
              · cases hm
            cases hc
            simp only [mval] at hm
            split at hm
            · rename_i k v hv hw
              split at hm
              · rename_i en sz' ys hen hys
                split at hm
                · rename_i hh
                  obtain ⟨g1, g2, rfl, g4, _, g5⟩ := hh
                  simp only [Option.some.injEq, Prod.mk.injEq] at hm
                  obtain ⟨rfl, rfl⟩ := hm
                  exact snd_app r hid ho ha hts hd hd2 hi hz.1 hz.2 h1 h2 hv hw hen hys g1 g2 g4 g5
                · cases hm
              · cases hm
            · cases hm
          · cases hc
        · cases hc
      · cases hc
    · cases hc
  · cases hc
end
end Go.AM
