/- The walk. -/
import Derived.Test.YtlhpjeckaepdlaaTr7
import Derived.Test.YtlhpjeckaepdlaaProg
import Derived.KernelRfl
set_option linter.all false
set_option maxHeartbeats 2000000
namespace Go.Proofs
open Go Go.AM
attribute [local irreducible] Run Ends
theorem _root_.Go.AM.Run.loopU {P : Program} {D : AM.Fd} {G : AM.Gl} {x : MC} {k : List MI} {s : AM.St} (hl : D.rs.length ≤ 4) (h : Ex P D G 4000 .ctl (.code x :: .inLoop x :: k) s) : Run P D G (.code (.loop x) :: k) s := Run.loop (Ex.run hl h)
theorem _root_.Go.AM.Run.inLoopU {P : Program} {D : AM.Fd} {G : AM.Gl} {x : MC} {k : List MI} {s : AM.St} (hl : D.rs.length ≤ 4) (h : Ex P D G 4000 .ctl (.code x :: .inLoop x :: k) s) : Run P D G (.inLoop x :: k) s := Run.inLoop (Ex.run hl h)
theorem ex_has1 : hasU (xRed, [xAdj], ()) [xAdj] = true := by decide +kernel
theorem ex_has2 : hasU (xHouse, [xN, xPl], ()) [xN] = true := by decide +kernel
theorem fok96 : FOk Try.prog 96 [.v (brV exB), .v (.sl 2 (exU.map unitV))] [] (.I 0) [] := by
  have h1 := fok103 (xRed, [xAdj], ()) [xAdj] (ex_tags _ (by simp [exU])) (by simp)
  have h2 := fok103 (xHouse, [xN, xPl], ()) [xN] (ex_tags _ (by simp [exU])) (by simp)
  rw [ex_has1] at h1
  rw [ex_has2] at h2
  refine FOk.val k96 (by simp) (by simp) (by decide) ?_
  simp [c96, brV, exB, exU, unitV, shufV, slotV, wordsV]
  refine Run.loopU (by decide) ?_
  simp (disch := omega) [wrap_i64]
  refine Run.loopU (by decide) ?_
  simp (disch := omega) [wrap_i64]
  refine CallG.lent rfl rfl rfl rfl h1 rfl ?_
  simp (disch := omega) [wrap_i64]
  refine Run.inLoopU (by decide) ?_
  simp (disch := omega) [wrap_i64]
  refine CallG.lent rfl rfl rfl rfl h2 rfl ?_
  simp (disch := omega) [wrap_i64]
  refine Run.inLoopU (by decide) ?_
  simp (disch := omega) [wrap_i64]
  refine Run.inLoopU (by decide) ?_
  simp (disch := omega) [wrap_i64]
  exact Ends.v rfl (by simp)
def chV (c : Int × Int × Int) : PV := .st [.i c.1, .i c.2.1, .i c.2.2]
theorem fok60 : FOk Try.prog 60 [.v (brV exB), .v (.sl 2 (exU.map unitV))] [] (.v (.sl 3 [chV (0, 0, 2)])) [] := by
  have h1 := fok96
  refine FOk.val k60 (by simp) (by simp) (by decide) ?_
  simp [c60, brV, exB, exU, unitV, shufV, slotV, wordsV]
  simp [brV, exB, exU, unitV, shufV, slotV, wordsV] at h1
  refine Run.loopU (by decide) ?_
  simp (disch := omega) [wrap_i64]
  refine CallG.lent rfl rfl rfl rfl h1 rfl ?_
  simp (disch := omega) [wrap_i64]
  refine Run.inLoopU (by decide) ?_
  simp (disch := omega) [wrap_i64]
  exact Ends.v rfl (by simp [chV])
theorem fok66 (u : UnitT) : FOk Try.prog 66 [.v (brV exB), .v (unitV u)] [] (.I (-1)) [] := by
  obtain ⟨b, t, v⟩ := u
  have h1 := fok89 [] _ _ _ (fixFn 102 (unitV (b, t, v)).cells [] (by simp) (by simp) (by simp) (by simp)) (fun _ => false) (by simp) (by simp)
  refine FOk.val k66 (by simp) (by simp) (by decide) ?_
  simp [c66, brV, exB, unitV, shufV, slotV, wordsV]
  simp [unitV, idxF] at h1
  refine CallG.lent rfl rfl rfl rfl h1 rfl ?_
  simp
  exact Ends.v rfl (by simp)
theorem fok58 (u : UnitT) (h : u.2.1.length ≤ 1000000000) : FOk Try.prog 58 [.v (brV exB), .v (unitV u)] [] (.tup [.v (unitV u), .B false]) [] := by
  have h1 := fok66 u
  have h2 := fok74 u.2.1 h
  obtain ⟨b, t, v⟩ := u
  refine FOk.val k58 (by simp) (by simp) (by decide) ?_
  simp [c58, brV, exB, unitV, shufV, slotV, wordsV]
  simp [brV, exB, unitV, shufV, slotV, wordsV] at h1 h2
  refine CallG.lent rfl rfl rfl rfl h1 rfl ?_
  simp
  refine CallG.plain rfl rfl rfl rfl h2 (by simp) (by simp) ?_
  simp
  exact Ends.v rfl (by simp)
theorem fok59 (u : UnitT) : FOk Try.prog 59 [.v (unitV u)] [] (.B (decide (16 < u.2.1.length))) [] := by
  obtain ⟨b, t, v⟩ := u
  refine FOk.val k59 (by simp) (by simp) (by decide) ?_
  simp [c59, unitV]
  exact Ends.v rfl (by simp)
def inBut (take fr : List Bs) (s : Bs) : Bool := inW take s && !inW fr s
theorem fok98 (x : SlotT) (fr : List Bs) (s : Bs) (hx : slotS x) (hf : fr.length ≤ 200000000000000) : FOk Try.prog 98 [.v (txtV s), .rp (slotV x).cells, .rp [.word fr]] [] (.B (inBut x.2.2.2.2.1 fr s)) [] := by
  obtain ⟨o, b, t, f, k, u⟩ := x
  have h1 := fok69 k s hx.2.1.1
  have h2 := fok69 fr s hf
  refine FOk.val k98 (by simp) (by simp [slotV]) (by decide) ?_
  simp [c98, slotV, txtV]
  refine CallG.lent rfl rfl rfl rfl h1 rfl ?_
  simp only [inBut]
  cases inW k s
  · simp
    exact Ends.v rfl (by simp)
  · simp
    refine CallG.lent rfl rfl rfl rfl h2 rfl ?_
    simp
    exact Ends.v rfl (by simp)
/-- slices.DeleteFunc[[]string,string] -/
def c97 : MC :=
  .seq (.reg false [.op .none 4 (.nilS 1)]) <|
  .seq (.reg false [.op .none 8 (.mv (.t 0)),
    .op .none 9 (.mv (.t 1)),
    .call .none 10 (.f 112) [(.t 8), (.t 9)],
    .op .none 5 (.mv (.t 10))]) <|
  .seq (.seq (.reg false [.op .none 11 (.mv (.t 5)),
    .op .none 12 (.bin .eql (.t 11) (.c (.w (.int .i64 (-1)))))]) <|
  .cond (.t 12)
    (.seq (.reg false [.op .none 13 (.mv (.t 0)),
      .op .none 4 (.mv (.t 13))]) <|
    .ret)
    (.skip)) <|
  .seq (.seq (.reg false [.op .none 14 (.mv (.t 5)),
    .op .none 15 (.bin .add (.t 14) (.c (.w (.int .i64 1)))),
    .op .none 6 (.mv (.t 15))]) <|
  .block 0 <|
    .loop <|
      .seq (.seq (.reg false [.op .none 16 (.mv (.t 6)),
        .op .none 17 (.mv (.t 0)),
        .op .none 18 (.len false (.t 17)),
        .op .none 19 (.bin .lss (.t 16) (.t 18))]) <|
      .cond (.t 19)
        (.skip)
        (.exit 0)) <|
      .seq (.block 1 <|
        .seq (.reg false [.op .none 22 (.mv (.t 0)),
          .op .none 23 (.mv (.t 6)),
          .op .none 24 (.ia 1 (.t 22) (.t 23)),
          .op .none 25 (.ld false 1 (.t 24)),
          .op .none 7 (.mv (.t 25))]) <|
        .seq (.reg false [.op .none 26 (.mv (.t 1)),
          .op .none 27 (.mv (.t 7)),
          .call .none 28 (.t 26) [(.t 27)],
          .op .none 29 (.un .not (.t 28))]) <|
        .cond (.t 29)
          (.seq (.reg false [.op .none 30 (.mv (.t 0)),
            .op .none 31 (.mv (.t 5)),
            .op .none 32 (.mv (.t 7)),
            .op .none 33 (.ia 1 (.t 30) (.t 31)),
            .store .none false 1 (.t 33) (.t 32)]) <|
          .reg false [.op .none 34 (.mv (.t 5)),
            .op .none 35 (.bin .add (.t 34) (.c (.w (.int .i64 1)))),
            .op .none 5 (.mv (.t 35))])
          (.skip)) <|
      .reg false [.op .none 20 (.mv (.t 6)),
        .op .none 21 (.bin .add (.t 20) (.c (.w (.int .i64 1)))),
        .op .none 6 (.mv (.t 21))]) <|
  .seq (.reg false [.op .none 36 (.mv (.t 0)),
    .op .none 37 (.mv (.t 5)),
    .op .none 38 (.slc false 1 (.t 36) (.some (.t 37)) .none),
    .op .none 1023 (.clr 1 false [(.w (.string ⟨#[]⟩))] (.t 38))]) <|
  .seq (.reg false [.op .none 39 (.mv (.t 0)),
    .op .none 40 (.mv (.t 5)),
    .op .none 41 (.slc false 1 (.t 39) .none (.some (.t 40))),
    .op .none 4 (.mv (.t 41))]) <|
  .ret
theorem k97 : FnCode Try.prog 97 [] 42 [4] c97 := ⟨Try.f97, Try.func97, fun xs W => Try.call97 xs W, by kernel_rfl, by kernel_rfl, by kernel_rfl⟩

/-- ablaut/transfer.write -/
def c61 : MC :=
  .seq (.reg false [.op .none 3 (.box false (.t 0)),
    .op .none 6 (.alloc true [(.w (.string ⟨#[]⟩)), (.sl 1 [])])]) <|
  .seq (.reg false [.op .none 7 (.alloc true [(.w (.string ⟨#[]⟩)), (.sl 1 [])])]) <|
  .seq (.reg false [.op .none 17 (.ld true 5 (.t 3)),
    .call .none 18 (.f 88) [(.t 17)],
    .op .none 16 (.mv (.t 18)),
    .op .none 19 (.ext (.t 16) 0),
    .op .none 20 (.ext (.t 16) 1),
    .op .none 8 (.mv (.t 19)),
    .op .none 9 (.mv (.t 20))]) <|
  .seq (.seq (.reg false [.op .none 21 (.mv (.t 8))]) <|
  .block 0 <|
    .seq (.reg false [.op .none 22 (.asrt 118 true (.t 21)),
      .op .none 23 (.ext (.t 22) 1),
      .op .none 24 (.ext (.t 22) 0)]) <|
    .cond (.t 23)
      (.seq (.reg false [.op .none 10 (.mv (.t 24))]) <|
      .reg false [.op .none 25 (.mv (.t 2)),
        .op .none 26 (.mv (.t 10)),
        .op .none 27 (.ia 2 (.t 25) (.t 26)),
        .op .none 28 (.ld true 2 (.t 27)),
        .store .none true 2 (.t 7) (.t 28)])
      (.seq (.reg false [.op .none 29 (.asrt 120 true (.t 21)),
        .op .none 30 (.ext (.t 29) 1),
        .op .none 31 (.ext (.t 29) 0)]) <|
      .cond (.t 30)
        (.seq (.reg false [.op .none 11 (.alloc true [(.w (.string ⟨#[]⟩)), (.sl 1 [])]),
          .store .none true 2 (.t 11) (.t 31)]) <|
        .reg false [.op .none 32 (.fa 0 (.t 11)),
          .op .none 33 (.ld false 1 (.t 32)),
          .op .none 34 (.fa 1 (.t 11)),
          .op .none 35 (.ld false 1 (.t 34)),
          .op .none 36 (.build false [(.w (.string ⟨#[]⟩)), (.sl 1 [])] [(0, 1, (.t 33)), (1, 1, (.t 35))]),
          .store .none true 2 (.t 7) (.t 36)])
        (.skip))) <|
  .seq (.reg false [.op .none 37 (.fa 1 (.t 7)),
    .op .none 38 (.ld false 1 (.t 37)),
    .call .none 39 (.f 74) [(.t 38)],
    .op .none 40 (.fa 1 (.t 7)),
    .store .none false 1 (.t 40) (.t 39)]) <|
  .seq (.seq (.reg false [.op .none 41 (.fa 3 (.t 3)),
    .op .none 42 (.ld false 1 (.t 41)),
    .op .none 43 (.bin .eql (.t 42) (.c (.w (.int .i64 (-1)))))]) <|
  .cond (.t 43)
    (.seq (.reg false [.op .none 44 (.ld true 2 (.t 7)),
      .store .none true 2 (.t 6) (.t 44)]) <|
    .ret)
    (.skip)) <|
  .seq (.reg false [.op .none 45 (.mv (.t 1)),
    .op .none 46 (.fa 3 (.t 3)),
    .op .none 47 (.ld false 1 (.t 46)),
    .op .none 48 (.ia 2 (.t 45) (.t 47)),
    .op .none 49 (.fa 1 (.t 48)),
    .op .none 50 (.ld false 1 (.t 49)),
    .op .none 12 (.alloc false [(.sl 1 [])]),
    .store .none false 1 (.t 12) (.t 50)]) <|
  .seq (.reg false [.op .none 51 (.fa 1 (.t 7)),
    .op .none 52 (.ld false 1 (.t 51)),
    .op .none 53 (.mkf 98 [(.t 3), (.t 12)]),
    .call .none 54 (.f 97) [(.t 52), (.t 53)],
    .op .none 55 (.fa 1 (.t 7)),
    .store .none false 1 (.t 55) (.t 54)]) <|
  .seq (.reg false [.op .none 13 (.nilS 1)]) <|
  .seq (.seq (.reg false [.op .none 56 (.fa 4 (.t 3)),
    .op .none 57 (.ld false 1 (.t 56)),
    .op .none 58 (.len false (.t 57)),
    .op .none 59 (.mv (.c (.w (.int .i64 0))))]) <|
  .block 1 <|
    .loop <|
      .seq (.reg false [.op .none 60 (.bin .lss (.t 59) (.t 58))]) <|
      .seq (.cond (.t 60)
        (.skip)
        (.exit 1)) <|
      .seq (.block 2 <|
        .seq (.reg false [.op .none 61 (.ia 1 (.t 57) (.t 59)),
          .op .none 62 (.ld false 1 (.t 61)),
          .op .none 15 (.mv (.t 62))]) <|
        .seq (.reg false [.op .none 63 (.ld false 1 (.t 12)),
          .op .none 64 (.mv (.t 15)),
          .call .none 65 (.f 69) [(.t 63), (.t 64)]]) <|
        .cond (.t 65)
          (.reg false [.op .none 66 (.mv (.t 13)),
            .op .none 67 (.mv (.t 15)),
            .op .none 68 (.buildS false 1 1 false [(.w (.string ⟨#[]⟩))] [(0, (.t 67))]),
            .op .none 69 (.app 1 16 (.t 66) (.t 68)),
            .op .none 13 (.mv (.t 69))])
          (.skip)) <|
      .reg false [.op .none 70 (.bin .add (.t 59) (.c (.w (.int .i64 1)))),
        .op .none 59 (.mv (.t 70))]) <|
  .seq (.reg false [.op .none 71 (.fa 1 (.t 7)),
    .op .none 72 (.ld false 1 (.t 71)),
    .op .none 73 (.mv (.t 13)),
    .call .none 74 (.f 95) [(.t 72), (.t 73)],
    .op .none 75 (.fa 1 (.t 7)),
    .store .none false 1 (.t 75) (.t 74)]) <|
  .seq (.reg false [.op .none 76 (.ld true 2 (.t 7)),
    .store .none true 2 (.t 6) (.t 76)]) <|
  .ret
theorem k61 : FnCode Try.prog 61 [] 77 [5000054000006] c61 := ⟨Try.f61, Try.func61, fun xs W => Try.call61 xs W, by kernel_rfl, by kernel_rfl, by kernel_rfl⟩

/-- ablaut/transfer.Translate -/
def c15 : MC :=
  .seq (.reg false [.op .none 2 (.box false (.t 0)),
    .op .none 4 (.nilS 2),
    .op .none 5 (.mv (.c (.w (.int .i64 0))))]) <|
  .seq (.seq (.reg false [.op .none 19 (.ld true 2 (.t 2)),
    .op .none 20 (.mv (.t 1)),
    .call .none 21 (.f 57) [(.t 19), (.t 20)],
    .op .none 6 (.mv (.t 21))]) <|
  .seq (.reg false [.op .none 22 (.mv (.t 6)),
    .op .none 23 (.bin .neq (.t 22) (.c (.w (.int .i64 0))))]) <|
  .cond (.t 23)
    (.seq (.reg false [.op .none 24 (.mv (.t 6)),
      .op .none 4 (.nilS 2),
      .op .none 5 (.mv (.t 24))]) <|
    .ret)
    (.skip)) <|
  .seq (.reg false [.op .none 7 (.nilS 2)]) <|
  .seq (.seq (.reg false [.op .none 25 (.mv (.t 1)),
    .op .none 26 (.len false (.t 25)),
    .op .none 27 (.mv (.c (.w (.int .i64 0))))]) <|
  .block 0 <|
    .loop <|
      .seq (.reg false [.op .none 28 (.bin .lss (.t 27) (.t 26))]) <|
      .seq (.cond (.t 28)
        (.skip)
        (.exit 0)) <|
      .seq (.block 1 <|
        .seq (.reg false [.op .none 29 (.ia 2 (.t 25) (.t 27)),
          .op .none 30 (.ld true 2 (.t 29)),
          .op .none 9 (.alloc true [(.w (.string ⟨#[]⟩)), (.sl 1 [])]),
          .store .none true 2 (.t 9) (.t 30)]) <|
        .seq (.reg false [.op .none 32 (.ld true 2 (.t 2)),
          .op .none 33 (.ld true 2 (.t 9)),
          .call .none 34 (.f 58) [(.t 32), (.t 33)],
          .op .none 31 (.mv (.t 34)),
          .op .none 35 (.ext (.t 31) 0),
          .op .none 36 (.ext (.t 31) 1),
          .op .none 10 (.alloc true [(.w (.string ⟨#[]⟩)), (.sl 1 [])]),
          .store .none true 2 (.t 10) (.t 35),
          .op .none 11 (.mv (.t 36))]) <|
        .reg false [.op .none 37 (.mv (.t 7)),
          .op .none 38 (.ld true 2 (.t 10)),
          .op .none 39 (.buildS false 2 1 true [(.w (.string ⟨#[]⟩)), (.sl 1 [])] [(0, (.t 38))]),
          .op .none 40 (.app 2 40 (.t 37) (.t 39)),
          .op .none 7 (.mv (.t 40))]) <|
      .reg false [.op .none 41 (.bin .add (.t 27) (.c (.w (.int .i64 1)))),
        .op .none 27 (.mv (.t 41))]) <|
  .seq (.reg false [.op .none 12 (.mv (.f 59))]) <|
  .seq (.seq (.reg false [.op .none 42 (.mv (.t 7)),
    .op .none 43 (.mv (.t 12)),
    .call .none 44 (.f 51) [(.t 42), (.t 43)]]) <|
  .cond (.t 44)
    (.seq (.reg false [.op .none 4 (.nilS 2),
      .op .none 5 (.mv (.c (.w (.int .i64 3))))]) <|
    .ret)
    (.skip)) <|
  .seq (.reg false [.op .none 13 (.nilS 2)]) <|
  .seq (.reg false [.op .none 14 (.mv (.c (.w (.int .i64 0))))]) <|
  .seq (.seq (.reg false [.op .none 45 (.ld true 2 (.t 2)),
    .op .none 46 (.mv (.t 1)),
    .call .none 47 (.f 60) [(.t 45), (.t 46)],
    .op .none 48 (.len false (.t 47)),
    .op .none 49 (.mv (.c (.w (.int .i64 0))))]) <|
  .block 2 <|
    .loop <|
      .seq (.reg false [.op .none 50 (.bin .lss (.t 49) (.t 48))]) <|
      .seq (.cond (.t 50)
        (.skip)
        (.exit 2)) <|
      .seq (.block 3 <|
        .seq (.reg false [.op .none 51 (.ia 3 (.t 47) (.t 49)),
          .op .none 52 (.ld true 3 (.t 51)),
          .op .none 16 (.alloc true [(.w (.int .i64 0)), (.w (.int .i64 0)), (.w (.int .i64 0))]),
          .store .none true 3 (.t 16) (.t 52)]) <|
        .seq (.reg false [.op .none 53 (.mv (.t 13)),
          .op .none 54 (.mv (.t 7)),
          .op .none 55 (.mv (.t 14)),
          .op .none 56 (.iaA 3 1 (.t 16) (.c (.w (.int .i64 1)))),
          .op .none 57 (.ld false 1 (.t 56)),
          .op .none 58 (.slc false 2 (.t 54) (.some (.t 55)) (.some (.t 57))),
          .op .none 59 (.app 2 40 (.t 53) (.t 58)),
          .op .none 13 (.mv (.t 59))]) <|
        .seq (.seq (.reg false [.op .none 60 (.fa 1 (.t 2)),
          .op .none 61 (.ld false 1 (.t 60)),
          .op .none 62 (.iaA 3 1 (.t 16) (.c (.w (.int .i64 0)))),
          .op .none 63 (.ld false 1 (.t 62)),
          .op .none 64 (.ia 2 (.t 61) (.t 63)),
          .op .none 65 (.fa 1 (.t 64)),
          .op .none 66 (.ld false 1 (.t 65)),
          .op .none 67 (.len false (.t 66)),
          .op .none 68 (.mv (.c (.w (.int .i64 0))))]) <|
        .block 4 <|
          .loop <|
            .seq (.reg false [.op .none 69 (.bin .lss (.t 68) (.t 67))]) <|
            .seq (.cond (.t 69)
              (.skip)
              (.exit 4)) <|
            .seq (.block 5 <|
              .seq (.reg false [.op .none 70 (.ia 5 (.t 66) (.t 68)),
                .op .none 71 (.ld true 5 (.t 70)),
                .op .none 18 (.alloc true [(.w (.int .i64 0)), (.w (.string ⟨#[]⟩)), (.sl 1 []), (.w (.int .i64 0)), (.sl 1 [])]),
                .store .none true 5 (.t 18) (.t 71)]) <|
              .reg true [.op .none 72 (.mv (.t 13)),
                .op .none 73 (.ld true 5 (.t 18)),
                .op .none 74 (.mv (.t 1)),
                .op .none 75 (.iaA 3 1 (.t 16) (.c (.w (.int .i64 1)))),
                .op .none 76 (.ld false 1 (.t 75)),
                .op .none 77 (.iaA 3 1 (.t 16) (.c (.w (.int .i64 2)))),
                .op .none 78 (.ld false 1 (.t 77)),
                .op .none 79 (.slc false 2 (.t 74) (.some (.t 76)) (.some (.t 78))),
                .op .none 80 (.mv (.t 7)),
                .op .none 81 (.iaA 3 1 (.t 16) (.c (.w (.int .i64 1)))),
                .op .none 82 (.ld false 1 (.t 81)),
                .op .none 83 (.iaA 3 1 (.t 16) (.c (.w (.int .i64 2)))),
                .op .none 84 (.ld false 1 (.t 83)),
                .op .none 85 (.slc false 2 (.t 80) (.some (.t 82)) (.some (.t 84))),
                .call .none 86 (.f 61) [(.t 73), (.t 79), (.t 85)],
                .op .none 87 (.buildS false 2 1 true [(.w (.string ⟨#[]⟩)), (.sl 1 [])] [(0, (.t 86))]),
                .op .none 88 (.app 2 40 (.t 72) (.t 87)),
                .op .none 13 (.mv (.t 88))]) <|
            .reg false [.op .none 89 (.bin .add (.t 68) (.c (.w (.int .i64 1)))),
              .op .none 68 (.mv (.t 89))]) <|
        .reg false [.op .none 90 (.iaA 3 1 (.t 16) (.c (.w (.int .i64 2)))),
          .op .none 91 (.ld false 1 (.t 90)),
          .op .none 14 (.mv (.t 91))]) <|
      .reg false [.op .none 92 (.bin .add (.t 49) (.c (.w (.int .i64 1)))),
        .op .none 49 (.mv (.t 92))]) <|
  .seq (.reg false [.op .none 93 (.mv (.t 13)),
    .op .none 94 (.mv (.t 7)),
    .op .none 95 (.mv (.t 14)),
    .op .none 96 (.slc false 2 (.t 94) (.some (.t 95)) .none),
    .op .none 97 (.app 2 40 (.t 93) (.t 96)),
    .op .none 13 (.mv (.t 97))]) <|
  .seq (.seq (.reg false [.op .none 98 (.mv (.t 13)),
    .op .none 99 (.len false (.t 98)),
    .op .none 100 (.bin .gtr (.t 99) (.c (.w (.int .i64 200)))),
    .op .none 101 (.mv (.t 100)),
    .op (.some (101, false)) 102 (.mv (.t 13)),
    .op (.some (101, false)) 103 (.mv (.t 12)),
    .call (.some (101, false)) 104 (.f 51) [(.t 102), (.t 103)],
    .op .none 105 (.pick (.t 101) (.c (.w (.bool true))) (.t 104))]) <|
  .cond (.t 105)
    (.seq (.reg false [.op .none 4 (.nilS 2),
      .op .none 5 (.mv (.c (.w (.int .i64 3))))]) <|
    .ret)
    (.skip)) <|
  .seq (.reg false [.op .none 106 (.mv (.t 13)),
    .op .none 4 (.mv (.t 106)),
    .op .none 5 (.mv (.c (.w (.int .i64 0))))]) <|
  .ret
theorem k15 : FnCode Try.prog 15 [] 107 [4, 5] c15 := ⟨Try.f15, Try.func15, fun xs W => Try.call15 xs W, by kernel_rfl, by kernel_rfl, by kernel_rfl⟩

/-- Nothing is dropped. -/
theorem fok97 (l : List Bs) (u : AV) (f : Nat) (caps : List AV) (hu : Fix u f caps) (p : Bs → Bool) (hf : ∀ x ∈ l, FOk Try.prog f (.v (txtV x) :: caps) [] (.B (p x)) []) (hl : l.length ≤ 200000000000000) (hn : ∀ x ∈ l, p x = false) :
    FOk Try.prog 97 [.v (.word l), u] [] (.v (.word l)) [] := by
  have hm := hu.men
  have hpa := hu.pass
  have h1 := fok112 l u f caps hu p hf hl
  have e : idxF p l 0 = -1 := by
    rcases idxF_find p l 0 with ⟨q, _⟩ | ⟨k, _, hk, _, hp, _⟩
    · exact q
    · rw [hn _ (List.getElem_mem hk)] at hp; cases hp
  rw [e] at h1
  refine FOk.val k97 (by simp) (by simp; intro k h; exact absurd h (hm k)) (by decide) ?_
  simp [c97]
  refine CallG.lent rfl rfl rfl (passAs_cons rfl (passAs_cons (hpa _ _) rfl)) h1 rfl ?_
  simp
  exact Ends.v rfl (by simp)
/-- A clone is a row of its own. -/
theorem fokO74 (w : List Bs) (hw : w.length ≤ 1000000000) : FOk Try.prog 74 [.v (.word w)] [] (.h 0) [(0, ⟨false, 1, w.map fun s => .w (.string (bs s))⟩)] := by
  refine FOk.of k74 0 (by simp) (by decide) (by simp) (by simp) (by simp [find]) (by decide) ?_
  rcases w with _ | ⟨s, w⟩
  · simp [c74]
    exact ⟨Ends.new 17410 rfl rfl (by simp) (by simp), Ends.new 17415 rfl rfl (by simp) (by simp)⟩
  · have h2 : (w.length + 1 + 1000) * 16 ≤ 70368744177664 := by simp at hw; omega
    simp [c74, h2]
    exact Ends.new 17415 rfl rfl (by simp) (by simp)
theorem fok95 : FOk Try.prog 95 [.v (.word [xAdj]), .v (.word [xPl])] [] (.v (.word [xAdj, xPl])) [] := by
  have h1 := fokO74 [xAdj] (by simp)
  have h2 := fok69 [xAdj] xPl (by simp)
  have e : inW [xAdj] xPl = false := by decide +kernel
  rw [e] at h2
  refine FOk.val k95 (by simp) (by simp) (by decide) ?_
  simp [c95]
  simp at h1 h2
  refine CallG.plain rfl rfl rfl rfl h1 (by simp) (by simp) ?_
  simp
  refine Run.loopU (by decide) ?_
  simp (disch := omega) [wrap_i64]
  refine CallG.lent rfl rfl rfl rfl h2 rfl ?_
  simp (disch := omega) [wrap_i64]
  refine Run.inLoopU (by decide) ?_
  simp (disch := omega) [wrap_i64]
  exact Ends.v rfl (by simp)

end Go.Proofs
