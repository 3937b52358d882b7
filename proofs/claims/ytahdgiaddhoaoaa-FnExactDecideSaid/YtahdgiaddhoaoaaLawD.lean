/- The contract of the law FnExactDecide: it answers true. -/
import Derived.Test.YtahdgiaddhoaoaaConD
import Derived.Test.YtahdgiaddhoaoaaTxtD

set_option maxRecDepth 100000
set_option linter.unusedSimpArgs false
set_option linter.unusedVariables false
namespace Go.Sim
open Go.Proofs

theorem ct56x {b : Book} (hb : Wide b) : Ct Try.prog 56 [vBook b, .i 1048576] [] (fun v H => ∃ r : Int, v = .i r ∧ H = [] ∧ (0 ≤ r → Sized b) ∧ r ≤ 1048576) := by
  apply c56; unfold t56
  have hbx := vBook_eq b
  simp only [go_sem, Nat.reduceAdd, Nat.reduceSub, Nat.reduceMul, Nat.reduceLeDiff, Nat.reduceLT, Nat.reduceEqDiff, ↓reduceIte, Nat.reducePow, reduceCtorEq, Int.reduceLE, Int.reduceLT, Int.reduceToNat, ← List.map_take, ← List.map_drop, Int.reduceBEq, Int.reduceBNe, hbx]
  refine pCall_new (ct42 (by omega) (by omega) hb.field hb.names) rfl ?_
  rintro _ _ ⟨r1, rfl, rfl, hr1, hs1⟩
  simp only [go_sem, Nat.reduceAdd, Nat.reduceSub, Nat.reduceMul, Nat.reduceLeDiff, Nat.reduceLT, Nat.reduceEqDiff, ↓reduceIte, Nat.reducePow, reduceCtorEq, Int.reduceLE, Int.reduceLT, Int.reduceToNat, ← List.map_take, ← List.map_drop, Int.reduceBEq, Int.reduceBNe]
  refine ⟨fun h => pWk_done rfl ⟨-1, rfl, rfl, by omega, by omega⟩, fun h1 => ?_⟩
  refine pCall_new (ct171 (u := b.rules) (by omega) (by omega) hb.ladder) rfl ?_
  rintro _ _ ⟨r2, rfl, rfl, hr2, hs2⟩
  simp only [go_sem, Nat.reduceAdd, Nat.reduceSub, Nat.reduceMul, Nat.reduceLeDiff, Nat.reduceLT, Nat.reduceEqDiff, ↓reduceIte, Nat.reducePow, reduceCtorEq, Int.reduceLE, Int.reduceLT, Int.reduceToNat, ← List.map_take, ← List.map_drop, Int.reduceBEq, Int.reduceBNe]
  refine ⟨fun h => pWk_done rfl ⟨-1, rfl, rfl, by omega, by omega⟩, fun h2 => ?_⟩
  refine pCall_new (ct172 (by omega) (by omega) hb.games) rfl ?_
  rintro _ _ ⟨r3, rfl, rfl, hr3, hs3⟩
  simp only [go_sem, Nat.reduceAdd, Nat.reduceSub, Nat.reduceMul, Nat.reduceLeDiff, Nat.reduceLT, Nat.reduceEqDiff, ↓reduceIte, Nat.reducePow, reduceCtorEq, Int.reduceLE, Int.reduceLT, Int.reduceToNat, ← List.map_take, ← List.map_drop, Int.reduceBEq, Int.reduceBNe]
  refine ⟨fun h => pWk_done rfl ⟨-1, rfl, rfl, by omega, by omega⟩, fun h3 => ?_⟩
  refine pCall_new (ct173 (by omega) (by omega) hb.fair) rfl ?_
  rintro _ _ ⟨r4, rfl, rfl, hr4, hs4⟩
  simp only [go_sem, Nat.reduceAdd, Nat.reduceSub, Nat.reduceMul, Nat.reduceLeDiff, Nat.reduceLT, Nat.reduceEqDiff, ↓reduceIte, Nat.reducePow, reduceCtorEq, Int.reduceLE, Int.reduceLT, Int.reduceToNat, ← List.map_take, ← List.map_drop, Int.reduceBEq, Int.reduceBNe]
  refine ⟨fun h => pWk_done rfl ⟨-1, rfl, rfl, by omega, by omega⟩, fun h4 => ?_⟩
  refine pCall_new (ct173 (by omega) (by omega) hb.taken) rfl ?_
  rintro _ _ ⟨r5, rfl, rfl, hr5, hs5⟩
  simp only [go_sem, Nat.reduceAdd, Nat.reduceSub, Nat.reduceMul, Nat.reduceLeDiff, Nat.reduceLT, Nat.reduceEqDiff, ↓reduceIte, Nat.reducePow, reduceCtorEq, Int.reduceLE, Int.reduceLT, Int.reduceToNat, ← List.map_take, ← List.map_drop, Int.reduceBEq, Int.reduceBNe]
  refine ⟨fun h => pWk_done rfl ⟨-1, rfl, rfl, by omega, by omega⟩, fun h5 => pWk_done rfl ⟨r5, rfl, rfl, fun _ => ?_, by omega⟩⟩
  obtain ⟨g1, g2⟩ := hs1 (by omega)
  have g3 := hs2 (by omega)
  have g4 := hs3 (by omega)
  have g5 := hs4 (by omega)
  have g6 := hs5 (by omega)
  exact ⟨by omega, fun t ht => by have := g2 t ht; omega, by omega, by omega, by omega, by omega⟩


theorem tt_dec {b : Book} {l : List Prot} (h : decOk (tt b) l = true) : tt { tt b with games := decB awardedG (tt b) l } = tt (tt { tt b with games := decB awardedS (tt b) l }) := by
  rw [decB_eq h]; rfl
theorem view_lp {f : Nat → Option (Bool × Nat × List V)} {i n : Nat} {l : List Prot} (e : l.length = n) (h : f i = some (true, 3, l.map vProt)) : (V.ref i 0 n).view f = vProts true l := view_ref h (by simpa using e)

theorem law15 {b : Book} {nn : Bool} {l : List Prot} (hb : Wide b) (hl : l.length < 9223372036854775808) : Ct Try.prog 15 [vBook b, vProts nn l] [] (fun v H => v = .bool true ∧ H = []) := by
  apply c15; unfold t15
  have hbx := vBook_eq b
  simp only [go_sem, Nat.reduceAdd, Nat.reduceSub, Nat.reduceMul, Nat.reduceLeDiff, Nat.reduceLT, Nat.reduceEqDiff, ↓reduceIte, Nat.reducePow, reduceCtorEq, Int.reduceLE, Int.reduceLT, Int.reduceToNat, ← List.map_take, ← List.map_drop, Int.reduceBEq, Int.reduceBNe, hbx]
  refine pCall_new (ct56x hb) rfl ?_
  rintro _ _ ⟨r, rfl, rfl, hr, hr2⟩
  simp only [go_sem, Nat.reduceAdd, Nat.reduceSub, Nat.reduceMul, Nat.reduceLeDiff, Nat.reduceLT, Nat.reduceEqDiff, ↓reduceIte, Nat.reducePow, reduceCtorEq, Int.reduceLE, Int.reduceLT, Int.reduceToNat, ← List.map_take, ← List.map_drop, Int.reduceBEq, Int.reduceBNe]
  refine ⟨fun h => pWk_done rfl ⟨rfl, rfl⟩, fun h => ?_⟩
  have hz := hr (by omega)
  have hzt := tt_sized hz
  have hmn : markN b < 1000000000 := by
    have := hz.field
    have := hz.ladder
    have := hz.games
    have := hz.fair
    have := hz.taken
    unfold markN; omega
  refine pCall_new (ct93 (by omega) hr2 hl) rfl ?_
  rintro _ _ ⟨r1, rfl, rfl, hr3, hr4⟩
  simp only [go_sem, Nat.reduceAdd, Nat.reduceSub, Nat.reduceMul, Nat.reduceLeDiff, Nat.reduceLT, Nat.reduceEqDiff, ↓reduceIte, Nat.reducePow, reduceCtorEq, Int.reduceLE, Int.reduceLT, Int.reduceToNat, ← List.map_take, ← List.map_drop, Int.reduceBEq, Int.reduceBNe]
  refine ⟨fun h => pWk_done rfl ⟨rfl, rfl⟩, fun h' => ?_⟩
  have hll := hr4 (by omega)
  refine k58 hz ?_
  try simp only [go_sem, Nat.reduceAdd, Nat.reduceSub, Nat.reduceMul, Nat.reduceLeDiff, Nat.reduceLT, Nat.reduceEqDiff, ↓reduceIte, Nat.reducePow, reduceCtorEq, Int.reduceLE, Int.reduceLT, Int.reduceToNat, ← List.map_take, ← List.map_drop, Int.reduceBEq, Int.reduceBNe, sBook, gBook]
  refine pCall_new (ct95 (l := l) (nn := nn) (by omega)) rfl ?_
  rintro _ _ ⟨rfl, rfl⟩
  try simp only [go_sem, Nat.reduceAdd, Nat.reduceSub, Nat.reduceMul, Nat.reduceLeDiff, Nat.reduceLT, Nat.reduceEqDiff, ↓reduceIte, Nat.reducePow, reduceCtorEq, Int.reduceLE, Int.reduceLT, Int.reduceToNat, ← List.map_take, ← List.map_drop, Int.reduceBEq, Int.reduceBNe]
  refine k94 (b := tt b) (nn := true) (l := l) [1, 2, 3, 4, 5, 6] hzt (by omega) (eq_two (view_sBook (n := 1) (b := b) rfl rfl rfl rfl rfl) (view_lp rfl rfl)) (fun hok => ?_) (fun hno => ?_)
  · try simp only [go_sem, Nat.reduceAdd, Nat.reduceSub, Nat.reduceMul, Nat.reduceLeDiff, Nat.reduceLT, Nat.reduceEqDiff, ↓reduceIte, Nat.reducePow, reduceCtorEq, Int.reduceLE, Int.reduceLT, Int.reduceToNat, ← List.map_take, ← List.map_drop, Int.reduceBEq, Int.reduceBNe, sBook, gBook]
    refine k58 hz ?_
    try simp only [go_sem, Nat.reduceAdd, Nat.reduceSub, Nat.reduceMul, Nat.reduceLeDiff, Nat.reduceLT, Nat.reduceEqDiff, ↓reduceIte, Nat.reducePow, reduceCtorEq, Int.reduceLE, Int.reduceLT, Int.reduceToNat, ← List.map_take, ← List.map_drop, Int.reduceBEq, Int.reduceBNe, sBook, gBook]
    refine pCall_new (ct95 (l := l) (nn := nn) (by omega)) rfl ?_
    rintro _ _ ⟨rfl, rfl⟩
    try simp only [go_sem, Nat.reduceAdd, Nat.reduceSub, Nat.reduceMul, Nat.reduceLeDiff, Nat.reduceLT, Nat.reduceEqDiff, ↓reduceIte, Nat.reducePow, reduceCtorEq, Int.reduceLE, Int.reduceLT, Int.reduceToNat, ← List.map_take, ← List.map_drop, Int.reduceBEq, Int.reduceBNe]
    refine k65 (b := tt b) (nn := true) (l := l) [13, 14, 15, 16, 17, 19] hzt (tt_nils b) (by omega) (eq_two (view_sBook (n := 13) (b := b) rfl rfl rfl rfl rfl) (view_lp rfl rfl)) (fun _ => ?_) (fun h => absurd (hok.symm.trans h) (by decide))
    try simp only [go_sem, Nat.reduceAdd, Nat.reduceSub, Nat.reduceMul, Nat.reduceLeDiff, Nat.reduceLT, Nat.reduceEqDiff, ↓reduceIte, Nat.reducePow, reduceCtorEq, Int.reduceLE, Int.reduceLT, Int.reduceToNat, ← List.map_take, ← List.map_drop, Int.reduceBEq, Int.reduceBNe, rBook, hBook]
    refine pCall_see [7, 8, 9, 10, 11, 20, 21, 22, 23, 24] (ct61 (a := { tt b with games := decB awardedG (tt b) l }) (b := (tt { tt b with games := decB awardedS (tt b) l })) (tt_sized (dec_sized hzt)) (tt_dec hok))
      (eq_two (view_book { tt b with games := decB awardedG (tt b) l } rfl rfl (by simp [decB_len]) rfl rfl rfl rfl rfl rfl rfl) (view_book (tt { tt b with games := decB awardedS (tt b) l }) rfl rfl (by simp [tt, decB_len]) rfl rfl rfl rfl rfl rfl rfl)) rfl rfl rfl ?_
    try simp only [go_sem, Nat.reduceAdd, Nat.reduceSub, Nat.reduceMul, Nat.reduceLeDiff, Nat.reduceLT, Nat.reduceEqDiff, ↓reduceIte, Nat.reducePow, reduceCtorEq, Int.reduceLE, Int.reduceLT, Int.reduceToNat, ← List.map_take, ← List.map_drop, Int.reduceBEq, Int.reduceBNe, bne_self_eq_false]
    refine k58 hz ?_
    try simp only [go_sem, Nat.reduceAdd, Nat.reduceSub, Nat.reduceMul, Nat.reduceLeDiff, Nat.reduceLT, Nat.reduceEqDiff, ↓reduceIte, Nat.reducePow, reduceCtorEq, Int.reduceLE, Int.reduceLT, Int.reduceToNat, ← List.map_take, ← List.map_drop, Int.reduceBEq, Int.reduceBNe, sBook, gBook]
    refine pCall_see [13, 14, 15, 16, 17, 26, 27, 28, 29, 30] (ct61 (a := tt b) (b := tt b) hzt rfl) (eq_two (view_sBook (n := 13) (b := b) rfl rfl rfl rfl rfl) (view_sBook (n := 26) (b := b) rfl rfl rfl rfl rfl)) rfl rfl rfl ?_
    try simp only [go_sem, Nat.reduceAdd, Nat.reduceSub, Nat.reduceMul, Nat.reduceLeDiff, Nat.reduceLT, Nat.reduceEqDiff, ↓reduceIte, Nat.reducePow, reduceCtorEq, Int.reduceLE, Int.reduceLT, Int.reduceToNat, ← List.map_take, ← List.map_drop, Int.reduceBEq, Int.reduceBNe]
    refine pCall_new (ct95 (l := l) (nn := nn) (by omega)) rfl ?_
    rintro _ _ ⟨rfl, rfl⟩
    try simp only [go_sem, Nat.reduceAdd, Nat.reduceSub, Nat.reduceMul, Nat.reduceLeDiff, Nat.reduceLT, Nat.reduceEqDiff, ↓reduceIte, Nat.reducePow, reduceCtorEq, Int.reduceLE, Int.reduceLT, Int.reduceToNat, ← List.map_take, ← List.map_drop, Int.reduceBEq, Int.reduceBNe]
    refine pCall_see [19, 31] (ct96 (n1 := true) (n2 := true) (l := l) (by omega)) (eq_two (view_lp rfl rfl) (view_lp rfl rfl)) rfl rfl rfl ?_
    try simp only [go_sem, Nat.reduceAdd, Nat.reduceSub, Nat.reduceMul, Nat.reduceLeDiff, Nat.reduceLT, Nat.reduceEqDiff, ↓reduceIte, Nat.reducePow, reduceCtorEq, Int.reduceLE, Int.reduceLT, Int.reduceToNat, ← List.map_take, ← List.map_drop, Int.reduceBEq, Int.reduceBNe]
    refine pCall_with false [] [] [13, 14, 15, 16, 17] (ct91 (b := b) hz) rfl rfl rfl ?_
    rintro _ _ ⟨rfl, rfl⟩
    refine ⟨fun h => (by cases h), ?_⟩
    try simp only [go_sem, Nat.reduceAdd, Nat.reduceSub, Nat.reduceMul, Nat.reduceLeDiff, Nat.reduceLT, Nat.reduceEqDiff, ↓reduceIte, Nat.reducePow, reduceCtorEq, Int.reduceLE, Int.reduceLT, Int.reduceToNat, ← List.map_take, ← List.map_drop, Int.reduceBEq, Int.reduceBNe, gBook]
    refine pCall_with false [] [] [19] (ct97 (l := l) (k := markN b) (by omega) hmn) rfl rfl rfl ?_
    rintro _ _ ⟨rfl, rfl⟩
    refine ⟨fun h => (by cases h), ?_⟩
    try simp only [go_sem, Nat.reduceAdd, Nat.reduceSub, Nat.reduceMul, Nat.reduceLeDiff, Nat.reduceLT, Nat.reduceEqDiff, ↓reduceIte, Nat.reducePow, reduceCtorEq, Int.reduceLE, Int.reduceLT, Int.reduceToNat, ← List.map_take, ← List.map_drop, Int.reduceBEq, Int.reduceBNe]
    refine ⟨fun h => by omega, fun _ => ?_⟩
    refine pCall_see [7, 8, 9, 10, 11, 20, 21, 22, 23, 24] (ct61 (a := { tt b with games := decB awardedG (tt b) l }) (b := (tt { tt b with games := decB awardedS (tt b) l })) (tt_sized (dec_sized hzt)) (tt_dec hok))
      (eq_two (view_book { tt b with games := decB awardedG (tt b) l } rfl rfl (by simp [decB_len]) rfl rfl rfl rfl rfl rfl rfl) (view_book (tt { tt b with games := decB awardedS (tt b) l }) rfl rfl (by simp [tt, decB_len]) rfl rfl rfl rfl rfl rfl rfl)) rfl rfl rfl ?_
    try simp only [go_sem, Nat.reduceAdd, Nat.reduceSub, Nat.reduceMul, Nat.reduceLeDiff, Nat.reduceLT, Nat.reduceEqDiff, ↓reduceIte, Nat.reducePow, reduceCtorEq, Int.reduceLE, Int.reduceLT, Int.reduceToNat, ← List.map_take, ← List.map_drop, Int.reduceBEq, Int.reduceBNe, bne_self_eq_false]
    refine pCall_with false [] [] [20, 24, 21, 22, 23] (args' := [sBook 0 { tt b with games := decB awardedG (tt b) l }, .i 1]) (ct91 (b := { tt b with games := decB awardedG (tt b) l }) (dec_sized hzt)) (by simp [V.view, V.views, V.ren, V.rens, vwOf, keepR, sBook, decB_len]; exact ⟨rfl, rfl, rfl, rfl, rfl⟩) rfl rfl ?_
    rintro _ _ ⟨rfl, rfl⟩
    refine ⟨fun h => (by cases h), ?_⟩
    try simp only [go_sem, Nat.reduceAdd, Nat.reduceSub, Nat.reduceMul, Nat.reduceLeDiff, Nat.reduceLT, Nat.reduceEqDiff, ↓reduceIte, Nat.reducePow, reduceCtorEq, Int.reduceLE, Int.reduceLT, Int.reduceToNat, ← List.map_take, ← List.map_drop, Int.reduceBEq, Int.reduceBNe, gBook]
    refine pCall_see [20, 21, 22, 23, 24] (ct92 (b := { tt b with games := decB awardedG (tt b) l }) (dec_sized hzt)) (eq_two (view_book (markB { tt b with games := decB awardedG (tt b) l }) (by simp [markB]) (by simp [markB]) (by simp [markB, decB_len]) (by simp [markB]) (by simp [markB]) rfl rfl rfl rfl rfl) rfl) rfl rfl rfl ?_
    try simp only [go_sem, Nat.reduceAdd, Nat.reduceSub, Nat.reduceMul, Nat.reduceLeDiff, Nat.reduceLT, Nat.reduceEqDiff, ↓reduceIte, Nat.reducePow, reduceCtorEq, Int.reduceLE, Int.reduceLT, Int.reduceToNat, ← List.map_take, ← List.map_drop, Int.reduceBEq, Int.reduceBNe, bne_self_eq_false]
    refine ⟨fun h => by omega, fun _ => ?_⟩
    refine k58 hz ?_
    try simp only [go_sem, Nat.reduceAdd, Nat.reduceSub, Nat.reduceMul, Nat.reduceLeDiff, Nat.reduceLT, Nat.reduceEqDiff, ↓reduceIte, Nat.reducePow, reduceCtorEq, Int.reduceLE, Int.reduceLT, Int.reduceToNat, ← List.map_take, ← List.map_drop, Int.reduceBEq, Int.reduceBNe, sBook, gBook]
    refine pCall_new (ct95 (l := l) (nn := nn) (by omega)) rfl ?_
    rintro _ _ ⟨rfl, rfl⟩
    try simp only [go_sem, Nat.reduceAdd, Nat.reduceSub, Nat.reduceMul, Nat.reduceLeDiff, Nat.reduceLT, Nat.reduceEqDiff, ↓reduceIte, Nat.reducePow, reduceCtorEq, Int.reduceLE, Int.reduceLT, Int.reduceToNat, ← List.map_take, ← List.map_drop, Int.reduceBEq, Int.reduceBNe]
    refine k65 (b := tt b) (nn := true) (l := l) [32, 33, 34, 35, 36, 37] hzt (tt_nils b) (by omega) (eq_two (view_sBook (n := 32) (b := b) rfl rfl rfl rfl rfl) (view_lp rfl rfl)) (fun _ => ?_) (fun h => absurd (hok.symm.trans h) (by decide))
    try simp only [go_sem, Nat.reduceAdd, Nat.reduceSub, Nat.reduceMul, Nat.reduceLeDiff, Nat.reduceLT, Nat.reduceEqDiff, ↓reduceIte, Nat.reducePow, reduceCtorEq, Int.reduceLE, Int.reduceLT, Int.reduceToNat, ← List.map_take, ← List.map_drop, Int.reduceBEq, Int.reduceBNe, rBook, hBook]
    refine pCall_see [7, 8, 9, 10, 11, 38, 39, 40, 41, 42] (ct61 (a := { tt b with games := decB awardedG (tt b) l }) (b := (tt { tt b with games := decB awardedS (tt b) l })) (tt_sized (dec_sized hzt)) (tt_dec hok))
      (eq_two (view_book { tt b with games := decB awardedG (tt b) l } rfl rfl (by simp [decB_len]) rfl rfl rfl rfl rfl rfl rfl) (view_book (tt { tt b with games := decB awardedS (tt b) l }) rfl rfl (by simp [tt, decB_len]) rfl rfl rfl rfl rfl rfl rfl)) rfl rfl rfl ?_
    try simp only [go_sem, Nat.reduceAdd, Nat.reduceSub, Nat.reduceMul, Nat.reduceLeDiff, Nat.reduceLT, Nat.reduceEqDiff, ↓reduceIte, Nat.reducePow, reduceCtorEq, Int.reduceLE, Int.reduceLT, Int.reduceToNat, ← List.map_take, ← List.map_drop, Int.reduceBEq, Int.reduceBNe, bne_self_eq_false]
    refine pCall_see [20, 21, 22, 23, 24] (ct92 (b := { tt b with games := decB awardedG (tt b) l }) (dec_sized hzt)) (eq_two (view_book (markB { tt b with games := decB awardedG (tt b) l }) (by simp [markB]) (by simp [markB]) (by simp [markB, decB_len]) (by simp [markB]) (by simp [markB]) rfl rfl rfl rfl rfl) rfl) rfl rfl rfl ?_
    try simp only [go_sem, Nat.reduceAdd, Nat.reduceSub, Nat.reduceMul, Nat.reduceLeDiff, Nat.reduceLT, Nat.reduceEqDiff, ↓reduceIte, Nat.reducePow, reduceCtorEq, Int.reduceLE, Int.reduceLT, Int.reduceToNat, ← List.map_take, ← List.map_drop, Int.reduceBEq, Int.reduceBNe, bne_self_eq_false]
    exact ⟨fun h => by omega, fun _ => pWk_done rfl ⟨rfl, rfl⟩⟩
  · try simp only [go_sem, Nat.reduceAdd, Nat.reduceSub, Nat.reduceMul, Nat.reduceLeDiff, Nat.reduceLT, Nat.reduceEqDiff, ↓reduceIte, Nat.reducePow, reduceCtorEq, Int.reduceLE, Int.reduceLT, Int.reduceToNat, ← List.map_take, ← List.map_drop, Int.reduceBEq, Int.reduceBNe]
    refine k58 hz ?_
    try simp only [go_sem, Nat.reduceAdd, Nat.reduceSub, Nat.reduceMul, Nat.reduceLeDiff, Nat.reduceLT, Nat.reduceEqDiff, ↓reduceIte, Nat.reducePow, reduceCtorEq, Int.reduceLE, Int.reduceLT, Int.reduceToNat, ← List.map_take, ← List.map_drop, Int.reduceBEq, Int.reduceBNe, sBook, gBook]
    refine pCall_new (ct95 (l := l) (nn := nn) (by omega)) rfl ?_
    rintro _ _ ⟨rfl, rfl⟩
    try simp only [go_sem, Nat.reduceAdd, Nat.reduceSub, Nat.reduceMul, Nat.reduceLeDiff, Nat.reduceLT, Nat.reduceEqDiff, ↓reduceIte, Nat.reducePow, reduceCtorEq, Int.reduceLE, Int.reduceLT, Int.reduceToNat, ← List.map_take, ← List.map_drop, Int.reduceBEq, Int.reduceBNe]
    refine k65 (b := tt b) (nn := true) (l := l) [8, 9, 10, 11, 12, 14] hzt (tt_nils b) (by omega) (eq_two (view_sBook (n := 8) (b := b) rfl rfl rfl rfl rfl) (view_lp rfl rfl)) (fun h => absurd (hno.symm.trans h) (by decide)) (fun _ => ?_)
    try simp only [go_sem, Nat.reduceAdd, Nat.reduceSub, Nat.reduceMul, Nat.reduceLeDiff, Nat.reduceLT, Nat.reduceEqDiff, ↓reduceIte, Nat.reducePow, reduceCtorEq, Int.reduceLE, Int.reduceLT, Int.reduceToNat, ← List.map_take, ← List.map_drop, Int.reduceBEq, Int.reduceBNe]
    refine pCall_see [] (ct61 (a := zb) (b := zb) zb_sized rfl) rfl rfl rfl rfl ?_
    try simp only [go_sem, Nat.reduceAdd, Nat.reduceSub, Nat.reduceMul, Nat.reduceLeDiff, Nat.reduceLT, Nat.reduceEqDiff, ↓reduceIte, Nat.reducePow, reduceCtorEq, Int.reduceLE, Int.reduceLT, Int.reduceToNat, ← List.map_take, ← List.map_drop, Int.reduceBEq, Int.reduceBNe, bne_self_eq_false]
    refine k58 hz ?_
    try simp only [go_sem, Nat.reduceAdd, Nat.reduceSub, Nat.reduceMul, Nat.reduceLeDiff, Nat.reduceLT, Nat.reduceEqDiff, ↓reduceIte, Nat.reducePow, reduceCtorEq, Int.reduceLE, Int.reduceLT, Int.reduceToNat, ← List.map_take, ← List.map_drop, Int.reduceBEq, Int.reduceBNe, sBook, gBook]
    refine pCall_see [8, 9, 10, 11, 12, 16, 17, 18, 19, 20] (ct61 (a := tt b) (b := tt b) hzt rfl) (eq_two (view_sBook (n := 8) (b := b) rfl rfl rfl rfl rfl) (view_sBook (n := 16) (b := b) rfl rfl rfl rfl rfl)) rfl rfl rfl ?_
    try simp only [go_sem, Nat.reduceAdd, Nat.reduceSub, Nat.reduceMul, Nat.reduceLeDiff, Nat.reduceLT, Nat.reduceEqDiff, ↓reduceIte, Nat.reducePow, reduceCtorEq, Int.reduceLE, Int.reduceLT, Int.reduceToNat, ← List.map_take, ← List.map_drop, Int.reduceBEq, Int.reduceBNe]
    refine pCall_new (ct95 (l := l) (nn := nn) (by omega)) rfl ?_
    rintro _ _ ⟨rfl, rfl⟩
    try simp only [go_sem, Nat.reduceAdd, Nat.reduceSub, Nat.reduceMul, Nat.reduceLeDiff, Nat.reduceLT, Nat.reduceEqDiff, ↓reduceIte, Nat.reducePow, reduceCtorEq, Int.reduceLE, Int.reduceLT, Int.reduceToNat, ← List.map_take, ← List.map_drop, Int.reduceBEq, Int.reduceBNe]
    refine pCall_see [14, 21] (ct96 (n1 := true) (n2 := true) (l := l) (by omega)) (eq_two (view_lp rfl rfl) (view_lp rfl rfl)) rfl rfl rfl ?_
    try simp only [go_sem, Nat.reduceAdd, Nat.reduceSub, Nat.reduceMul, Nat.reduceLeDiff, Nat.reduceLT, Nat.reduceEqDiff, ↓reduceIte, Nat.reducePow, reduceCtorEq, Int.reduceLE, Int.reduceLT, Int.reduceToNat, ← List.map_take, ← List.map_drop, Int.reduceBEq, Int.reduceBNe]
    refine pCall_with false [] [] [8, 9, 10, 11, 12] (ct91 (b := b) hz) rfl rfl rfl ?_
    rintro _ _ ⟨rfl, rfl⟩
    refine ⟨fun h => (by cases h), ?_⟩
    try simp only [go_sem, Nat.reduceAdd, Nat.reduceSub, Nat.reduceMul, Nat.reduceLeDiff, Nat.reduceLT, Nat.reduceEqDiff, ↓reduceIte, Nat.reducePow, reduceCtorEq, Int.reduceLE, Int.reduceLT, Int.reduceToNat, ← List.map_take, ← List.map_drop, Int.reduceBEq, Int.reduceBNe, gBook]
    refine pCall_with false [] [] [14] (ct97 (l := l) (k := markN b) (by omega) hmn) rfl rfl rfl ?_
    rintro _ _ ⟨rfl, rfl⟩
    refine ⟨fun h => (by cases h), ?_⟩
    try simp only [go_sem, Nat.reduceAdd, Nat.reduceSub, Nat.reduceMul, Nat.reduceLeDiff, Nat.reduceLT, Nat.reduceEqDiff, ↓reduceIte, Nat.reducePow, reduceCtorEq, Int.reduceLE, Int.reduceLT, Int.reduceToNat, ← List.map_take, ← List.map_drop, Int.reduceBEq, Int.reduceBNe]
    refine ⟨fun h => by omega, fun _ => ?_⟩
    refine pCall_see [] (ct61 (a := zb) (b := zb) zb_sized rfl) rfl rfl rfl rfl ?_
    try simp only [go_sem, Nat.reduceAdd, Nat.reduceSub, Nat.reduceMul, Nat.reduceLeDiff, Nat.reduceLT, Nat.reduceEqDiff, ↓reduceIte, Nat.reducePow, reduceCtorEq, Int.reduceLE, Int.reduceLT, Int.reduceToNat, ← List.map_take, ← List.map_drop, Int.reduceBEq, Int.reduceBNe, bne_self_eq_false]
    refine pCall_see [] z91 rfl rfl rfl rfl ?_
    try simp only [go_sem, Nat.reduceAdd, Nat.reduceSub, Nat.reduceMul, Nat.reduceLeDiff, Nat.reduceLT, Nat.reduceEqDiff, ↓reduceIte, Nat.reducePow, reduceCtorEq, Int.reduceLE, Int.reduceLT, Int.reduceToNat, ← List.map_take, ← List.map_drop, Int.reduceBEq, Int.reduceBNe]
    refine pCall_see [] (ct92 (b := zb) zb_sized) rfl rfl rfl rfl ?_
    try simp only [go_sem, Nat.reduceAdd, Nat.reduceSub, Nat.reduceMul, Nat.reduceLeDiff, Nat.reduceLT, Nat.reduceEqDiff, ↓reduceIte, Nat.reducePow, reduceCtorEq, Int.reduceLE, Int.reduceLT, Int.reduceToNat, ← List.map_take, ← List.map_drop, Int.reduceBEq, Int.reduceBNe, show (markN zb : Int) = 1 from rfl, bne_self_eq_false]
    refine k58 hz ?_
    try simp only [go_sem, Nat.reduceAdd, Nat.reduceSub, Nat.reduceMul, Nat.reduceLeDiff, Nat.reduceLT, Nat.reduceEqDiff, ↓reduceIte, Nat.reducePow, reduceCtorEq, Int.reduceLE, Int.reduceLT, Int.reduceToNat, ← List.map_take, ← List.map_drop, Int.reduceBEq, Int.reduceBNe, sBook, gBook]
    refine pCall_new (ct95 (l := l) (nn := nn) (by omega)) rfl ?_
    rintro _ _ ⟨rfl, rfl⟩
    try simp only [go_sem, Nat.reduceAdd, Nat.reduceSub, Nat.reduceMul, Nat.reduceLeDiff, Nat.reduceLT, Nat.reduceEqDiff, ↓reduceIte, Nat.reducePow, reduceCtorEq, Int.reduceLE, Int.reduceLT, Int.reduceToNat, ← List.map_take, ← List.map_drop, Int.reduceBEq, Int.reduceBNe]
    refine k65 (b := tt b) (nn := true) (l := l) [22, 23, 24, 25, 26, 27] hzt (tt_nils b) (by omega) (eq_two (view_sBook (n := 22) (b := b) rfl rfl rfl rfl rfl) (view_lp rfl rfl)) (fun h => absurd (hno.symm.trans h) (by decide)) (fun _ => ?_)
    try simp only [go_sem, Nat.reduceAdd, Nat.reduceSub, Nat.reduceMul, Nat.reduceLeDiff, Nat.reduceLT, Nat.reduceEqDiff, ↓reduceIte, Nat.reducePow, reduceCtorEq, Int.reduceLE, Int.reduceLT, Int.reduceToNat, ← List.map_take, ← List.map_drop, Int.reduceBEq, Int.reduceBNe]
    refine pCall_see [] (ct61 (a := zb) (b := zb) zb_sized rfl) rfl rfl rfl rfl ?_
    try simp only [go_sem, Nat.reduceAdd, Nat.reduceSub, Nat.reduceMul, Nat.reduceLeDiff, Nat.reduceLT, Nat.reduceEqDiff, ↓reduceIte, Nat.reducePow, reduceCtorEq, Int.reduceLE, Int.reduceLT, Int.reduceToNat, ← List.map_take, ← List.map_drop, Int.reduceBEq, Int.reduceBNe, bne_self_eq_false]
    refine pCall_see [] (ct92 (b := zb) zb_sized) rfl rfl rfl rfl ?_
    try simp only [go_sem, Nat.reduceAdd, Nat.reduceSub, Nat.reduceMul, Nat.reduceLeDiff, Nat.reduceLT, Nat.reduceEqDiff, ↓reduceIte, Nat.reducePow, reduceCtorEq, Int.reduceLE, Int.reduceLT, Int.reduceToNat, ← List.map_take, ← List.map_drop, Int.reduceBEq, Int.reduceBNe, show (markN zb : Int) = 1 from rfl, bne_self_eq_false]
    exact pWk_done rfl ⟨rfl, rfl⟩

end Go.Sim
