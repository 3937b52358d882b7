/- The contract of the law FnExactPointsLost: it answers true. -/
import Derived.Test.YtahdgiaddhoaoaaConT
import Derived.Test.YtahdgiaddhoaoaaTxtP

set_option maxRecDepth 100000
set_option linter.unusedSimpArgs false
set_option linter.unusedVariables false
namespace Go.Sim
open Go.Proofs

theorem int_flat (l : List Int) : ∀ k ∈ [Blk.sl true 3 1 (l.map V.i)], k.flat = true := by
  intro k hk
  rw [List.mem_singleton] at hk
  subst hk
  exact flats_map (fun _ => rfl) _

theorem k98 {b : Book} {t rule : Int} {H : Heap} {K : V → Heap → Prop} {args : List V} (vw : List Nat) (hb : Sized b) (hv : args.map (·.view (vwOf H vw)) = [vBook b, .i t, .i rule])
    (h1 : wdOk b t rule = true → K (.ref H.length 0 b.field.length) (H ++ [.sl true 3 1 ((lost b t rule).map V.i)])) (h0 : wdOk b t rule = false → K (.sl false 1 []) H) : pCall Try.prog 98 args H K := by
  refine pCall_lend vw (ct98 hb) hv rfl ?_ ?_
  · intro r H' hq
    by_cases h : wdOk b t rule = true
    · rw [if_pos h] at hq; obtain ⟨rfl, rfl⟩ := hq; exact ⟨rfl, int_flat _⟩
    · rw [if_neg h] at hq; obtain ⟨rfl, rfl⟩ := hq; exact ⟨rfl, fun k hk => by cases hk⟩
  · intro r H' hq
    by_cases h : wdOk b t rule = true
    · rw [if_pos h] at hq; obtain ⟨rfl, rfl⟩ := hq
      exact h1 h
    · rw [if_neg h] at hq; obtain ⟨rfl, rfl⟩ := hq
      have := h0 (by simpa using h)
      simpa [V.ren, V.rens] using this
theorem k28 {b : Book} {t rule : Int} {H : Heap} {K : V → Heap → Prop} {args : List V} (vw : List Nat) (hb : Sized b) (hn : Nils b) (hv : args.map (·.view (vwOf H vw)) = [vBook b, .i t, .i rule])
    (h1 : wdOk b t rule = true → K (.ref H.length 0 b.field.length) (H ++ [.sl true 3 1 ((lost b t rule).map V.i)])) (h0 : wdOk b t rule = false → K (.sl false 1 []) H) : pCall Try.prog 28 args H K := by
  by_cases h : wdOk b t rule = true
  · refine pCall_lend vw (ct28 hb hn h) hv rfl ?_ ?_
    · rintro _ _ ⟨rfl, rfl⟩; exact ⟨rfl, int_flat _⟩
    · rintro _ _ ⟨rfl, rfl⟩; exact h1 h
  · have h := by simpa using h
    refine pCall_lend vw (ct28n hb hn h) hv rfl ?_ ?_
    · rintro _ _ ⟨rfl, rfl⟩; exact ⟨rfl, fun k hk => by cases hk⟩
    · rintro _ _ ⟨rfl, rfl⟩
      have := h0 h
      simpa [V.ren, V.rens] using this

theorem view_li {f : Nat → Option (Bool × Nat × List V)} {i n : Nat} {l : List Int} (e : l.length = n) (h : f i = some (true, 1, l.map V.i)) : (V.ref i 0 n).view f = V.ints true l := view_ref h (by simpa using e)

theorem law16 {b : Book} {t rule : Int} (hb : Wide b) : Ct Try.prog 16 [vBook b, .i t, .i rule] [] (fun v H => v = .bool true ∧ H = []) := by
  apply c16; unfold t16
  have hbx := vBook_eq b
  simp only [go_sem, Nat.reduceAdd, Nat.reduceSub, Nat.reduceMul, Nat.reduceLeDiff, Nat.reduceLT, Nat.reduceEqDiff, ↓reduceIte, Nat.reducePow, reduceCtorEq, Int.reduceLE, Int.reduceLT, Int.reduceToNat, ← List.map_take, ← List.map_drop, Int.reduceBEq, Int.reduceBNe, hbx]
  refine pCall_new (ct56 hb) rfl ?_
  rintro _ _ ⟨r, rfl, rfl, hr⟩
  simp only [go_sem, Nat.reduceAdd, Nat.reduceSub, Nat.reduceMul, Nat.reduceLeDiff, Nat.reduceLT, Nat.reduceEqDiff, ↓reduceIte, Nat.reducePow, reduceCtorEq, Int.reduceLE, Int.reduceLT, Int.reduceToNat, ← List.map_take, ← List.map_drop, Int.reduceBEq, Int.reduceBNe]
  refine ⟨fun h => pWk_done rfl ⟨rfl, rfl⟩, fun h => ?_⟩
  have hz := hr (by omega)
  have hzt := tt_sized hz
  have hfl := hz.field
  have hll : (lost (tt b) t rule).length = b.field.length := lost_len
  refine k58 hz ?_
  simp only [go_sem, Nat.reduceAdd, Nat.reduceSub, Nat.reduceMul, Nat.reduceLeDiff, Nat.reduceLT, Nat.reduceEqDiff, ↓reduceIte, Nat.reducePow, reduceCtorEq, Int.reduceLE, Int.reduceLT, Int.reduceToNat, ← List.map_take, ← List.map_drop, Int.reduceBEq, Int.reduceBNe, sBook, gBook]
  refine k98 (b := tt b) [1, 2, 3, 4, 5] hzt (eq_three (view_sBook (n := 1) (b := b) rfl rfl rfl rfl rfl) rfl rfl) (fun hok => ?_) (fun hno => ?_)
  · simp only [go_sem, Nat.reduceAdd, Nat.reduceSub, Nat.reduceMul, Nat.reduceLeDiff, Nat.reduceLT, Nat.reduceEqDiff, ↓reduceIte, Nat.reducePow, reduceCtorEq, Int.reduceLE, Int.reduceLT, Int.reduceToNat, ← List.map_take, ← List.map_drop, Int.reduceBEq, Int.reduceBNe]
    refine k58 hz ?_
    try simp only [go_sem, Nat.reduceAdd, Nat.reduceSub, Nat.reduceMul, Nat.reduceLeDiff, Nat.reduceLT, Nat.reduceEqDiff, ↓reduceIte, Nat.reducePow, reduceCtorEq, Int.reduceLE, Int.reduceLT, Int.reduceToNat, ← List.map_take, ← List.map_drop, Int.reduceBEq, Int.reduceBNe, sBook, gBook]
    refine k28 (b := tt b) [7, 8, 9, 10, 11] hzt (tt_nils b) (eq_three (view_sBook (n := 7) (b := b) rfl rfl rfl rfl rfl) rfl rfl) (fun _ => ?_) (fun h => absurd (hok.symm.trans h) (by decide))
    try simp only [go_sem, Nat.reduceAdd, Nat.reduceSub, Nat.reduceMul, Nat.reduceLeDiff, Nat.reduceLT, Nat.reduceEqDiff, ↓reduceIte, Nat.reducePow, reduceCtorEq, Int.reduceLE, Int.reduceLT, Int.reduceToNat, ← List.map_take, ← List.map_drop, Int.reduceBEq, Int.reduceBNe]
    refine pCall_see [6, 13] (ct50 (n1 := true) (n2 := true) (l := lost (tt b) t rule) (by omega)) (eq_two (view_li hll rfl) (view_li hll rfl)) rfl rfl rfl ?_
    try simp only [go_sem, Nat.reduceAdd, Nat.reduceSub, Nat.reduceMul, Nat.reduceLeDiff, Nat.reduceLT, Nat.reduceEqDiff, ↓reduceIte, Nat.reducePow, reduceCtorEq, Int.reduceLE, Int.reduceLT, Int.reduceToNat, ← List.map_take, ← List.map_drop, Int.reduceBEq, Int.reduceBNe]
    refine k58 hz ?_
    try simp only [go_sem, Nat.reduceAdd, Nat.reduceSub, Nat.reduceMul, Nat.reduceLeDiff, Nat.reduceLT, Nat.reduceEqDiff, ↓reduceIte, Nat.reducePow, reduceCtorEq, Int.reduceLE, Int.reduceLT, Int.reduceToNat, ← List.map_take, ← List.map_drop, Int.reduceBEq, Int.reduceBNe, sBook, gBook]
    refine pCall_see [7, 8, 9, 10, 11, 14, 15, 16, 17, 18] (ct61 (a := tt b) (b := tt b) hzt rfl) (eq_two (view_sBook (n := 7) (b := b) rfl rfl rfl rfl rfl) (view_sBook (n := 14) (b := b) rfl rfl rfl rfl rfl)) rfl rfl rfl ?_
    try simp only [go_sem, Nat.reduceAdd, Nat.reduceSub, Nat.reduceMul, Nat.reduceLeDiff, Nat.reduceLT, Nat.reduceEqDiff, ↓reduceIte, Nat.reducePow, reduceCtorEq, Int.reduceLE, Int.reduceLT, Int.reduceToNat, ← List.map_take, ← List.map_drop, Int.reduceBEq, Int.reduceBNe]
    refine pCall_with false [] [] [7, 8, 9, 10, 11] (ct91 (b := b) hz) rfl rfl rfl ?_
    rintro _ _ ⟨rfl, rfl⟩
    refine ⟨fun h => (by cases h), ?_⟩
    try simp only [go_sem, Nat.reduceAdd, Nat.reduceSub, Nat.reduceMul, Nat.reduceLeDiff, Nat.reduceLT, Nat.reduceEqDiff, ↓reduceIte, Nat.reducePow, reduceCtorEq, Int.reduceLE, Int.reduceLT, Int.reduceToNat, ← List.map_take, ← List.map_drop, Int.reduceBEq, Int.reduceBNe, gBook]
    refine ⟨fun h => by omega, fun _ => ?_⟩
    refine pCall_see [6, 13] (ct50 (n1 := true) (n2 := true) (l := lost (tt b) t rule) (by omega)) (eq_two (view_li hll rfl) (view_li hll rfl)) rfl rfl rfl ?_
    try simp only [go_sem, Nat.reduceAdd, Nat.reduceSub, Nat.reduceMul, Nat.reduceLeDiff, Nat.reduceLT, Nat.reduceEqDiff, ↓reduceIte, Nat.reducePow, reduceCtorEq, Int.reduceLE, Int.reduceLT, Int.reduceToNat, ← List.map_take, ← List.map_drop, Int.reduceBEq, Int.reduceBNe]
    have cm := ct88 (l := lost (tt b) t rule) (k := 1) (by omega) (by omega)
    rw [hll] at cm
    refine pCall_with false [] [] [13] cm rfl rfl rfl ?_
    rintro _ _ ⟨rfl, rfl⟩
    refine ⟨fun h => (by cases h), ?_⟩
    try simp only [go_sem, Nat.reduceAdd, Nat.reduceSub, Nat.reduceMul, Nat.reduceLeDiff, Nat.reduceLT, Nat.reduceEqDiff, ↓reduceIte, Nat.reducePow, reduceCtorEq, Int.reduceLE, Int.reduceLT, Int.reduceToNat, ← List.map_take, ← List.map_drop, Int.reduceBEq, Int.reduceBNe]
    refine pCall_see [13] (ct99 (nn := true) (n := b.field.length) (k := 1) (by omega) (by omega)) (eq_two (view_li (by simp; rfl) rfl) rfl) rfl rfl rfl ?_
    try simp only [go_sem, Nat.reduceAdd, Nat.reduceSub, Nat.reduceMul, Nat.reduceLeDiff, Nat.reduceLT, Nat.reduceEqDiff, ↓reduceIte, Nat.reducePow, reduceCtorEq, Int.reduceLE, Int.reduceLT, Int.reduceToNat, ← List.map_take, ← List.map_drop, Int.reduceBEq, Int.reduceBNe, bne_self_eq_false]
    refine ⟨fun h => by omega, fun _ => ?_⟩
    refine k58 hz ?_
    try simp only [go_sem, Nat.reduceAdd, Nat.reduceSub, Nat.reduceMul, Nat.reduceLeDiff, Nat.reduceLT, Nat.reduceEqDiff, ↓reduceIte, Nat.reducePow, reduceCtorEq, Int.reduceLE, Int.reduceLT, Int.reduceToNat, ← List.map_take, ← List.map_drop, Int.reduceBEq, Int.reduceBNe, sBook, gBook]
    refine k28 (b := tt b) [19, 20, 21, 22, 23] hzt (tt_nils b) (eq_three (view_sBook (n := 19) (b := b) rfl rfl rfl rfl rfl) rfl rfl) (fun _ => ?_) (fun h => absurd (hok.symm.trans h) (by decide))
    try simp only [go_sem, Nat.reduceAdd, Nat.reduceSub, Nat.reduceMul, Nat.reduceLeDiff, Nat.reduceLT, Nat.reduceEqDiff, ↓reduceIte, Nat.reducePow, reduceCtorEq, Int.reduceLE, Int.reduceLT, Int.reduceToNat, ← List.map_take, ← List.map_drop, Int.reduceBEq, Int.reduceBNe]
    refine pCall_see [6, 24] (ct50 (n1 := true) (n2 := true) (l := lost (tt b) t rule) (by omega)) (eq_two (view_li hll rfl) (view_li hll rfl)) rfl rfl rfl ?_
    try simp only [go_sem, Nat.reduceAdd, Nat.reduceSub, Nat.reduceMul, Nat.reduceLeDiff, Nat.reduceLT, Nat.reduceEqDiff, ↓reduceIte, Nat.reducePow, reduceCtorEq, Int.reduceLE, Int.reduceLT, Int.reduceToNat, ← List.map_take, ← List.map_drop, Int.reduceBEq, Int.reduceBNe]
    refine pCall_see [13] (ct99 (nn := true) (n := b.field.length) (k := 1) (by omega) (by omega)) (eq_two (view_li (by simp; rfl) rfl) rfl) rfl rfl rfl ?_
    try simp only [go_sem, Nat.reduceAdd, Nat.reduceSub, Nat.reduceMul, Nat.reduceLeDiff, Nat.reduceLT, Nat.reduceEqDiff, ↓reduceIte, Nat.reducePow, reduceCtorEq, Int.reduceLE, Int.reduceLT, Int.reduceToNat, ← List.map_take, ← List.map_drop, Int.reduceBEq, Int.reduceBNe, bne_self_eq_false]
    exact ⟨fun h => by omega, fun _ => pWk_done rfl ⟨rfl, rfl⟩⟩
  · simp only [go_sem, Nat.reduceAdd, Nat.reduceSub, Nat.reduceMul, Nat.reduceLeDiff, Nat.reduceLT, Nat.reduceEqDiff, ↓reduceIte, Nat.reducePow, reduceCtorEq, Int.reduceLE, Int.reduceLT, Int.reduceToNat, ← List.map_take, ← List.map_drop, Int.reduceBEq, Int.reduceBNe]
    refine k58 hz ?_
    try simp only [go_sem, Nat.reduceAdd, Nat.reduceSub, Nat.reduceMul, Nat.reduceLeDiff, Nat.reduceLT, Nat.reduceEqDiff, ↓reduceIte, Nat.reducePow, reduceCtorEq, Int.reduceLE, Int.reduceLT, Int.reduceToNat, ← List.map_take, ← List.map_drop, Int.reduceBEq, Int.reduceBNe, sBook, gBook]
    refine k28 (b := tt b) [6, 7, 8, 9, 10] hzt (tt_nils b) (eq_three (view_sBook (n := 6) (b := b) rfl rfl rfl rfl rfl) rfl rfl) (fun h => absurd (hno.symm.trans h) (by decide)) (fun _ => ?_)
    try simp only [go_sem, Nat.reduceAdd, Nat.reduceSub, Nat.reduceMul, Nat.reduceLeDiff, Nat.reduceLT, Nat.reduceEqDiff, ↓reduceIte, Nat.reducePow, reduceCtorEq, Int.reduceLE, Int.reduceLT, Int.reduceToNat, ← List.map_take, ← List.map_drop, Int.reduceBEq, Int.reduceBNe]
    refine pCall_see [] (ct50 (n1 := false) (n2 := false) (l := []) (by decide)) rfl rfl rfl rfl ?_
    try simp only [go_sem, Nat.reduceAdd, Nat.reduceSub, Nat.reduceMul, Nat.reduceLeDiff, Nat.reduceLT, Nat.reduceEqDiff, ↓reduceIte, Nat.reducePow, reduceCtorEq, Int.reduceLE, Int.reduceLT, Int.reduceToNat, ← List.map_take, ← List.map_drop, Int.reduceBEq, Int.reduceBNe]
    refine k58 hz ?_
    try simp only [go_sem, Nat.reduceAdd, Nat.reduceSub, Nat.reduceMul, Nat.reduceLeDiff, Nat.reduceLT, Nat.reduceEqDiff, ↓reduceIte, Nat.reducePow, reduceCtorEq, Int.reduceLE, Int.reduceLT, Int.reduceToNat, ← List.map_take, ← List.map_drop, Int.reduceBEq, Int.reduceBNe, sBook, gBook]
    refine pCall_see [6, 7, 8, 9, 10, 12, 13, 14, 15, 16] (ct61 (a := tt b) (b := tt b) hzt rfl) (eq_two (view_sBook (n := 6) (b := b) rfl rfl rfl rfl rfl) (view_sBook (n := 12) (b := b) rfl rfl rfl rfl rfl)) rfl rfl rfl ?_
    try simp only [go_sem, Nat.reduceAdd, Nat.reduceSub, Nat.reduceMul, Nat.reduceLeDiff, Nat.reduceLT, Nat.reduceEqDiff, ↓reduceIte, Nat.reducePow, reduceCtorEq, Int.reduceLE, Int.reduceLT, Int.reduceToNat, ← List.map_take, ← List.map_drop, Int.reduceBEq, Int.reduceBNe]
    refine pCall_with false [] [] [6, 7, 8, 9, 10] (ct91 (b := b) hz) rfl rfl rfl ?_
    rintro _ _ ⟨rfl, rfl⟩
    refine ⟨fun h => (by cases h), ?_⟩
    try simp only [go_sem, Nat.reduceAdd, Nat.reduceSub, Nat.reduceMul, Nat.reduceLeDiff, Nat.reduceLT, Nat.reduceEqDiff, ↓reduceIte, Nat.reducePow, reduceCtorEq, Int.reduceLE, Int.reduceLT, Int.reduceToNat, ← List.map_take, ← List.map_drop, Int.reduceBEq, Int.reduceBNe, gBook]
    refine ⟨fun h => by omega, fun _ => ?_⟩
    refine pCall_see [] (ct50 (n1 := false) (n2 := false) (l := []) (by decide)) rfl rfl rfl rfl ?_
    try simp only [go_sem, Nat.reduceAdd, Nat.reduceSub, Nat.reduceMul, Nat.reduceLeDiff, Nat.reduceLT, Nat.reduceEqDiff, ↓reduceIte, Nat.reducePow, reduceCtorEq, Int.reduceLE, Int.reduceLT, Int.reduceToNat, ← List.map_take, ← List.map_drop, Int.reduceBEq, Int.reduceBNe]
    refine pCall_see [] z88 rfl rfl rfl rfl ?_
    try simp only [go_sem, Nat.reduceAdd, Nat.reduceSub, Nat.reduceMul, Nat.reduceLeDiff, Nat.reduceLT, Nat.reduceEqDiff, ↓reduceIte, Nat.reducePow, reduceCtorEq, Int.reduceLE, Int.reduceLT, Int.reduceToNat, ← List.map_take, ← List.map_drop, Int.reduceBEq, Int.reduceBNe]
    refine pCall_see [] (ct99 (nn := false) (n := 0) (k := 1) (by decide) (by decide)) rfl rfl rfl rfl ?_
    try simp only [go_sem, Nat.reduceAdd, Nat.reduceSub, Nat.reduceMul, Nat.reduceLeDiff, Nat.reduceLT, Nat.reduceEqDiff, ↓reduceIte, Nat.reducePow, reduceCtorEq, Int.reduceLE, Int.reduceLT, Int.reduceToNat, ← List.map_take, ← List.map_drop, Int.reduceBEq, Int.reduceBNe, show ((1 + 0 : Nat) : Int) = 1 from rfl, bne_self_eq_false]
    refine k58 hz ?_
    try simp only [go_sem, Nat.reduceAdd, Nat.reduceSub, Nat.reduceMul, Nat.reduceLeDiff, Nat.reduceLT, Nat.reduceEqDiff, ↓reduceIte, Nat.reducePow, reduceCtorEq, Int.reduceLE, Int.reduceLT, Int.reduceToNat, ← List.map_take, ← List.map_drop, Int.reduceBEq, Int.reduceBNe, sBook, gBook]
    refine k28 (b := tt b) [17, 18, 19, 20, 21] hzt (tt_nils b) (eq_three (view_sBook (n := 17) (b := b) rfl rfl rfl rfl rfl) rfl rfl) (fun h => absurd (hno.symm.trans h) (by decide)) (fun _ => ?_)
    try simp only [go_sem, Nat.reduceAdd, Nat.reduceSub, Nat.reduceMul, Nat.reduceLeDiff, Nat.reduceLT, Nat.reduceEqDiff, ↓reduceIte, Nat.reducePow, reduceCtorEq, Int.reduceLE, Int.reduceLT, Int.reduceToNat, ← List.map_take, ← List.map_drop, Int.reduceBEq, Int.reduceBNe]
    refine pCall_see [] (ct50 (n1 := false) (n2 := false) (l := []) (by decide)) rfl rfl rfl rfl ?_
    try simp only [go_sem, Nat.reduceAdd, Nat.reduceSub, Nat.reduceMul, Nat.reduceLeDiff, Nat.reduceLT, Nat.reduceEqDiff, ↓reduceIte, Nat.reducePow, reduceCtorEq, Int.reduceLE, Int.reduceLT, Int.reduceToNat, ← List.map_take, ← List.map_drop, Int.reduceBEq, Int.reduceBNe]
    refine pCall_see [] (ct99 (nn := false) (n := 0) (k := 1) (by decide) (by decide)) rfl rfl rfl rfl ?_
    try simp only [go_sem, Nat.reduceAdd, Nat.reduceSub, Nat.reduceMul, Nat.reduceLeDiff, Nat.reduceLT, Nat.reduceEqDiff, ↓reduceIte, Nat.reducePow, reduceCtorEq, Int.reduceLE, Int.reduceLT, Int.reduceToNat, ← List.map_take, ← List.map_drop, Int.reduceBEq, Int.reduceBNe, show ((1 + 0 : Nat) : Int) = 1 from rfl, bne_self_eq_false]
    exact pWk_done rfl ⟨rfl, rfl⟩

end Go.Sim
