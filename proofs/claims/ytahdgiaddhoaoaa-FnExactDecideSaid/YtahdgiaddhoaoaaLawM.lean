/- The contract of the law FnExactOrderMatters: it answers true. -/
import Derived.Test.YtahdgiaddhoaoaaConS
import Derived.Test.YtahdgiaddhoaoaaTxtM

set_option maxRecDepth 100000
set_option linter.unusedSimpArgs false
set_option linter.unusedVariables false
namespace Go.Sim
open Go.Proofs

theorem ct175 {u : Rules} (hl : u.ladder.length < 4000000) : Ct Try.prog 175 [vRules u] [] (fun v H => v = .agg [.i u.win, .i u.draw, .i u.loss, .ref 0 0 u.ladder.length, .bool u.again] ∧ H = [.sl true 3 1 (u.ladder.map V.i)]) := by
  apply c175; unfold t175
  simp only [go_sem, Nat.reduceAdd, Nat.reduceSub, Nat.reduceMul, Nat.reduceLeDiff, Nat.reduceLT, Nat.reduceEqDiff, ↓reduceIte, Nat.reducePow, reduceCtorEq, Int.reduceLE, Int.reduceLT, Int.reduceToNat, ← List.map_take, ← List.map_drop, Int.reduceBEq, Int.reduceBNe, vRules]
  refine pCall_new (ct47 hl) rfl ?_
  rintro _ _ ⟨rfl, rfl⟩
  simp only [go_sem, Nat.reduceAdd, Nat.reduceSub, Nat.reduceMul, Nat.reduceLeDiff, Nat.reduceLT, Nat.reduceEqDiff, ↓reduceIte, Nat.reducePow, reduceCtorEq, Int.reduceLE, Int.reduceLT, Int.reduceToNat, ← List.map_take, ← List.map_drop, Int.reduceBEq, Int.reduceBNe]
  exact pWk_kp [] [3] rfl ⟨rfl, rfl⟩

theorem ct58 {b : Book} (hb : Sized b) : Ct Try.prog 58 [vBook b] [] (fun v H => v = sBook 0 b ∧ H = gBook b) := by
  have h1 := hb.field
  have h2 := hb.ladder
  have hbx := vBook_eq b
  apply c58; unfold t58
  simp only [go_sem, Nat.reduceAdd, Nat.reduceSub, Nat.reduceMul, Nat.reduceLeDiff, Nat.reduceLT, Nat.reduceEqDiff, ↓reduceIte, Nat.reducePow, reduceCtorEq, Int.reduceLE, Int.reduceLT, Int.reduceToNat, ← List.map_take, ← List.map_drop, Int.reduceBEq, Int.reduceBNe, hbx]
  refine pCall_new (ct45 (by omega)) rfl ?_
  rintro _ _ ⟨rfl, rfl⟩
  simp only [go_sem, Nat.reduceAdd, Nat.reduceSub, Nat.reduceMul, Nat.reduceLeDiff, Nat.reduceLT, Nat.reduceEqDiff, ↓reduceIte, Nat.reducePow, reduceCtorEq, Int.reduceLE, Int.reduceLT, Int.reduceToNat, ← List.map_take, ← List.map_drop, Int.reduceBEq, Int.reduceBNe]
  refine pCall_new (ct175 (u := b.rules) (by omega)) rfl ?_
  rintro _ _ ⟨rfl, rfl⟩
  simp only [go_sem, Nat.reduceAdd, Nat.reduceSub, Nat.reduceMul, Nat.reduceLeDiff, Nat.reduceLT, Nat.reduceEqDiff, ↓reduceIte, Nat.reducePow, reduceCtorEq, Int.reduceLE, Int.reduceLT, Int.reduceToNat, ← List.map_take, ← List.map_drop, Int.reduceBEq, Int.reduceBNe]
  refine pCall_new (ct176 hb.games) rfl ?_
  rintro _ _ ⟨rfl, rfl⟩
  simp only [go_sem, Nat.reduceAdd, Nat.reduceSub, Nat.reduceMul, Nat.reduceLeDiff, Nat.reduceLT, Nat.reduceEqDiff, ↓reduceIte, Nat.reducePow, reduceCtorEq, Int.reduceLE, Int.reduceLT, Int.reduceToNat, ← List.map_take, ← List.map_drop, Int.reduceBEq, Int.reduceBNe]
  refine pCall_new (ct47 hb.fair) rfl ?_
  rintro _ _ ⟨rfl, rfl⟩
  simp only [go_sem, Nat.reduceAdd, Nat.reduceSub, Nat.reduceMul, Nat.reduceLeDiff, Nat.reduceLT, Nat.reduceEqDiff, ↓reduceIte, Nat.reducePow, reduceCtorEq, Int.reduceLE, Int.reduceLT, Int.reduceToNat, ← List.map_take, ← List.map_drop, Int.reduceBEq, Int.reduceBNe]
  refine pCall_new (ct47 hb.taken) rfl ?_
  rintro _ _ ⟨rfl, rfl⟩
  simp only [go_sem, Nat.reduceAdd, Nat.reduceSub, Nat.reduceMul, Nat.reduceLeDiff, Nat.reduceLT, Nat.reduceEqDiff, ↓reduceIte, Nat.reducePow, reduceCtorEq, Int.reduceLE, Int.reduceLT, Int.reduceToNat, ← List.map_take, ← List.map_drop, Int.reduceBEq, Int.reduceBNe]
  exact pWk_kp [] [3, 4, 5, 6, 7] rfl ⟨rfl, rfl⟩
theorem k58 {b : Book} {H : Heap} {K : V → Heap → Prop} (hb : Sized b) (hK : K (sBook H.length b) (H ++ gBook b)) : pCall Try.prog 58 [vBook b] H K := by
  refine pCall_new (ct58 hb) rfl ?_
  rintro _ _ ⟨rfl, rfl⟩
  have e1 : V.ren (backF [] H.length) (sBook 0 b) = sBook H.length b := by simp [sBook, V.ren, V.rens, backF]
  have e2 : (gBook b).map (Blk.ren (backF [] H.length)) = gBook b := rfl
  rw [e1, e2]; exact hK

theorem eq_three {α : Type} {a b c d e f : α} (h : a = d) (g : b = e) (k : c = f) : [a, b, c] = [d, e, f] := by rw [h, g, k]

theorem law7 {b : Book} {p q : Prot} (hb : Wide b) : Ct Try.prog 7 [vBook b, vProt p, vProt q] [] (fun v H => v = .bool true ∧ H = []) := by
  apply c7; unfold t7
  have hbx := vBook_eq b
  simp only [go_sem, Nat.reduceAdd, Nat.reduceSub, Nat.reduceMul, Nat.reduceLeDiff, Nat.reduceLT, Nat.reduceEqDiff, ↓reduceIte, Nat.reducePow, reduceCtorEq, Int.reduceLE, Int.reduceLT, Int.reduceToNat, ← List.map_take, ← List.map_drop, Int.reduceBEq, Int.reduceBNe, hbx, vProt]
  refine pCall_new (ct56 hb) rfl ?_
  rintro _ _ ⟨r, rfl, rfl, hr⟩
  simp only [go_sem, Nat.reduceAdd, Nat.reduceSub, Nat.reduceMul, Nat.reduceLeDiff, Nat.reduceLT, Nat.reduceEqDiff, ↓reduceIte, Nat.reducePow, reduceCtorEq, Int.reduceLE, Int.reduceLT, Int.reduceToNat, ← List.map_take, ← List.map_drop, Int.reduceBEq, Int.reduceBNe]
  refine ⟨fun h => pWk_done rfl ⟨rfl, rfl⟩, fun h => ?_⟩
  have hz := hr (by omega)
  refine k58 hz ?_
  simp only [go_sem, Nat.reduceAdd, Nat.reduceSub, Nat.reduceMul, Nat.reduceLeDiff, Nat.reduceLT, Nat.reduceEqDiff, ↓reduceIte, Nat.reducePow, reduceCtorEq, Int.reduceLE, Int.reduceLT, Int.reduceToNat, ← List.map_take, ← List.map_drop, Int.reduceBEq, Int.reduceBNe, sBook, gBook]
  refine k59 (t := p) ?_
  try simp only [go_sem, Nat.reduceAdd, Nat.reduceSub, Nat.reduceMul, Nat.reduceLeDiff, Nat.reduceLT, Nat.reduceEqDiff, ↓reduceIte, Nat.reducePow, reduceCtorEq, Int.reduceLE, Int.reduceLT, Int.reduceToNat, ← List.map_take, ← List.map_drop, Int.reduceBEq, Int.reduceBNe]
  refine k59 (t := q) ?_
  try simp only [go_sem, Nat.reduceAdd, Nat.reduceSub, Nat.reduceMul, Nat.reduceLeDiff, Nat.reduceLT, Nat.reduceEqDiff, ↓reduceIte, Nat.reducePow, reduceCtorEq, Int.reduceLE, Int.reduceLT, Int.reduceToNat, ← List.map_take, ← List.map_drop, Int.reduceBEq, Int.reduceBNe]
  refine pCall_see [3, 4, 5, 6, 7] (ct57 (b := tt b) (p := p) (q := q) (tt_sized hz)) (eq_three (view_sBook (n := 3) (b := b) rfl rfl rfl rfl rfl) rfl rfl) rfl rfl rfl ?_
  simp only [go_sem, Nat.reduceAdd, Nat.reduceSub, Nat.reduceMul, Nat.reduceLeDiff, Nat.reduceLT, Nat.reduceEqDiff, ↓reduceIte, Nat.reducePow, reduceCtorEq, Int.reduceLE, Int.reduceLT, Int.reduceToNat, ← List.map_take, ← List.map_drop, Int.reduceBEq, Int.reduceBNe]
  refine k58 hz ?_
  simp only [go_sem, Nat.reduceAdd, Nat.reduceSub, Nat.reduceMul, Nat.reduceLeDiff, Nat.reduceLT, Nat.reduceEqDiff, ↓reduceIte, Nat.reducePow, reduceCtorEq, Int.reduceLE, Int.reduceLT, Int.reduceToNat, ← List.map_take, ← List.map_drop, Int.reduceBEq, Int.reduceBNe, sBook, gBook]
  refine k59 (t := p) ?_
  try simp only [go_sem, Nat.reduceAdd, Nat.reduceSub, Nat.reduceMul, Nat.reduceLeDiff, Nat.reduceLT, Nat.reduceEqDiff, ↓reduceIte, Nat.reducePow, reduceCtorEq, Int.reduceLE, Int.reduceLT, Int.reduceToNat, ← List.map_take, ← List.map_drop, Int.reduceBEq, Int.reduceBNe]
  refine k59 (t := q) ?_
  try simp only [go_sem, Nat.reduceAdd, Nat.reduceSub, Nat.reduceMul, Nat.reduceLeDiff, Nat.reduceLT, Nat.reduceEqDiff, ↓reduceIte, Nat.reducePow, reduceCtorEq, Int.reduceLE, Int.reduceLT, Int.reduceToNat, ← List.map_take, ← List.map_drop, Int.reduceBEq, Int.reduceBNe]
  refine pCall_see [8, 9, 10, 11, 12] (ct60 (b := tt b) (p := p) (q := q) (tt_sized hz) (tt_nils b)) (eq_three (view_sBook (n := 8) (b := b) rfl rfl rfl rfl rfl) rfl rfl) rfl rfl rfl ?_
  simp only [go_sem, Nat.reduceAdd, Nat.reduceSub, Nat.reduceMul, Nat.reduceLeDiff, Nat.reduceLT, Nat.reduceEqDiff, ↓reduceIte, Nat.reducePow, reduceCtorEq, Int.reduceLE, Int.reduceLT, Int.reduceToNat, ← List.map_take, ← List.map_drop, Int.reduceBEq, Int.reduceBNe, bne_self_eq_false]
  refine k58 hz ?_
  simp only [go_sem, Nat.reduceAdd, Nat.reduceSub, Nat.reduceMul, Nat.reduceLeDiff, Nat.reduceLT, Nat.reduceEqDiff, ↓reduceIte, Nat.reducePow, reduceCtorEq, Int.reduceLE, Int.reduceLT, Int.reduceToNat, ← List.map_take, ← List.map_drop, Int.reduceBEq, Int.reduceBNe, sBook, gBook]
  refine pCall_see [8, 9, 10, 11, 12, 14, 15, 16, 17, 18] (ct61 (a := tt b) (b := tt b) (tt_sized hz) rfl) (eq_two (view_sBook (n := 8) (b := b) rfl rfl rfl rfl rfl) (view_sBook (n := 14) (b := b) rfl rfl rfl rfl rfl)) rfl rfl rfl ?_
  simp only [go_sem, Nat.reduceAdd, Nat.reduceSub, Nat.reduceMul, Nat.reduceLeDiff, Nat.reduceLT, Nat.reduceEqDiff, ↓reduceIte, Nat.reducePow, reduceCtorEq, Int.reduceLE, Int.reduceLT, Int.reduceToNat, ← List.map_take, ← List.map_drop, Int.reduceBEq, Int.reduceBNe]
  exact pWk_done rfl ⟨rfl, rfl⟩

end Go.Sim
