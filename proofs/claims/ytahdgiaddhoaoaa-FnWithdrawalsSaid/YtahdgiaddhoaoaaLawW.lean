/- The contract of the law FnWithdrawals: it answers true. -/
import Derived.Test.YtahdgiaddhoaoaaPlainW
import Derived.Test.YtahdgiaddhoaoaaTxtW

set_option maxRecDepth 100000
set_option linter.unusedSimpArgs false
set_option linter.unusedVariables false
namespace Go.Sim
open Go.Proofs

theorem k25 {b : Book} (hb : Sized b) (hok : bookOk b = true) {H : Heap} {K : V → Heap → Prop} (h : K (.ints true (active b)) H) : pCall Try.prog 25 [vBook b] H K :=
  pCall_pv rfl rfl (Pu_of_fresh (by simp) (ct25 hb hok)) h
theorem k26 {a b : Book} (ha : Sized a) (hb : Sized b) {H : Heap} {K : V → Heap → Prop} (h : K (.ints true (changed a b)) H) : pCall Try.prog 26 [vBook a, vBook b] H K :=
  pCall_pv rfl rfl (Pu_of_fresh (by simp) (ct26 ha hb)) h
theorem k28 {b : Book} {t rule : Int} (hb : Sized b) (hn : Nils b) (hok : wdOk b t rule = true) {H : Heap} {K : V → Heap → Prop} (h : K (.ints true (lost b t rule)) H) : pCall Try.prog 28 [vBook b, .i t, .i rule] H K :=
  pCall_pv rfl rfl (Pu_of_fresh (by simp [lost_len]) (ct28 hb hn hok)) h

theorem filter_len {α : Type} {p : α → Bool} {l : List α} {n : Nat} (h : l.length < n) : (l.filter p).length < n := Nat.lt_of_le_of_lt (List.length_filter_le _ _) h

theorem law3 {nn : Bool} {bs : List Int} : Ct Try.prog 3 [.bytes nn bs] [] (fun v H => v = .bool true ∧ H = []) := by
  apply c3; unfold t3
  simp only [go_sem, Nat.reduceAdd, Nat.reduceSub, Nat.reduceMul, Nat.reduceLeDiff, Nat.reduceLT, Nat.reduceEqDiff, ↓reduceIte, Nat.reducePow, reduceCtorEq, Int.reduceLE, Int.reduceLT, Int.reduceToNat, ← List.map_take, ← List.map_drop, Int.reduceBEq, Int.reduceBNe]
  refine ⟨fun h => pWk_done rfl ⟨rfl, rfl⟩, fun hle => ?_⟩
  have hbl : bs.length ≤ 1048576 := by omega
  refine pCall_new (ct19 hbl) rfl ?_
  rintro _ _ ⟨rfl, n, b, hn3, hn5, rfl, hb⟩
  have hfl : b.field.length = n := hb.field.1
  have hs := good_sized hb (by omega)
  have hnl := good_nils hb
  have hok := good_ok hb hn3 hn5
  have hgl := hs.games
  have ren1 : V.ren (backF [] 0) (vBook b) = vBook b := ren_inK _ rfl
  simp only [List.length_nil, ren1, List.map_nil, List.append_nil]
  simp only [go_sem, Nat.reduceAdd, Nat.reduceSub, Nat.reduceMul, Nat.reduceLeDiff, Nat.reduceLT, Nat.reduceEqDiff, ↓reduceIte, Nat.reducePow, reduceCtorEq, Int.reduceLE, Int.reduceLT, Int.reduceToNat, ← List.map_take, ← List.map_drop, Int.reduceBEq, Int.reduceBNe, vBook_eq]
  refine pCall_new (ct20 (n := 60) hbl (by omega)) rfl ?_
  rintro _ _ ⟨⟨x, rfl, hx0, hx1⟩, rfl⟩
  have ht0 : 0 ≤ x % (n : Int) := Int.emod_nonneg _ (by omega)
  have ht1 : x % (n : Int) < n := Int.emod_lt_of_pos _ (by omega)
  have hmod : x.tmod (n : Int) = x % n := Int.tmod_eq_emod_of_nonneg hx0
  simp only [go_sem, Nat.reduceAdd, Nat.reduceSub, Nat.reduceMul, Nat.reduceLeDiff, Nat.reduceLT, Nat.reduceEqDiff, ↓reduceIte, Nat.reducePow, reduceCtorEq, Int.reduceLE, Int.reduceLT, Int.reduceToNat, ← List.map_take, ← List.map_drop, Int.reduceBEq, Int.reduceBNe, hfl, hmod]
  refine ⟨by omega, ?_⟩
  generalize x % (n : Int) = t at ht0 ht1
  have w1 : wdOk b t 1 = true := by
    simp only [wdOk, within, hok, hfl, Bool.and_eq_true, decide_eq_true_eq, Bool.not_eq_true']
    exact ⟨⟨trivial, by omega, by omega⟩, by decide⟩
  have w2 : wdOk b t 2 = true := by
    simp only [wdOk, within, hok, hfl, Bool.and_eq_true, decide_eq_true_eq, Bool.not_eq_true']
    exact ⟨⟨trivial, by omega, by omega⟩, by decide⟩
  have hx := wd_bookOk w1
  have hy := wd_bookOk w2
  have hxs := wd_sized (t := t) (rule := 1) hs
  have hys := wd_sized (t := t) (rule := 2) hs
  have hhas := good_has hb hn3 hn5 ht0 ht1 w1
  refine k21 (b := b) (rule := 1) hs hnl w1 ?_
  simp only [go_sem, Nat.reduceAdd, Nat.reduceSub, Nat.reduceMul, Nat.reduceLeDiff, Nat.reduceLT, Nat.reduceEqDiff, ↓reduceIte, Nat.reducePow, reduceCtorEq, Int.reduceLE, Int.reduceLT, Int.reduceToNat, ← List.map_take, ← List.map_drop, Int.reduceBEq, Int.reduceBNe, vBook_eq]
  refine k21 (b := b) (rule := 2) hs hnl w2 ?_
  simp only [go_sem, Nat.reduceAdd, Nat.reduceSub, Nat.reduceMul, Nat.reduceLeDiff, Nat.reduceLT, Nat.reduceEqDiff, ↓reduceIte, Nat.reducePow, reduceCtorEq, Int.reduceLE, Int.reduceLT, Int.reduceToNat, ← List.map_take, ← List.map_drop, Int.reduceBEq, Int.reduceBNe, vBook_eq]
  refine k22 (b := withdrawB b t 1) hxs ?_
  simp only [go_sem, Nat.reduceAdd, Nat.reduceSub, Nat.reduceMul, Nat.reduceLeDiff, Nat.reduceLT, Nat.reduceEqDiff, ↓reduceIte, Nat.reducePow, reduceCtorEq, Int.reduceLE, Int.reduceLT, Int.reduceToNat, ← List.map_take, ← List.map_drop, Int.reduceBEq, Int.reduceBNe, hx]
  refine k22 (b := withdrawB b t 2) hys ?_
  simp only [go_sem, Nat.reduceAdd, Nat.reduceSub, Nat.reduceMul, Nat.reduceLeDiff, Nat.reduceLT, Nat.reduceEqDiff, ↓reduceIte, Nat.reducePow, reduceCtorEq, Int.reduceLE, Int.reduceLT, Int.reduceToNat, ← List.map_take, ← List.map_drop, Int.reduceBEq, Int.reduceBNe, hy]
  refine k23 (b := withdrawB b t 1) hxs ?_
  simp only [go_sem, Nat.reduceAdd, Nat.reduceSub, Nat.reduceMul, Nat.reduceLeDiff, Nat.reduceLT, Nat.reduceEqDiff, ↓reduceIte, Nat.reducePow, reduceCtorEq, Int.reduceLE, Int.reduceLT, Int.reduceToNat, ← List.map_take, ← List.map_drop, Int.reduceBEq, Int.reduceBNe, hhas]
  refine k25 (b := withdrawB b t 1) hxs hx ?_
  have hact : (active (withdrawB b t 1)).contains t = false := by
    cases h : (active (withdrawB b t 1)).contains t with
    | false => rfl
    | true =>
      have := (List.mem_filter.1 (List.contains_iff_mem.1 h)).2
      rw [hhas] at this; cases this
  have hactl : (active (withdrawB b t 1)).length < 2 ^ 62 := filter_len (by rw [upTo_len]; show b.field.length < 2 ^ 62; omega)
  refine k24 hactl ?_
  simp only [go_sem, Nat.reduceAdd, Nat.reduceSub, Nat.reduceMul, Nat.reduceLeDiff, Nat.reduceLT, Nat.reduceEqDiff, ↓reduceIte, Nat.reducePow, reduceCtorEq, Int.reduceLE, Int.reduceLT, Int.reduceToNat, ← List.map_take, ← List.map_drop, Int.reduceBEq, Int.reduceBNe, hact]
  refine k26 (a := b) (b := withdrawB b t 1) hs hxs ?_
  have hcl1 : (changed b (withdrawB b t 1)).length < 4000000 := filter_len (by rw [upTo_len]; omega)
  have hcl2 : (changed b (withdrawB b t 2)).length < 4000000 := filter_len (by rw [upTo_len]; omega)
  simp only [go_sem, Nat.reduceAdd, Nat.reduceSub, Nat.reduceMul, Nat.reduceLeDiff, Nat.reduceLT, Nat.reduceEqDiff, ↓reduceIte, Nat.reducePow, reduceCtorEq, Int.reduceLE, Int.reduceLT, Int.reduceToNat, ← List.map_take, ← List.map_drop, Int.reduceBEq, Int.reduceBNe]
  refine loop_st (fun k : Nat => ([V.i k], [Blk.box 29 (vBook b), Blk.box 29 (vBook (withdrawB b t 1)), Blk.box 29 (vBook (withdrawB b t 2))])) (fun k => k ≤ (changed b (withdrawB b t 1)).length) (fun k => (changed b (withdrawB b t 1)).length - k) (pWk_take rfl ⟨0, by omega, rfl, rfl⟩) ?_
  rintro μ k hk nx
  simp only [go_sem, Nat.reduceAdd, Nat.reduceSub, Nat.reduceMul, Nat.reduceLeDiff, Nat.reduceLT, Nat.reduceEqDiff, ↓reduceIte, Nat.reducePow, reduceCtorEq, Int.reduceLE, Int.reduceLT, Int.reduceToNat, ← List.map_take, ← List.map_drop, Int.reduceBEq, Int.reduceBNe, vBook_eq, Int.ofNat_lt, Int.natCast_nonneg, List.getElem?_map]
  refine ⟨fun hlt => ?_, fun hge => ?_⟩
  · have hx1 : (changed b (withdrawB b t 1))[k]? = some ((changed b (withdrawB b t 1))[k]'hlt) := List.getElem?_eq_getElem _
    obtain ⟨g, c0, c1, cg, cp, _⟩ := changed_mem (List.getElem_mem hlt)
    generalize (changed b (withdrawB b t 1))[k]'hlt = z at hx1 c0 c1 cg
    simp only [go_sem, Nat.reduceAdd, Nat.reduceSub, Nat.reduceMul, Nat.reduceLeDiff, Nat.reduceLT, Nat.reduceEqDiff, ↓reduceIte, Nat.reducePow, reduceCtorEq, Int.reduceLE, Int.reduceLT, Int.reduceToNat, ← List.map_take, ← List.map_drop, Int.reduceBEq, Int.reduceBNe, hx1, List.getElem?_map, cg, vGame, wrapN (show k < 4611686018427387904 by omega)]
    refine ⟨by omega, fun h => by omega, fun _ => ⟨fun h => by omega, fun _ => ⟨by omega, by omega, fun e1 => ⟨by omega, by omega, fun e2 => ?_, fun _ => ?_⟩, fun _ => ?_⟩⟩⟩
    · exfalso
      simp at e1 e2
      simp [plays, e1, e2] at cp
    · exact pWk_take rfl (nx (k + 1) (by omega) (by omega))
    · exact pWk_take rfl (nx (k + 1) (by omega) (by omega))
  clear nx hge hk
  refine k26 (a := b) (b := withdrawB b t 2) hs hys ?_
  simp only [go_sem, Nat.reduceAdd, Nat.reduceSub, Nat.reduceMul, Nat.reduceLeDiff, Nat.reduceLT, Nat.reduceEqDiff, ↓reduceIte, Nat.reducePow, reduceCtorEq, Int.reduceLE, Int.reduceLT, Int.reduceToNat, ← List.map_take, ← List.map_drop, Int.reduceBEq, Int.reduceBNe]
  refine loop_st (fun k : Nat => ([V.i k], [Blk.box 29 (vBook b), Blk.box 29 (vBook (withdrawB b t 1)), Blk.box 29 (vBook (withdrawB b t 2))])) (fun k => k ≤ (changed b (withdrawB b t 2)).length) (fun k => (changed b (withdrawB b t 2)).length - k) (pWk_take rfl ⟨0, by omega, rfl, rfl⟩) ?_
  rintro ν k hk nx
  simp only [go_sem, Nat.reduceAdd, Nat.reduceSub, Nat.reduceMul, Nat.reduceLeDiff, Nat.reduceLT, Nat.reduceEqDiff, ↓reduceIte, Nat.reducePow, reduceCtorEq, Int.reduceLE, Int.reduceLT, Int.reduceToNat, ← List.map_take, ← List.map_drop, Int.reduceBEq, Int.reduceBNe, vBook_eq, Int.ofNat_lt, Int.natCast_nonneg, List.getElem?_map]
  refine ⟨fun hlt => ?_, fun hge => ?_⟩
  · have hx1 : (changed b (withdrawB b t 2))[k]? = some ((changed b (withdrawB b t 2))[k]'hlt) := List.getElem?_eq_getElem _
    obtain ⟨g, c0, c1, cg, cp, cs⟩ := changed_mem (List.getElem_mem hlt)
    have cs : g.st = 0 := by rcases cs with h | h; · cases h
                             · exact h
    generalize (changed b (withdrawB b t 2))[k]'hlt = z at hx1 c0 c1 cg
    have hgo : (g.st == 0) = true := by simp [cs]
    simp only [go_sem, Nat.reduceAdd, Nat.reduceSub, Nat.reduceMul, Nat.reduceLeDiff, Nat.reduceLT, Nat.reduceEqDiff, ↓reduceIte, Nat.reducePow, reduceCtorEq, Int.reduceLE, Int.reduceLT, Int.reduceToNat, ← List.map_take, ← List.map_drop, Int.reduceBEq, Int.reduceBNe, hx1, List.getElem?_map, cg, vGame, wrapN (show k < 4611686018427387904 by omega)]
    refine ⟨by omega, fun h => by omega, fun _ => ⟨fun h => by omega, fun _ => ⟨by omega, by omega, fun e1 => ⟨by omega, by omega, fun e2 => ?_, fun _ => ⟨by omega, by omega, ?_⟩⟩, fun _ => ⟨by omega, by omega, ?_⟩⟩⟩⟩
    · exfalso
      simp at e1 e2
      simp [plays, e1, e2] at cp
    · refine k27 (g := g) ?_
      simp only [go_sem, Nat.reduceAdd, Nat.reduceSub, Nat.reduceMul, Nat.reduceLeDiff, Nat.reduceLT, Nat.reduceEqDiff, ↓reduceIte, Nat.reducePow, reduceCtorEq, Int.reduceLE, Int.reduceLT, Int.reduceToNat, ← List.map_take, ← List.map_drop, Int.reduceBEq, Int.reduceBNe, hgo]
      exact pWk_take rfl (nx (k + 1) (by omega) (by omega))
    · refine k27 (g := g) ?_
      simp only [go_sem, Nat.reduceAdd, Nat.reduceSub, Nat.reduceMul, Nat.reduceLeDiff, Nat.reduceLT, Nat.reduceEqDiff, ↓reduceIte, Nat.reducePow, reduceCtorEq, Int.reduceLE, Int.reduceLT, Int.reduceToNat, ← List.map_take, ← List.map_drop, Int.reduceBEq, Int.reduceBNe, hgo]
      exact pWk_take rfl (nx (k + 1) (by omega) (by omega))
  clear nx hge hk
  refine k28 (b := b) (rule := 2) hs hnl w2 ?_
  simp only [go_sem, Nat.reduceAdd, Nat.reduceSub, Nat.reduceMul, Nat.reduceLeDiff, Nat.reduceLT, Nat.reduceEqDiff, ↓reduceIte, Nat.reducePow, reduceCtorEq, Int.reduceLE, Int.reduceLT, Int.reduceToNat, ← List.map_take, ← List.map_drop, Int.reduceBEq, Int.reduceBNe]
  refine k28 (b := b) (rule := 1) hs hnl w1 ?_
  have hl1 : (lost b t 1).length = n := by rw [lost_len, hfl]
  have hl2 : (lost b t 2).length = n := by rw [lost_len, hfl]
  simp only [go_sem, Nat.reduceAdd, Nat.reduceSub, Nat.reduceMul, Nat.reduceLeDiff, Nat.reduceLT, Nat.reduceEqDiff, ↓reduceIte, Nat.reducePow, reduceCtorEq, Int.reduceLE, Int.reduceLT, Int.reduceToNat, ← List.map_take, ← List.map_drop, Int.reduceBEq, Int.reduceBNe, hl1, hl2, hfl, bne_self_eq_false]
  refine loop_st (fun k : Nat => ([V.i k], [Blk.box 29 (vBook b), Blk.box 29 (vBook (withdrawB b t 1)), Blk.box 29 (vBook (withdrawB b t 2))])) (fun k => k ≤ n) (fun k => n - k) (pWk_take rfl ⟨0, by omega, rfl, rfl⟩) ?_
  rintro ξ k hk nx
  simp only [go_sem, Nat.reduceAdd, Nat.reduceSub, Nat.reduceMul, Nat.reduceLeDiff, Nat.reduceLT, Nat.reduceEqDiff, ↓reduceIte, Nat.reducePow, reduceCtorEq, Int.reduceLE, Int.reduceLT, Int.reduceToNat, ← List.map_take, ← List.map_drop, Int.reduceBEq, Int.reduceBNe, vBook_eq, Int.ofNat_lt, Int.natCast_nonneg, List.getElem?_map, hl1, hl2]
  refine ⟨fun hlt => ?_, fun hge => ?_⟩
  · obtain ⟨z1, y1, y2⟩ := gone_ge (t := t) hs w1 (k := k) (by omega)
    obtain ⟨z2, y3, y4⟩ := lost_le (t := t) hs w2 (k := k) (by omega)
    simp only [go_sem, Nat.reduceAdd, Nat.reduceSub, Nat.reduceMul, Nat.reduceLeDiff, Nat.reduceLT, Nat.reduceEqDiff, ↓reduceIte, Nat.reducePow, reduceCtorEq, Int.reduceLE, Int.reduceLT, Int.reduceToNat, ← List.map_take, ← List.map_drop, Int.reduceBEq, Int.reduceBNe, y1, y3, wrapN (show k < 4611686018427387904 by omega)]
    refine ⟨fun _ => ⟨by omega, fun h => by omega, fun _ => ⟨by omega, fun h => by omega, fun _ => ?_⟩⟩, fun _ => ⟨by omega, fun h => by omega, fun _ => ?_⟩⟩
    · exact pWk_take rfl (nx (k + 1) (by omega) (by omega))
    · exact pWk_take rfl (nx (k + 1) (by omega) (by omega))
  clear nx hge hk
  refine pCall_new (ct30 (b := b) (t := t) hs hok (by simp only [within, Bool.and_eq_true, decide_eq_true_eq]; omega)) rfl ?_
  rintro _ _ ⟨r, hr, rfl, rfl⟩
  simp only [go_sem, Nat.reduceAdd, Nat.reduceSub, Nat.reduceMul, Nat.reduceLeDiff, Nat.reduceLT, Nat.reduceEqDiff, ↓reduceIte, Nat.reducePow, reduceCtorEq, Int.reduceLE, Int.reduceLT, Int.reduceToNat, ← List.map_take, ← List.map_drop, Int.reduceBEq, Int.reduceBNe]
  refine k29 ?_
  simp only [go_sem, Nat.reduceAdd, Nat.reduceSub, Nat.reduceMul, Nat.reduceLeDiff, Nat.reduceLT, Nat.reduceEqDiff, ↓reduceIte, Nat.reducePow, reduceCtorEq, Int.reduceLE, Int.reduceLT, Int.reduceToNat, ← List.map_take, ← List.map_drop, Int.reduceBEq, Int.reduceBNe]
  refine pWk_done rfl ⟨congrArg V.bool ?_, rfl⟩
  rcases hr with rfl | rfl <;> decide

end Go.Sim
