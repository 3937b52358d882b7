/- The contract of the law FnExactWithdraw: it answers true. -/
import Derived.Test.YtahdgiaddhoaoaaConM
import Derived.Test.YtahdgiaddhoaoaaTxtX

set_option maxRecDepth 100000
set_option linter.unusedSimpArgs false
set_option linter.unusedVariables false
namespace Go.Sim
open Go.Proofs

theorem k90 {b : Book} {t rule : Int} {H : Heap} {K : V → Heap → Prop} {args : List V} (vw : List Nat) (hb : Sized b) (hv : args.map (·.view (vwOf H vw)) = [vBook b, .i t, .i rule])
    (h1 : wdOk b t rule = true → K (.tup [sBook H.length b, .bool true]) (H ++ gBook { b with games := b.games.map (wdS t rule) })) (h0 : wdOk b t rule = false → K (.tup [zBook, .bool false]) H) : pCall Try.prog 90 args H K := by
  refine pCall_lend vw (ct90 hb) hv rfl ?_ ?_
  · intro r H' hq
    by_cases h : wdOk b t rule = true
    · rw [if_pos h] at hq; obtain ⟨rfl, rfl⟩ := hq; exact ⟨rfl, gBook_flat _⟩
    · rw [if_neg h] at hq; obtain ⟨rfl, rfl⟩ := hq; exact ⟨rfl, fun k hk => by cases hk⟩
  · intro r H' hq
    by_cases h : wdOk b t rule = true
    · rw [if_pos h] at hq; obtain ⟨rfl, rfl⟩ := hq
      have e1 : V.ren (backF [] H.length) (.tup [sBook 0 b, .bool true]) = .tup [sBook H.length b, .bool true] := by simp [sBook, V.ren, V.rens, backF]
      rw [e1]; exact h1 h
    · rw [if_neg h] at hq; obtain ⟨rfl, rfl⟩ := hq
      have := h0 (by simpa using h)
      simpa [V.ren, V.rens] using this
theorem k21l {b : Book} {t rule : Int} {H : Heap} {K : V → Heap → Prop} {args : List V} (vw : List Nat) (hb : Sized b) (hn : Nils b) (hv : args.map (·.view (vwOf H vw)) = [vBook b, .i t, .i rule])
    (h1 : wdOk b t rule = true → K (.tup [rBook H.length b, .bool true]) (H ++ hBook (withdrawB b t rule))) (h0 : wdOk b t rule = false → K (.tup [zBook, .bool false]) H) : pCall Try.prog 21 args H K := by
  refine pCall_lend vw (ct21 hb hn) hv rfl ?_ ?_
  · intro r H' hq
    by_cases h : wdOk b t rule = true
    · rw [if_pos h] at hq; obtain ⟨rfl, rfl⟩ := hq; exact ⟨rfl, hBook_flat _⟩
    · rw [if_neg h] at hq; obtain ⟨rfl, rfl⟩ := hq; exact ⟨rfl, fun k hk => by cases hk⟩
  · intro r H' hq
    by_cases h : wdOk b t rule = true
    · rw [if_pos h] at hq; obtain ⟨rfl, rfl⟩ := hq
      have e1 : V.ren (backF [] H.length) (.tup [rBook 0 b, .bool true]) = .tup [rBook H.length b, .bool true] := by simp [rBook, V.ren, V.rens, backF]
      rw [e1]; exact h1 h
    · rw [if_neg h] at hq; obtain ⟨rfl, rfl⟩ := hq
      have := h0 (by simpa using h)
      simpa [V.ren, V.rens] using this

/-- A book of slices anywhere. -/
theorem view_book {f : Nat → Option (Bool × Nat × List V)} {i0 i1 i2 i3 i4 n0 n1 n2 n3 n4 : Nat} (b : Book) (e0 : b.field.length = n0) (e1 : b.rules.ladder.length = n1) (e2 : b.games.length = n2) (e3 : b.fair.length = n3) (e4 : b.taken.length = n4)
    (h0 : f i0 = some (b.fnn, 3, b.field.map vTeam)) (h1 : f i1 = some (b.rules.lnn, 1, b.rules.ladder.map V.i)) (h2 : f i2 = some (b.gnn, 5, b.games.map vGame)) (h3 : f i3 = some (b.pnn, 1, b.fair.map V.i)) (h4 : f i4 = some (b.tnn, 1, b.taken.map V.i)) :
    (V.agg [.ref i0 0 n0, .i b.rules.win, .i b.rules.draw, .i b.rules.loss, .ref i1 0 n1, .bool b.rules.again, .ref i2 0 n2, .ref i3 0 n3, .ref i4 0 n4]).view f = vBook b := by
  subst e0; subst e1; subst e2; subst e3; subst e4
  simp [V.view, V.views, h0, h1, h2, h3, h4, vBook, List.take_of_length_le]

def zb : Book := ⟨false, [], ⟨0, 0, 0, false, [], false⟩, false, [], false, [], false, []⟩
theorem zb_eq : zBook = vBook zb := rfl
theorem zb_sized : Sized zb := ⟨by decide, fun t ht => (by cases ht), by decide, by decide, by decide, by decide⟩

theorem z88 {k : Int} : Pu Try.prog 88 [.sl false 1 [], .i k] (.i k) := by
  apply c88; unfold t88
  simp only [go_sem, Nat.reduceAdd, Nat.reduceSub, Nat.reduceMul, Nat.reduceLeDiff, Nat.reduceLT, Nat.reduceEqDiff, ↓reduceIte, Nat.reducePow, reduceCtorEq, Int.reduceLE, Int.reduceLT, Int.reduceToNat, ← List.map_take, ← List.map_drop, Int.reduceBEq, Int.reduceBNe]
  refine loop_st (fun i : Nat => ([V.i k, V.i 0], [])) (fun i => True) (fun i => i) (pWk_done rfl ⟨0, trivial, rfl, rfl⟩) ?_
  rintro μ i hi nx
  simp only [go_sem, Nat.reduceAdd, Nat.reduceSub, Nat.reduceMul, Nat.reduceLeDiff, Nat.reduceLT, Nat.reduceEqDiff, ↓reduceIte, Nat.reducePow, reduceCtorEq, Int.reduceLE, Int.reduceLT, Int.reduceToNat, ← List.map_take, ← List.map_drop, Int.reduceBEq, Int.reduceBNe]
  exact pWk_done rfl ⟨rfl, rfl⟩
theorem z205 {k : Int} : Pu Try.prog 205 [.sl false 3 [], .i k] (.i k) := by
  apply c205; unfold t205
  simp only [go_sem, Nat.reduceAdd, Nat.reduceSub, Nat.reduceMul, Nat.reduceLeDiff, Nat.reduceLT, Nat.reduceEqDiff, ↓reduceIte, Nat.reducePow, reduceCtorEq, Int.reduceLE, Int.reduceLT, Int.reduceToNat, ← List.map_take, ← List.map_drop, Int.reduceBEq, Int.reduceBNe]
  refine loop_st (fun i : Nat => ([V.i k, V.i 0], [])) (fun i => True) (fun i => i) (pWk_done rfl ⟨0, trivial, rfl, rfl⟩) ?_
  rintro μ i hi nx
  simp only [go_sem, Nat.reduceAdd, Nat.reduceSub, Nat.reduceMul, Nat.reduceLeDiff, Nat.reduceLT, Nat.reduceEqDiff, ↓reduceIte, Nat.reducePow, reduceCtorEq, Int.reduceLE, Int.reduceLT, Int.reduceToNat, ← List.map_take, ← List.map_drop, Int.reduceBEq, Int.reduceBNe]
  exact pWk_done rfl ⟨rfl, rfl⟩
theorem z207 {k : Int} : Pu Try.prog 207 [.sl false 5 [], .i k] (.i k) := by
  apply c207; unfold t207
  simp only [go_sem, Nat.reduceAdd, Nat.reduceSub, Nat.reduceMul, Nat.reduceLeDiff, Nat.reduceLT, Nat.reduceEqDiff, ↓reduceIte, Nat.reducePow, reduceCtorEq, Int.reduceLE, Int.reduceLT, Int.reduceToNat, ← List.map_take, ← List.map_drop, Int.reduceBEq, Int.reduceBNe]
  refine loop_st (fun i : Nat => ([V.i k, V.i 0], [])) (fun i => True) (fun i => i) (pWk_done rfl ⟨0, trivial, rfl, rfl⟩) ?_
  rintro μ i hi nx
  simp only [go_sem, Nat.reduceAdd, Nat.reduceSub, Nat.reduceMul, Nat.reduceLeDiff, Nat.reduceLT, Nat.reduceEqDiff, ↓reduceIte, Nat.reducePow, reduceCtorEq, Int.reduceLE, Int.reduceLT, Int.reduceToNat, ← List.map_take, ← List.map_drop, Int.reduceBEq, Int.reduceBNe]
  exact pWk_done rfl ⟨rfl, rfl⟩

theorem z206 {k w d s : Int} {ag : Bool} : Pu Try.prog 206 [.agg [.i w, .i d, .i s, .sl false 1 [], .bool ag], .i k] (.i k) := by
  apply c206; unfold t206
  simp only [go_sem, Nat.reduceAdd, Nat.reduceSub, Nat.reduceMul, Nat.reduceLeDiff, Nat.reduceLT, Nat.reduceEqDiff, ↓reduceIte, Nat.reducePow, reduceCtorEq, Int.reduceLE, Int.reduceLT, Int.reduceToNat, ← List.map_take, ← List.map_drop, Int.reduceBEq, Int.reduceBNe]
  refine pCall_pv rfl rfl z88 ?_
  exact pWk_done rfl ⟨rfl, rfl⟩
theorem z91 : Pu Try.prog 91 [zBook, .i 1] (.i 1) := by
  apply c91; unfold t91
  simp only [go_sem, Nat.reduceAdd, Nat.reduceSub, Nat.reduceMul, Nat.reduceLeDiff, Nat.reduceLT, Nat.reduceEqDiff, ↓reduceIte, Nat.reducePow, reduceCtorEq, Int.reduceLE, Int.reduceLT, Int.reduceToNat, ← List.map_take, ← List.map_drop, Int.reduceBEq, Int.reduceBNe]
  refine pCall_pv rfl rfl z205 ?_
  simp only [go_sem, Nat.reduceAdd, Nat.reduceSub, Nat.reduceMul, Nat.reduceLeDiff, Nat.reduceLT, Nat.reduceEqDiff, ↓reduceIte, Nat.reducePow, reduceCtorEq, Int.reduceLE, Int.reduceLT, Int.reduceToNat, ← List.map_take, ← List.map_drop, Int.reduceBEq, Int.reduceBNe]
  refine pCall_pv rfl rfl z206 ?_
  simp only [go_sem, Nat.reduceAdd, Nat.reduceSub, Nat.reduceMul, Nat.reduceLeDiff, Nat.reduceLT, Nat.reduceEqDiff, ↓reduceIte, Nat.reducePow, reduceCtorEq, Int.reduceLE, Int.reduceLT, Int.reduceToNat, ← List.map_take, ← List.map_drop, Int.reduceBEq, Int.reduceBNe]
  refine pCall_pv rfl rfl z207 ?_
  simp only [go_sem, Nat.reduceAdd, Nat.reduceSub, Nat.reduceMul, Nat.reduceLeDiff, Nat.reduceLT, Nat.reduceEqDiff, ↓reduceIte, Nat.reducePow, reduceCtorEq, Int.reduceLE, Int.reduceLT, Int.reduceToNat, ← List.map_take, ← List.map_drop, Int.reduceBEq, Int.reduceBNe]
  refine pCall_pv rfl rfl z88 ?_
  simp only [go_sem, Nat.reduceAdd, Nat.reduceSub, Nat.reduceMul, Nat.reduceLeDiff, Nat.reduceLT, Nat.reduceEqDiff, ↓reduceIte, Nat.reducePow, reduceCtorEq, Int.reduceLE, Int.reduceLT, Int.reduceToNat, ← List.map_take, ← List.map_drop, Int.reduceBEq, Int.reduceBNe]
  refine pCall_pv rfl rfl z88 ?_
  exact pWk_done rfl ⟨rfl, rfl⟩

theorem tt_wd {b : Book} {t rule : Int} (h : wdOk (tt b) t rule = true) : tt (withdrawB (tt b) t rule) = tt { tt b with games := (tt b).games.map (wdS t rule) } := by
  rw [wdS_eq h]; rfl
theorem wdS_sized {b : Book} {t rule : Int} (h : Sized b) : Sized { b with games := b.games.map (wdS t rule) } := ⟨h.field, h.names, h.ladder, by simp only [List.length_map]; exact h.games, h.fair, h.taken⟩

theorem law14 {b : Book} {t rule : Int} (hb : Wide b) : Ct Try.prog 14 [vBook b, .i t, .i rule] [] (fun v H => v = .bool true ∧ H = []) := by
  apply c14; unfold t14
  have hbx := vBook_eq b
  simp only [go_sem, Nat.reduceAdd, Nat.reduceSub, Nat.reduceMul, Nat.reduceLeDiff, Nat.reduceLT, Nat.reduceEqDiff, ↓reduceIte, Nat.reducePow, reduceCtorEq, Int.reduceLE, Int.reduceLT, Int.reduceToNat, ← List.map_take, ← List.map_drop, Int.reduceBEq, Int.reduceBNe, hbx]
  refine pCall_new (ct56 hb) rfl ?_
  rintro _ _ ⟨r, rfl, rfl, hr⟩
  simp only [go_sem, Nat.reduceAdd, Nat.reduceSub, Nat.reduceMul, Nat.reduceLeDiff, Nat.reduceLT, Nat.reduceEqDiff, ↓reduceIte, Nat.reducePow, reduceCtorEq, Int.reduceLE, Int.reduceLT, Int.reduceToNat, ← List.map_take, ← List.map_drop, Int.reduceBEq, Int.reduceBNe]
  refine ⟨fun h => pWk_done rfl ⟨rfl, rfl⟩, fun h => ?_⟩
  have hz := hr (by omega)
  have hzt := tt_sized hz
  refine k58 hz ?_
  simp only [go_sem, Nat.reduceAdd, Nat.reduceSub, Nat.reduceMul, Nat.reduceLeDiff, Nat.reduceLT, Nat.reduceEqDiff, ↓reduceIte, Nat.reducePow, reduceCtorEq, Int.reduceLE, Int.reduceLT, Int.reduceToNat, ← List.map_take, ← List.map_drop, Int.reduceBEq, Int.reduceBNe, sBook, gBook]
  refine k90 (b := tt b) [1, 2, 3, 4, 5] hzt (eq_three (view_sBook (n := 1) (b := b) rfl rfl rfl rfl rfl) rfl rfl) (fun hok => ?_) (fun hno => ?_)
  · simp only [go_sem, Nat.reduceAdd, Nat.reduceSub, Nat.reduceMul, Nat.reduceLeDiff, Nat.reduceLT, Nat.reduceEqDiff, ↓reduceIte, Nat.reducePow, reduceCtorEq, Int.reduceLE, Int.reduceLT, Int.reduceToNat, ← List.map_take, ← List.map_drop, Int.reduceBEq, Int.reduceBNe, sBook, gBook]
    refine k58 hz ?_
    simp only [go_sem, Nat.reduceAdd, Nat.reduceSub, Nat.reduceMul, Nat.reduceLeDiff, Nat.reduceLT, Nat.reduceEqDiff, ↓reduceIte, Nat.reducePow, reduceCtorEq, Int.reduceLE, Int.reduceLT, Int.reduceToNat, ← List.map_take, ← List.map_drop, Int.reduceBEq, Int.reduceBNe, sBook, gBook]
    refine k21l (b := tt b) [12, 13, 14, 15, 16] hzt (tt_nils b) (eq_three (view_sBook (n := 12) (b := b) rfl rfl rfl rfl rfl) rfl rfl) (fun _ => ?_) (fun h => absurd (hok.symm.trans h) (by decide))
    simp only [go_sem, Nat.reduceAdd, Nat.reduceSub, Nat.reduceMul, Nat.reduceLeDiff, Nat.reduceLT, Nat.reduceEqDiff, ↓reduceIte, Nat.reducePow, reduceCtorEq, Int.reduceLE, Int.reduceLT, Int.reduceToNat, ← List.map_take, ← List.map_drop, Int.reduceBEq, Int.reduceBNe, rBook, hBook]
    refine pCall_see [6, 7, 8, 9, 10, 18, 19, 20, 21, 22] (ct61 (a := withdrawB (tt b) t rule) (b := tt { tt b with games := (tt b).games.map (wdS t rule) }) (tt_sized (wdS_sized hzt)) (tt_wd hok))
      (eq_two (view_book (withdrawB (tt b) t rule) rfl rfl (by simp [withdrawB]) rfl rfl rfl rfl rfl rfl rfl) (view_book (tt { tt b with games := (tt b).games.map (wdS t rule) }) rfl rfl (by simp [tt]) rfl rfl rfl rfl rfl rfl rfl)) rfl rfl rfl ?_
    simp only [go_sem, Nat.reduceAdd, Nat.reduceSub, Nat.reduceMul, Nat.reduceLeDiff, Nat.reduceLT, Nat.reduceEqDiff, ↓reduceIte, Nat.reducePow, reduceCtorEq, Int.reduceLE, Int.reduceLT, Int.reduceToNat, ← List.map_take, ← List.map_drop, Int.reduceBEq, Int.reduceBNe, bne_self_eq_false]
    refine k58 hz ?_
    simp only [go_sem, Nat.reduceAdd, Nat.reduceSub, Nat.reduceMul, Nat.reduceLeDiff, Nat.reduceLT, Nat.reduceEqDiff, ↓reduceIte, Nat.reducePow, reduceCtorEq, Int.reduceLE, Int.reduceLT, Int.reduceToNat, ← List.map_take, ← List.map_drop, Int.reduceBEq, Int.reduceBNe, sBook, gBook]
    refine pCall_see [12, 13, 14, 15, 16, 24, 25, 26, 27, 28] (ct61 (a := tt b) (b := tt b) hzt rfl) (eq_two (view_sBook (n := 12) (b := b) rfl rfl rfl rfl rfl) (view_sBook (n := 24) (b := b) rfl rfl rfl rfl rfl)) rfl rfl rfl ?_
    simp only [go_sem, Nat.reduceAdd, Nat.reduceSub, Nat.reduceMul, Nat.reduceLeDiff, Nat.reduceLT, Nat.reduceEqDiff, ↓reduceIte, Nat.reducePow, reduceCtorEq, Int.reduceLE, Int.reduceLT, Int.reduceToNat, ← List.map_take, ← List.map_drop, Int.reduceBEq, Int.reduceBNe]
    refine pCall_with false [] [] [12, 13, 14, 15, 16] (ct91 (b := b) hz) rfl rfl rfl ?_
    rintro _ _ ⟨rfl, rfl⟩
    refine ⟨fun h => (by cases h), ?_⟩
    simp only [go_sem, Nat.reduceAdd, Nat.reduceSub, Nat.reduceMul, Nat.reduceLeDiff, Nat.reduceLT, Nat.reduceEqDiff, ↓reduceIte, Nat.reducePow, reduceCtorEq, Int.reduceLE, Int.reduceLT, Int.reduceToNat, ← List.map_take, ← List.map_drop, Int.reduceBEq, Int.reduceBNe, gBook]
    refine ⟨fun h => by omega, fun _ => ?_⟩
    refine pCall_see [6, 7, 8, 9, 10, 18, 19, 20, 21, 22] (ct61 (a := withdrawB (tt b) t rule) (b := tt { tt b with games := (tt b).games.map (wdS t rule) }) (tt_sized (wdS_sized hzt)) (tt_wd hok))
      (eq_two (view_book (withdrawB (tt b) t rule) rfl rfl (by simp [withdrawB]) rfl rfl rfl rfl rfl rfl rfl) (view_book (tt { tt b with games := (tt b).games.map (wdS t rule) }) rfl rfl (by simp [tt]) rfl rfl rfl rfl rfl rfl rfl)) rfl rfl rfl ?_
    simp only [go_sem, Nat.reduceAdd, Nat.reduceSub, Nat.reduceMul, Nat.reduceLeDiff, Nat.reduceLT, Nat.reduceEqDiff, ↓reduceIte, Nat.reducePow, reduceCtorEq, Int.reduceLE, Int.reduceLT, Int.reduceToNat, ← List.map_take, ← List.map_drop, Int.reduceBEq, Int.reduceBNe, bne_self_eq_false]
    refine pCall_with false [] [] [18, 22, 19, 20, 21] (args' := [sBook 0 (withdrawB (tt b) t rule), .i 1]) (ct91 (b := withdrawB (tt b) t rule) (wd_sized hzt)) (by simp [V.view, V.views, V.ren, V.rens, vwOf, keepR, sBook, withdrawB]; exact ⟨rfl, rfl, rfl, rfl, rfl⟩) rfl rfl ?_
    rintro _ _ ⟨rfl, rfl⟩
    refine ⟨fun h => (by cases h), ?_⟩
    simp only [go_sem, Nat.reduceAdd, Nat.reduceSub, Nat.reduceMul, Nat.reduceLeDiff, Nat.reduceLT, Nat.reduceEqDiff, ↓reduceIte, Nat.reducePow, reduceCtorEq, Int.reduceLE, Int.reduceLT, Int.reduceToNat, ← List.map_take, ← List.map_drop, Int.reduceBEq, Int.reduceBNe, gBook]
    refine pCall_see [18, 19, 20, 21, 22] (ct92 (b := withdrawB (tt b) t rule) (wd_sized hzt)) (eq_two (view_book (markB (withdrawB (tt b) t rule)) (by simp [markB, withdrawB]) (by simp [markB, withdrawB]) (by simp [markB, withdrawB]) (by simp [markB, withdrawB]) (by simp [markB, withdrawB]) rfl rfl rfl rfl rfl) rfl) rfl rfl rfl ?_
    simp only [go_sem, Nat.reduceAdd, Nat.reduceSub, Nat.reduceMul, Nat.reduceLeDiff, Nat.reduceLT, Nat.reduceEqDiff, ↓reduceIte, Nat.reducePow, reduceCtorEq, Int.reduceLE, Int.reduceLT, Int.reduceToNat, ← List.map_take, ← List.map_drop, Int.reduceBEq, Int.reduceBNe, bne_self_eq_false]
    refine ⟨fun h => by omega, fun _ => ?_⟩
    refine k58 hz ?_
    simp only [go_sem, Nat.reduceAdd, Nat.reduceSub, Nat.reduceMul, Nat.reduceLeDiff, Nat.reduceLT, Nat.reduceEqDiff, ↓reduceIte, Nat.reducePow, reduceCtorEq, Int.reduceLE, Int.reduceLT, Int.reduceToNat, ← List.map_take, ← List.map_drop, Int.reduceBEq, Int.reduceBNe, sBook, gBook]
    refine k21l (b := tt b) [29, 30, 31, 32, 33] hzt (tt_nils b) (eq_three (view_sBook (n := 29) (b := b) rfl rfl rfl rfl rfl) rfl rfl) (fun _ => ?_) (fun h => absurd (hok.symm.trans h) (by decide))
    simp only [go_sem, Nat.reduceAdd, Nat.reduceSub, Nat.reduceMul, Nat.reduceLeDiff, Nat.reduceLT, Nat.reduceEqDiff, ↓reduceIte, Nat.reducePow, reduceCtorEq, Int.reduceLE, Int.reduceLT, Int.reduceToNat, ← List.map_take, ← List.map_drop, Int.reduceBEq, Int.reduceBNe, rBook, hBook]
    refine pCall_see [6, 7, 8, 9, 10, 34, 35, 36, 37, 38] (ct61 (a := withdrawB (tt b) t rule) (b := tt { tt b with games := (tt b).games.map (wdS t rule) }) (tt_sized (wdS_sized hzt)) (tt_wd hok))
      (eq_two (view_book (withdrawB (tt b) t rule) rfl rfl (by simp [withdrawB]) rfl rfl rfl rfl rfl rfl rfl) (view_book (tt { tt b with games := (tt b).games.map (wdS t rule) }) rfl rfl (by simp [tt]) rfl rfl rfl rfl rfl rfl rfl)) rfl rfl rfl ?_
    simp only [go_sem, Nat.reduceAdd, Nat.reduceSub, Nat.reduceMul, Nat.reduceLeDiff, Nat.reduceLT, Nat.reduceEqDiff, ↓reduceIte, Nat.reducePow, reduceCtorEq, Int.reduceLE, Int.reduceLT, Int.reduceToNat, ← List.map_take, ← List.map_drop, Int.reduceBEq, Int.reduceBNe, bne_self_eq_false]
    refine pCall_see [18, 19, 20, 21, 22] (ct92 (b := withdrawB (tt b) t rule) (wd_sized hzt)) (eq_two (view_book (markB (withdrawB (tt b) t rule)) (by simp [markB, withdrawB]) (by simp [markB, withdrawB]) (by simp [markB, withdrawB]) (by simp [markB, withdrawB]) (by simp [markB, withdrawB]) rfl rfl rfl rfl rfl) rfl) rfl rfl rfl ?_
    simp only [go_sem, Nat.reduceAdd, Nat.reduceSub, Nat.reduceMul, Nat.reduceLeDiff, Nat.reduceLT, Nat.reduceEqDiff, ↓reduceIte, Nat.reducePow, reduceCtorEq, Int.reduceLE, Int.reduceLT, Int.reduceToNat, ← List.map_take, ← List.map_drop, Int.reduceBEq, Int.reduceBNe, bne_self_eq_false]
    exact ⟨fun h => by omega, fun _ => pWk_done rfl ⟨rfl, rfl⟩⟩
  · simp only [go_sem, Nat.reduceAdd, Nat.reduceSub, Nat.reduceMul, Nat.reduceLeDiff, Nat.reduceLT, Nat.reduceEqDiff, ↓reduceIte, Nat.reducePow, reduceCtorEq, Int.reduceLE, Int.reduceLT, Int.reduceToNat, ← List.map_take, ← List.map_drop, Int.reduceBEq, Int.reduceBNe]
    refine k58 hz ?_
    simp only [go_sem, Nat.reduceAdd, Nat.reduceSub, Nat.reduceMul, Nat.reduceLeDiff, Nat.reduceLT, Nat.reduceEqDiff, ↓reduceIte, Nat.reducePow, reduceCtorEq, Int.reduceLE, Int.reduceLT, Int.reduceToNat, ← List.map_take, ← List.map_drop, Int.reduceBEq, Int.reduceBNe, sBook, gBook]
    refine k21l (b := tt b) [7, 8, 9, 10, 11] hzt (tt_nils b) (eq_three (view_sBook (n := 7) (b := b) rfl rfl rfl rfl rfl) rfl rfl) (fun h => absurd (hno.symm.trans h) (by decide)) (fun _ => ?_)
    simp only [go_sem, Nat.reduceAdd, Nat.reduceSub, Nat.reduceMul, Nat.reduceLeDiff, Nat.reduceLT, Nat.reduceEqDiff, ↓reduceIte, Nat.reducePow, reduceCtorEq, Int.reduceLE, Int.reduceLT, Int.reduceToNat, ← List.map_take, ← List.map_drop, Int.reduceBEq, Int.reduceBNe]
    refine pCall_see [] (ct61 (a := zb) (b := zb) zb_sized rfl) rfl rfl rfl rfl ?_
    simp only [go_sem, Nat.reduceAdd, Nat.reduceSub, Nat.reduceMul, Nat.reduceLeDiff, Nat.reduceLT, Nat.reduceEqDiff, ↓reduceIte, Nat.reducePow, reduceCtorEq, Int.reduceLE, Int.reduceLT, Int.reduceToNat, ← List.map_take, ← List.map_drop, Int.reduceBEq, Int.reduceBNe, bne_self_eq_false]
    refine k58 hz ?_
    simp only [go_sem, Nat.reduceAdd, Nat.reduceSub, Nat.reduceMul, Nat.reduceLeDiff, Nat.reduceLT, Nat.reduceEqDiff, ↓reduceIte, Nat.reducePow, reduceCtorEq, Int.reduceLE, Int.reduceLT, Int.reduceToNat, ← List.map_take, ← List.map_drop, Int.reduceBEq, Int.reduceBNe, sBook, gBook]
    refine pCall_see [7, 8, 9, 10, 11, 14, 15, 16, 17, 18] (ct61 (a := tt b) (b := tt b) hzt rfl) (eq_two (view_sBook (n := 7) (b := b) rfl rfl rfl rfl rfl) (view_sBook (n := 14) (b := b) rfl rfl rfl rfl rfl)) rfl rfl rfl ?_
    simp only [go_sem, Nat.reduceAdd, Nat.reduceSub, Nat.reduceMul, Nat.reduceLeDiff, Nat.reduceLT, Nat.reduceEqDiff, ↓reduceIte, Nat.reducePow, reduceCtorEq, Int.reduceLE, Int.reduceLT, Int.reduceToNat, ← List.map_take, ← List.map_drop, Int.reduceBEq, Int.reduceBNe]
    refine pCall_with false [] [] [7, 8, 9, 10, 11] (ct91 (b := b) hz) rfl rfl rfl ?_
    rintro _ _ ⟨rfl, rfl⟩
    refine ⟨fun h => (by cases h), ?_⟩
    simp only [go_sem, Nat.reduceAdd, Nat.reduceSub, Nat.reduceMul, Nat.reduceLeDiff, Nat.reduceLT, Nat.reduceEqDiff, ↓reduceIte, Nat.reducePow, reduceCtorEq, Int.reduceLE, Int.reduceLT, Int.reduceToNat, ← List.map_take, ← List.map_drop, Int.reduceBEq, Int.reduceBNe, gBook]
    refine ⟨fun h => by omega, fun _ => ?_⟩
    refine pCall_see [] (ct61 (a := zb) (b := zb) zb_sized rfl) rfl rfl rfl rfl ?_
    simp only [go_sem, Nat.reduceAdd, Nat.reduceSub, Nat.reduceMul, Nat.reduceLeDiff, Nat.reduceLT, Nat.reduceEqDiff, ↓reduceIte, Nat.reducePow, reduceCtorEq, Int.reduceLE, Int.reduceLT, Int.reduceToNat, ← List.map_take, ← List.map_drop, Int.reduceBEq, Int.reduceBNe, bne_self_eq_false]
    refine pCall_see [] z91 rfl rfl rfl rfl ?_
    simp only [go_sem, Nat.reduceAdd, Nat.reduceSub, Nat.reduceMul, Nat.reduceLeDiff, Nat.reduceLT, Nat.reduceEqDiff, ↓reduceIte, Nat.reducePow, reduceCtorEq, Int.reduceLE, Int.reduceLT, Int.reduceToNat, ← List.map_take, ← List.map_drop, Int.reduceBEq, Int.reduceBNe]
    refine pCall_see [] (ct92 (b := zb) zb_sized) rfl rfl rfl rfl ?_
    simp only [go_sem, Nat.reduceAdd, Nat.reduceSub, Nat.reduceMul, Nat.reduceLeDiff, Nat.reduceLT, Nat.reduceEqDiff, ↓reduceIte, Nat.reducePow, reduceCtorEq, Int.reduceLE, Int.reduceLT, Int.reduceToNat, ← List.map_take, ← List.map_drop, Int.reduceBEq, Int.reduceBNe, show (markN zb : Int) = 1 from rfl, bne_self_eq_false]
    refine k58 hz ?_
    simp only [go_sem, Nat.reduceAdd, Nat.reduceSub, Nat.reduceMul, Nat.reduceLeDiff, Nat.reduceLT, Nat.reduceEqDiff, ↓reduceIte, Nat.reducePow, reduceCtorEq, Int.reduceLE, Int.reduceLT, Int.reduceToNat, ← List.map_take, ← List.map_drop, Int.reduceBEq, Int.reduceBNe, sBook, gBook]
    refine k21l (b := tt b) [19, 20, 21, 22, 23] hzt (tt_nils b) (eq_three (view_sBook (n := 19) (b := b) rfl rfl rfl rfl rfl) rfl rfl) (fun h => absurd (hno.symm.trans h) (by decide)) (fun _ => ?_)
    simp only [go_sem, Nat.reduceAdd, Nat.reduceSub, Nat.reduceMul, Nat.reduceLeDiff, Nat.reduceLT, Nat.reduceEqDiff, ↓reduceIte, Nat.reducePow, reduceCtorEq, Int.reduceLE, Int.reduceLT, Int.reduceToNat, ← List.map_take, ← List.map_drop, Int.reduceBEq, Int.reduceBNe]
    refine pCall_see [] (ct61 (a := zb) (b := zb) zb_sized rfl) rfl rfl rfl rfl ?_
    simp only [go_sem, Nat.reduceAdd, Nat.reduceSub, Nat.reduceMul, Nat.reduceLeDiff, Nat.reduceLT, Nat.reduceEqDiff, ↓reduceIte, Nat.reducePow, reduceCtorEq, Int.reduceLE, Int.reduceLT, Int.reduceToNat, ← List.map_take, ← List.map_drop, Int.reduceBEq, Int.reduceBNe, bne_self_eq_false]
    refine pCall_see [] (ct92 (b := zb) zb_sized) rfl rfl rfl rfl ?_
    simp only [go_sem, Nat.reduceAdd, Nat.reduceSub, Nat.reduceMul, Nat.reduceLeDiff, Nat.reduceLT, Nat.reduceEqDiff, ↓reduceIte, Nat.reducePow, reduceCtorEq, Int.reduceLE, Int.reduceLT, Int.reduceToNat, ← List.map_take, ← List.map_drop, Int.reduceBEq, Int.reduceBNe, show (markN zb : Int) = 1 from rfl, bne_self_eq_false]
    exact pWk_done rfl ⟨rfl, rfl⟩

end Go.Sim
