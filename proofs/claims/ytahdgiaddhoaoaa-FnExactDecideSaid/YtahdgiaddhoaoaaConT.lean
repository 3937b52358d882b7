/- Contracts: the reference for tables and for points lost. -/
import Derived.Test.YtahdgiaddhoaoaaConM
import Derived.Test.YtahdgiaddhoaoaaTxtT
import Derived.Test.YtahdgiaddhoaoaaLawX

set_option maxRecDepth 100000
set_option linter.unusedSimpArgs false
set_option linter.unusedVariables false
namespace Go.Sim
open Go.Proofs

theorem ct294 {g : Game} : Pu Try.prog 294 [vGame g] (.tup [.i (goalsOf g).1, .i (goalsOf g).2.1, .bool (goalsOf g).2.2]) := by
  apply c294; unfold t294
  simp only [go_sem, Nat.reduceAdd, Nat.reduceSub, Nat.reduceMul, Nat.reduceLeDiff, Nat.reduceLT, Nat.reduceEqDiff, ↓reduceIte, Nat.reducePow, reduceCtorEq, Int.reduceLE, Int.reduceLT, Int.reduceToNat, ← List.map_take, ← List.map_drop, Int.reduceBEq, Int.reduceBNe, vGame]
  refine ⟨fun h => pWk_done rfl ⟨?_, rfl⟩, fun h => ⟨fun h => pWk_done rfl ⟨?_, rfl⟩, fun h => ⟨fun h => pWk_done rfl ⟨?_, rfl⟩, fun h => pWk_done rfl ⟨?_, rfl⟩⟩⟩⟩
  all_goals simp_all [nthV, goalsOf]
theorem k294 {g : Game} {H : Heap} {K : V → Heap → Prop} (h : K (.tup [.i (goalsOf g).1, .i (goalsOf g).2.1, .bool (goalsOf g).2.2]) H) : pCall Try.prog 294 [vGame g] H K :=
  pCall_pv rfl rfl (ct294) h

def outc (g : Game) : Int := if (goalsOf g).2.2 then (if (goalsOf g).1 > (goalsOf g).2.1 then 1 else if (goalsOf g).1 = (goalsOf g).2.1 then 2 else 3) else 0
theorem ct295 {g : Game} : Pu Try.prog 295 [vGame g] (.i (outc g)) := by
  apply c295; unfold t295
  simp only [go_sem, Nat.reduceAdd, Nat.reduceSub, Nat.reduceMul, Nat.reduceLeDiff, Nat.reduceLT, Nat.reduceEqDiff, ↓reduceIte, Nat.reducePow, reduceCtorEq, Int.reduceLE, Int.reduceLT, Int.reduceToNat, ← List.map_take, ← List.map_drop, Int.reduceBEq, Int.reduceBNe, vGame]
  refine k294 (g := g) ?_
  simp only [go_sem, Nat.reduceAdd, Nat.reduceSub, Nat.reduceMul, Nat.reduceLeDiff, Nat.reduceLT, Nat.reduceEqDiff, ↓reduceIte, Nat.reducePow, reduceCtorEq, Int.reduceLE, Int.reduceLT, Int.reduceToNat, ← List.map_take, ← List.map_drop, Int.reduceBEq, Int.reduceBNe]
  repeat' first | refine pWk_done rfl ⟨congrArg V.i ?_, rfl⟩ | refine And.intro (fun h => ?_) (fun h => ?_)
  all_goals (simp_all [outc])
  all_goals (try (intros; omega))
theorem k295 {g : Game} {H : Heap} {K : V → Heap → Prop} (h : K (.i (outc g)) H) : pCall Try.prog 295 [vGame g] H K :=
  pCall_pv rfl rfl (ct295) h

def rowSum (a b : Row) : Row := ⟨a.played + b.played, a.wins + b.wins, a.draws + b.draws, a.losses + b.losses, a.scored + b.scored, a.against + b.against, a.points + b.points⟩
theorem ct296 {a b : Row} (ha : RowB 1000000000000 a) (hb : RowB 1000000000000 b) : Pu Try.prog 296 [vRow a, vRow b] (vRow (rowSum a b)) := by
  apply c296; unfold t296
  obtain ⟨a1, a2, a3, a4, a5, a6, a7⟩ := ha
  obtain ⟨b1, b2, b3, b4, b5, b6, b7⟩ := hb
  have w1 := wrap64 (n := a.played + b.played) (by omega) (by omega)
  have w2 := wrap64 (n := a.wins + b.wins) (by omega) (by omega)
  have w3 := wrap64 (n := a.draws + b.draws) (by omega) (by omega)
  have w4 := wrap64 (n := a.losses + b.losses) (by omega) (by omega)
  have w5 := wrap64 (n := a.scored + b.scored) (by omega) (by omega)
  have w6 := wrap64 (n := a.against + b.against) (by omega) (by omega)
  have w7 := wrap64 (n := a.points + b.points) (by omega) (by omega)
  simp only [go_sem, Nat.reduceAdd, Nat.reduceSub, Nat.reduceMul, Nat.reduceLeDiff, Nat.reduceLT, Nat.reduceEqDiff, ↓reduceIte, Nat.reducePow, reduceCtorEq, Int.reduceLE, Int.reduceLT, Int.reduceToNat, ← List.map_take, ← List.map_drop, Int.reduceBEq, Int.reduceBNe, vRow, w1, w2, w3, w4, w5, w6, w7]
  exact pWk_done rfl ⟨rfl, rfl⟩
theorem k296 {a b : Row} (ha : RowB 1000000000000 a) (hb : RowB 1000000000000 b) {H : Heap} {K : V → Heap → Prop} (h : K (vRow (rowSum a b)) H) : pCall Try.prog 296 [vRow a, vRow b] H K :=
  pCall_pv rfl rfl (ct296 ha hb) h

theorem ct267 {u : Rules} {n : Nat} {R : List Row} {g : Game} (hu : RulesB u) (hg : gameOk n g = true) (hl : R.length = n) (hn : n < 2000000) (hR : ∀ r ∈ R, RowB 1000000000 r) :
    Ct Try.prog 267 [vRules u, .ref 0 0 n, vGame g] [.sl true 158 7 (R.map vRow)] (fun v H => v = .tup [] ∧ H = [.sl true 158 7 ((tabStep u (fun _ => true) R g).map vRow)]) := by
  apply c267; unfold t267
  have hgb := gameOk_bounds hg
  have hgo := goals_bounds hg
  simp only [go_sem, Nat.reduceAdd, Nat.reduceSub, Nat.reduceMul, Nat.reduceLeDiff, Nat.reduceLT, Nat.reduceEqDiff, ↓reduceIte, Nat.reducePow, reduceCtorEq, Int.reduceLE, Int.reduceLT, Int.reduceToNat, ← List.map_take, ← List.map_drop, Int.reduceBEq, Int.reduceBNe, vRules, vGame]
  refine k294 (g := g) ?_
  simp only [go_sem, Nat.reduceAdd, Nat.reduceSub, Nat.reduceMul, Nat.reduceLeDiff, Nat.reduceLT, Nat.reduceEqDiff, ↓reduceIte, Nat.reducePow, reduceCtorEq, Int.reduceLE, Int.reduceLT, Int.reduceToNat, ← List.map_take, ← List.map_drop, Int.reduceBEq, Int.reduceBNe]
  refine ⟨fun hno => ?_, fun hyes => ?_⟩
  · have hs : tabStep u (fun _ => true) R g = R := by simp at hno; simp [tabStep, hno]
    rw [hs]
    exact pWk_take rfl ⟨rfl, rfl⟩
  simp only [Bool.not_eq_false'] at hyes
  refine k295 (g := g) ?_
  obtain ⟨h, hh⟩ : ∃ h, g.home.toNat = h := ⟨_, rfl⟩
  obtain ⟨a, hha⟩ : ∃ a, g.away.toNat = a := ⟨_, rfl⟩
  have hne : h ≠ a := by omega
  have hhl : h < R.length := by omega
  have hal : a < R.length := by omega
  have hr : R[h]? = some R[h] := List.getElem?_eq_getElem hhl
  have hq : R[a]? = some R[a] := List.getElem?_eq_getElem hal
  have hs : tabStep u (fun _ => true) R g = (R.set h (rowAdd u R[h] (goalsOf g).1 (goalsOf g).2.1)).set a (rowAdd u R[a] (goalsOf g).2.1 (goalsOf g).1) := by
    simp [tabStep, hyes, addGame, hh, hha, hr, hq]
  have hrb := hR _ (List.getElem_mem hhl)
  have hqb := hR _ (List.getElem_mem hal)
  rw [hs]
  clear hs
  have hcase : outc g = 1 ∧ (goalsOf g).1 > (goalsOf g).2.1 ∨ outc g = 2 ∧ (goalsOf g).1 = (goalsOf g).2.1 ∨ outc g = 3 ∧ (goalsOf g).1 < (goalsOf g).2.1 := by
    unfold outc
    rw [if_pos hyes]
    by_cases c1 : (goalsOf g).1 > (goalsOf g).2.1
    · simp [c1]
    · by_cases c2 : (goalsOf g).1 = (goalsOf g).2.1
      · simp [c2]
      · simp [c1, c2]; omega
  generalize R[h] = r at hr hrb
  generalize R[a] = q at hq hqb
  generalize hX : (goalsOf g).1 = X at *
  generalize hY : (goalsOf g).2.1 = Y at *
  have hub := hu
  obtain ⟨u1, u2, u3⟩ := hub
  rcases hcase with ⟨ho, hc⟩ | ⟨ho, hc⟩ | ⟨ho, hc⟩
  · have e1 : rowSum r ⟨1, 1, 0, 0, X, Y, u.win⟩ = rowAdd u r X Y := by simp only [rowSum, rowAdd, Int.add_zero]; rw [if_pos (by omega)]
    have e2 : rowSum q ⟨1, 0, 0, 1, Y, X, u.loss⟩ = rowAdd u q Y X := by simp only [rowSum, rowAdd, Int.add_zero]; rw [if_neg (by omega), if_pos (by omega)]
    have bx : RowB 1000000000000 (⟨1, 1, 0, 0, X, Y, u.win⟩ : Row) := by constructor <;> simp only <;> omega
    have by' : RowB 1000000000000 (⟨1, 0, 0, 1, Y, X, u.loss⟩ : Row) := by constructor <;> simp only <;> omega
    simp only [go_sem, Nat.reduceAdd, Nat.reduceSub, Nat.reduceMul, Nat.reduceLeDiff, Nat.reduceLT, Nat.reduceEqDiff, ↓reduceIte, Nat.reducePow, reduceCtorEq, Int.reduceLE, Int.reduceLT, Int.reduceToNat, ← List.map_take, ← List.map_drop, Int.reduceBEq, Int.reduceBNe, ho, List.getElem?_map, hh, hha, hr, hq, vRow]
    refine ⟨by omega, by omega, ?_⟩
    refine k296 (a := r) (b := ⟨1, 1, 0, 0, X, Y, u.win⟩) (hrb.mono (by omega)) bx ?_
    rw [e1]
    generalize rowAdd u r X Y = r'
    have g1 : ((List.map vRow R).set h (V.agg [V.i r'.played, V.i r'.wins, V.i r'.draws, V.i r'.losses, V.i r'.scored, V.i r'.against, V.i r'.points]))[a]? = some (V.agg [V.i q.played, V.i q.wins, V.i q.draws, V.i q.losses, V.i q.scored, V.i q.against, V.i q.points]) := by rw [List.getElem?_set_ne hne, List.getElem?_map, hq]; rfl
    simp only [go_sem, Nat.reduceAdd, Nat.reduceSub, Nat.reduceMul, Nat.reduceLeDiff, Nat.reduceLT, Nat.reduceEqDiff, ↓reduceIte, Nat.reducePow, reduceCtorEq, Int.reduceLE, Int.reduceLT, Int.reduceToNat, ← List.map_take, ← List.map_drop, Int.reduceBEq, Int.reduceBNe, List.getElem?_map, hh, hha, hr, hq, g1, List.length_set, List.length_map, vRow]
    refine ⟨by omega, by omega, by omega, by omega, ?_⟩
    refine k296 (a := q) (b := ⟨1, 0, 0, 1, Y, X, u.loss⟩) (hqb.mono (by omega)) by' ?_
    rw [e2]
    generalize rowAdd u q Y X = q'
    simp only [go_sem, Nat.reduceAdd, Nat.reduceSub, Nat.reduceMul, Nat.reduceLeDiff, Nat.reduceLT, Nat.reduceEqDiff, ↓reduceIte, Nat.reducePow, reduceCtorEq, Int.reduceLE, Int.reduceLT, Int.reduceToNat, ← List.map_take, ← List.map_drop, Int.reduceBEq, Int.reduceBNe, List.getElem?_map, hh, hha, hr, hq, g1, List.length_set, List.length_map, vRow]
    refine ⟨by omega, by omega, ?_⟩
    exact pWk_take rfl ⟨rfl, by rw [List.map_set, List.map_set]; rfl⟩
  · have e1 : rowSum r ⟨1, 0, 1, 0, X, Y, u.draw⟩ = rowAdd u r X Y := by simp only [rowSum, rowAdd, Int.add_zero]; rw [if_neg (by omega), if_neg (by omega)]
    have e2 : rowSum q ⟨1, 0, 1, 0, Y, X, u.draw⟩ = rowAdd u q Y X := by simp only [rowSum, rowAdd, Int.add_zero]; rw [if_neg (by omega), if_neg (by omega)]
    have bx : RowB 1000000000000 (⟨1, 0, 1, 0, X, Y, u.draw⟩ : Row) := by constructor <;> simp only <;> omega
    have by' : RowB 1000000000000 (⟨1, 0, 1, 0, Y, X, u.draw⟩ : Row) := by constructor <;> simp only <;> omega
    simp only [go_sem, Nat.reduceAdd, Nat.reduceSub, Nat.reduceMul, Nat.reduceLeDiff, Nat.reduceLT, Nat.reduceEqDiff, ↓reduceIte, Nat.reducePow, reduceCtorEq, Int.reduceLE, Int.reduceLT, Int.reduceToNat, ← List.map_take, ← List.map_drop, Int.reduceBEq, Int.reduceBNe, ho, List.getElem?_map, hh, hha, hr, hq, vRow]
    refine ⟨by omega, by omega, ?_⟩
    refine k296 (a := r) (b := ⟨1, 0, 1, 0, X, Y, u.draw⟩) (hrb.mono (by omega)) bx ?_
    rw [e1]
    generalize rowAdd u r X Y = r'
    have g1 : ((List.map vRow R).set h (V.agg [V.i r'.played, V.i r'.wins, V.i r'.draws, V.i r'.losses, V.i r'.scored, V.i r'.against, V.i r'.points]))[a]? = some (V.agg [V.i q.played, V.i q.wins, V.i q.draws, V.i q.losses, V.i q.scored, V.i q.against, V.i q.points]) := by rw [List.getElem?_set_ne hne, List.getElem?_map, hq]; rfl
    simp only [go_sem, Nat.reduceAdd, Nat.reduceSub, Nat.reduceMul, Nat.reduceLeDiff, Nat.reduceLT, Nat.reduceEqDiff, ↓reduceIte, Nat.reducePow, reduceCtorEq, Int.reduceLE, Int.reduceLT, Int.reduceToNat, ← List.map_take, ← List.map_drop, Int.reduceBEq, Int.reduceBNe, List.getElem?_map, hh, hha, hr, hq, g1, List.length_set, List.length_map, vRow]
    refine ⟨by omega, by omega, by omega, by omega, ?_⟩
    refine k296 (a := q) (b := ⟨1, 0, 1, 0, Y, X, u.draw⟩) (hqb.mono (by omega)) by' ?_
    rw [e2]
    generalize rowAdd u q Y X = q'
    simp only [go_sem, Nat.reduceAdd, Nat.reduceSub, Nat.reduceMul, Nat.reduceLeDiff, Nat.reduceLT, Nat.reduceEqDiff, ↓reduceIte, Nat.reducePow, reduceCtorEq, Int.reduceLE, Int.reduceLT, Int.reduceToNat, ← List.map_take, ← List.map_drop, Int.reduceBEq, Int.reduceBNe, List.getElem?_map, hh, hha, hr, hq, g1, List.length_set, List.length_map, vRow]
    refine ⟨by omega, by omega, ?_⟩
    exact pWk_take rfl ⟨rfl, by rw [List.map_set, List.map_set]; rfl⟩
  · have e1 : rowSum r ⟨1, 0, 0, 1, X, Y, u.loss⟩ = rowAdd u r X Y := by simp only [rowSum, rowAdd, Int.add_zero]; rw [if_neg (by omega), if_pos (by omega)]
    have e2 : rowSum q ⟨1, 1, 0, 0, Y, X, u.win⟩ = rowAdd u q Y X := by simp only [rowSum, rowAdd, Int.add_zero]; rw [if_pos (by omega)]
    have bx : RowB 1000000000000 (⟨1, 0, 0, 1, X, Y, u.loss⟩ : Row) := by constructor <;> simp only <;> omega
    have by' : RowB 1000000000000 (⟨1, 1, 0, 0, Y, X, u.win⟩ : Row) := by constructor <;> simp only <;> omega
    simp only [go_sem, Nat.reduceAdd, Nat.reduceSub, Nat.reduceMul, Nat.reduceLeDiff, Nat.reduceLT, Nat.reduceEqDiff, ↓reduceIte, Nat.reducePow, reduceCtorEq, Int.reduceLE, Int.reduceLT, Int.reduceToNat, ← List.map_take, ← List.map_drop, Int.reduceBEq, Int.reduceBNe, ho, List.getElem?_map, hh, hha, hr, hq, vRow]
    refine ⟨by omega, by omega, ?_⟩
    refine k296 (a := r) (b := ⟨1, 0, 0, 1, X, Y, u.loss⟩) (hrb.mono (by omega)) bx ?_
    rw [e1]
    generalize rowAdd u r X Y = r'
    have g1 : ((List.map vRow R).set h (V.agg [V.i r'.played, V.i r'.wins, V.i r'.draws, V.i r'.losses, V.i r'.scored, V.i r'.against, V.i r'.points]))[a]? = some (V.agg [V.i q.played, V.i q.wins, V.i q.draws, V.i q.losses, V.i q.scored, V.i q.against, V.i q.points]) := by rw [List.getElem?_set_ne hne, List.getElem?_map, hq]; rfl
    simp only [go_sem, Nat.reduceAdd, Nat.reduceSub, Nat.reduceMul, Nat.reduceLeDiff, Nat.reduceLT, Nat.reduceEqDiff, ↓reduceIte, Nat.reducePow, reduceCtorEq, Int.reduceLE, Int.reduceLT, Int.reduceToNat, ← List.map_take, ← List.map_drop, Int.reduceBEq, Int.reduceBNe, List.getElem?_map, hh, hha, hr, hq, g1, List.length_set, List.length_map, vRow]
    refine ⟨by omega, by omega, by omega, by omega, ?_⟩
    refine k296 (a := q) (b := ⟨1, 1, 0, 0, Y, X, u.win⟩) (hqb.mono (by omega)) by' ?_
    rw [e2]
    generalize rowAdd u q Y X = q'
    simp only [go_sem, Nat.reduceAdd, Nat.reduceSub, Nat.reduceMul, Nat.reduceLeDiff, Nat.reduceLT, Nat.reduceEqDiff, ↓reduceIte, Nat.reducePow, reduceCtorEq, Int.reduceLE, Int.reduceLT, Int.reduceToNat, ← List.map_take, ← List.map_drop, Int.reduceBEq, Int.reduceBNe, List.getElem?_map, hh, hha, hr, hq, g1, List.length_set, List.length_map, vRow]
    refine ⟨by omega, by omega, ?_⟩
    exact pWk_take rfl ⟨rfl, by rw [List.map_set, List.map_set]; rfl⟩

end Go.Sim

set_option maxRecDepth 100000
set_option linter.unusedSimpArgs false
set_option linter.unusedVariables false
namespace Go.Sim
open Go.Proofs

theorem ct213 {u : Rules} {n : Nat} {nn : Bool} {games : List Game} (hT : TabOk u n games) :
    Ct Try.prog 213 [vRules u, .i n, vGames nn games, .sl false 1 [], .bool true] [] (fun v H => v = .ref 0 0 n ∧ H = [.sl true 158 7 ((tab u n games (fun _ => true)).map vRow)]) := by
  apply c213; unfold t213
  have hn := hT.small
  have hgl := hT.few
  simp only [go_sem, Nat.reduceAdd, Nat.reduceSub, Nat.reduceMul, Nat.reduceLeDiff, Nat.reduceLT, Nat.reduceEqDiff, ↓reduceIte, Nat.reducePow, reduceCtorEq, Int.reduceLE, Int.reduceLT, Int.reduceToNat, ← List.map_take, ← List.map_drop, Int.reduceBEq, Int.reduceBNe, vRules]
  refine ⟨by omega, by omega, by omega, ?_⟩
  refine loop_st (fun k : Nat => ([V.i k], [Blk.box 26 (vRules u), Blk.sl true 158 7 ((tab u n (games.take k) (fun _ => true)).map vRow)])) (fun k => k ≤ games.length) (fun k => games.length - k)
    (pWk_take rfl ⟨0, by omega, rfl, ?_⟩) ?_
  · simp [tab, vRules, vRow, zeroRow]
  rintro μ k hk nx
  simp only [go_sem, Nat.reduceAdd, Nat.reduceSub, Nat.reduceMul, Nat.reduceLeDiff, Nat.reduceLT, Nat.reduceEqDiff, ↓reduceIte, Nat.reducePow, reduceCtorEq, Int.reduceLE, Int.reduceLT, Int.reduceToNat, ← List.map_take, ← List.map_drop, Int.reduceBEq, Int.reduceBNe, vRules, Int.ofNat_lt, Int.ofNat_le, Int.natCast_nonneg, List.getElem?_map]
  refine ⟨fun hlt => ?_, fun hge => ?_⟩
  · have hx : games[k]? = some games[k] := List.getElem?_eq_getElem hlt
    have hgm := hT.ok _ (List.getElem_mem hlt)
    have htk : tab u n (games.take (k + 1)) (fun _ => true) = tabStep u (fun _ => true) (tab u n (games.take k) (fun _ => true)) games[k] := by
      unfold tab
      rw [List.take_succ_eq_append_getElem hlt, List.foldl_append]; rfl
    have hb : ∀ r ∈ tab u n (games.take k) (fun _ => true), RowB 1000000000 r := fun r hr => (tab_b hT.rules (fun g hg => hT.ok g (List.mem_of_mem_take hg)) r hr).mono (by simp; omega)
    have next := nx (k + 1) (by omega) (by omega)
    rw [htk] at next
    generalize games[k] = g at hx hgm next
    have hRl : (tab u n (games.take k) (fun _ => true)).length = n := tab_len
    generalize tab u n (games.take k) (fun _ => true) = R at hb hRl next
    simp only [go_sem, Nat.reduceAdd, Nat.reduceSub, Nat.reduceMul, Nat.reduceLeDiff, Nat.reduceLT, Nat.reduceEqDiff, ↓reduceIte, Nat.reducePow, reduceCtorEq, Int.reduceLE, Int.reduceLT, Int.reduceToNat, ← List.map_take, ← List.map_drop, Int.reduceBEq, Int.reduceBNe, hx, vGame]
    refine ⟨by omega, ?_⟩
    refine pCall_with false [] [] [1] (ct267 (u := u) (g := g) (R := R) hT.rules hgm hRl hn hb) rfl rfl rfl ?_
    rintro _ _ ⟨rfl, rfl⟩
    refine ⟨fun h => (by cases h), ?_⟩
    simp only [go_sem, Nat.reduceAdd, Nat.reduceSub, Nat.reduceMul, Nat.reduceLeDiff, Nat.reduceLT, Nat.reduceEqDiff, ↓reduceIte, Nat.reducePow, reduceCtorEq, Int.reduceLE, Int.reduceLT, Int.reduceToNat, ← List.map_take, ← List.map_drop, Int.reduceBEq, Int.reduceBNe, wrapN (show k < 4611686018427387904 by omega)]
    exact pWk_take rfl next
  · have : k = games.length := by omega
    subst this
    rw [List.take_length]
    exact pWk_kp [] [1] rfl ⟨rfl, rfl⟩

theorem ct28n {b : Book} {t rule : Int} (hb : Sized b) (hn : Nils b) (hno : wdOk b t rule = false) : Ct Try.prog 28 [vBook b, .i t, .i rule] [] (fun v H => v = .sl false 1 [] ∧ H = []) := by
  apply c28; unfold t28
  simp only [go_sem, Nat.reduceAdd, Nat.reduceSub, Nat.reduceMul, Nat.reduceLeDiff, Nat.reduceLT, Nat.reduceEqDiff, ↓reduceIte, Nat.reducePow, reduceCtorEq, Int.reduceLE, Int.reduceLT, Int.reduceToNat, ← List.map_take, ← List.map_drop, Int.reduceBEq, Int.reduceBNe]
  have hcell : V.cellsOk (vBook b) = true := rfl
  rw [hcell]
  simp only [go_sem, Nat.reduceAdd, Nat.reduceSub, Nat.reduceMul, Nat.reduceLeDiff, Nat.reduceLT, Nat.reduceEqDiff, ↓reduceIte, Nat.reducePow, reduceCtorEq, Int.reduceLE, Int.reduceLT, Int.reduceToNat, ← List.map_take, ← List.map_drop, Int.reduceBEq, Int.reduceBNe, show rowGet true 9 (vBook b) 0 = some (vBook b) from rfl]
  refine k21l (b := b) [] hb hn rfl (fun h => absurd (hno.symm.trans h) (by decide)) (fun _ => ?_)
  simp only [go_sem, Nat.reduceAdd, Nat.reduceSub, Nat.reduceMul, Nat.reduceLeDiff, Nat.reduceLT, Nat.reduceEqDiff, ↓reduceIte, Nat.reducePow, reduceCtorEq, Int.reduceLE, Int.reduceLT, Int.reduceToNat, ← List.map_take, ← List.map_drop, Int.reduceBEq, Int.reduceBNe]
  exact pWk_done rfl ⟨rfl, rfl⟩

theorem vRow_flat (r : Row) : (vRow r).flat = true := rfl
theorem rows_flat (l : List Row) : ∀ k ∈ [Blk.sl true 158 7 (l.map vRow)], k.flat = true := by
  intro k hk
  rw [List.mem_singleton] at hk
  subst hk
  exact flats_map vRow_flat _

theorem ct98 {b : Book} {t rule : Int} (hb : Sized b) : Ct Try.prog 98 [vBook b, .i t, .i rule] [] (fun v H => if wdOk b t rule = true then v = .ref 0 0 b.field.length ∧ H = [.sl true 3 1 ((lost b t rule).map V.i)] else v = .sl false 1 [] ∧ H = []) := by
  apply c98; unfold t98
  have hbx := vBook_eq b
  simp only [go_sem, Nat.reduceAdd, Nat.reduceSub, Nat.reduceMul, Nat.reduceLeDiff, Nat.reduceLT, Nat.reduceEqDiff, ↓reduceIte, Nat.reducePow, reduceCtorEq, Int.reduceLE, Int.reduceLT, Int.reduceToNat, ← List.map_take, ← List.map_drop, Int.reduceBEq, Int.reduceBNe, hbx]
  refine k90 (b := b) [] hb rfl (fun hok => ?_) (fun hno => ?_)
  rotate_left
  · simp only [go_sem, Nat.reduceAdd, Nat.reduceSub, Nat.reduceMul, Nat.reduceLeDiff, Nat.reduceLT, Nat.reduceEqDiff, ↓reduceIte, Nat.reducePow, reduceCtorEq, Int.reduceLE, Int.reduceLT, Int.reduceToNat, ← List.map_take, ← List.map_drop, Int.reduceBEq, Int.reduceBNe]
    exact pWk_done rfl (by rw [if_neg (by simp [hno])]; exact ⟨rfl, rfl⟩)
  obtain ⟨h1, h2, h3, h4⟩ := wdOk_iff hok
  have hfl := hb.field
  have hgl := hb.games
  have hT := bookOk_tab hb h1
  have hT2 : TabOk { b.rules with lnn := true } b.field.length (b.games.map (wdS t rule)) := by
    rw [wdS_eq hok]
    have := bookOk_tab (wd_sized (t := t) (rule := rule) hb) (wd_bookOk hok)
    exact ⟨⟨this.rules.win, this.rules.draw, this.rules.loss⟩, this.small, this.few, this.ok⟩
  simp only [go_sem, Nat.reduceAdd, Nat.reduceSub, Nat.reduceMul, Nat.reduceLeDiff, Nat.reduceLT, Nat.reduceEqDiff, ↓reduceIte, Nat.reducePow, reduceCtorEq, Int.reduceLE, Int.reduceLT, Int.reduceToNat, ← List.map_take, ← List.map_drop, Int.reduceBEq, Int.reduceBNe, sBook, gBook]
  refine pCall_new (ct213 (u := b.rules) (nn := b.gnn) hT) rfl ?_
  rintro _ _ ⟨rfl, rfl⟩
  simp only [go_sem, Nat.reduceAdd, Nat.reduceSub, Nat.reduceMul, Nat.reduceLeDiff, Nat.reduceLT, Nat.reduceEqDiff, ↓reduceIte, Nat.reducePow, reduceCtorEq, Int.reduceLE, Int.reduceLT, Int.reduceToNat, ← List.map_take, ← List.map_drop, Int.reduceBEq, Int.reduceBNe]
  refine pCall_lend [1, 2, 3, 4, 5] (ct213 (nn := true) hT2) ?_ rfl ?_ ?_
  · simp [V.view, V.views, vwOf, vRules, List.take_of_length_le]
  · rintro _ _ ⟨rfl, rfl⟩; exact ⟨rfl, rows_flat _⟩
  rintro _ _ ⟨rfl, rfl⟩
  have hA : tab { b.rules with lnn := true } b.field.length (b.games.map (wdS t rule)) (fun _ => true) = tabAll (withdrawB b t rule) := by rw [wdS_eq hok]; rfl
  have hB : tab b.rules b.field.length b.games (fun _ => true) = tabAll b := rfl
  rw [hA]
  simp only [go_sem, Nat.reduceAdd, Nat.reduceSub, Nat.reduceMul, Nat.reduceLeDiff, Nat.reduceLT, Nat.reduceEqDiff, ↓reduceIte, Nat.reducePow, reduceCtorEq, Int.reduceLE, Int.reduceLT, Int.reduceToNat, ← List.map_take, ← List.map_drop, Int.reduceBEq, Int.reduceBNe, hB]
  let boxes : Heap := [Blk.box 29 (.agg [vTeams b.fnn b.field, V.i b.rules.win, V.i b.rules.draw, V.i b.rules.loss, V.ints b.rules.lnn b.rules.ladder, V.bool b.rules.again, vGames b.gnn b.games, V.ints b.pnn b.fair, V.ints b.tnn b.taken]),
    Blk.sl true 178 3 (b.field.map vTeam), Blk.sl true 3 1 (b.rules.ladder.map V.i), Blk.sl true 40 5 ((b.games.map (wdS t rule)).map vGame), Blk.sl true 3 1 (b.fair.map V.i), Blk.sl true 3 1 (b.taken.map V.i),
    Blk.box 29 (.agg [.ref 1 0 b.field.length, .i b.rules.win, .i b.rules.draw, .i b.rules.loss, .ref 2 0 b.rules.ladder.length, .bool b.rules.again, .ref 3 0 b.games.length, .ref 4 0 b.fair.length, .ref 5 0 b.taken.length]),
    Blk.sl true 158 7 ((tabAll b).map vRow), Blk.sl true 158 7 ((tabAll (withdrawB b t rule)).map vRow)]
  have hl1 : (tabAll b).length = b.field.length := tabAll_len
  have hl2 : (tabAll (withdrawB b t rule)).length = b.field.length := by rw [tabAll_len]; rfl
  refine loop_st (fun k : Nat => ([V.ref 10 0 k, V.i k], boxes ++ [.dead, Blk.sl true 3 1 (((lost b t rule).take k).map V.i)])) (fun k => k ≤ b.field.length) (fun k => b.field.length - k) (pWk_mv [9] rfl ⟨0, by omega, rfl, rfl⟩) ?_
  rintro μ k hk nx
  simp only [boxes] at nx ⊢
  simp only [go_sem, Nat.reduceAdd, Nat.reduceSub, Nat.reduceMul, Nat.reduceLeDiff, Nat.reduceLT, Nat.reduceEqDiff, ↓reduceIte, Nat.reducePow, reduceCtorEq, Int.reduceLE, Int.reduceLT, Int.reduceToNat, ← List.map_take, ← List.map_drop, Int.reduceBEq, Int.reduceBNe, Int.ofNat_lt, Int.natCast_nonneg, List.getElem?_map, hl1, hl2]
  refine ⟨fun hlt => ?_, fun hge => ?_⟩
  · have hx1 : (tabAll b)[k]? = some ((tabAll b)[k]'(by omega)) := List.getElem?_eq_getElem _
    have hx2 : (tabAll (withdrawB b t rule))[k]? = some ((tabAll (withdrawB b t rule))[k]'(by omega)) := List.getElem?_eq_getElem _
    have hw := wd_sized (t := t) (rule := rule) hb
    have hwok := wd_bookOk hok
    have b1 := (tab_b (p := fun _ => true) (bookOk_tab hb h1).rules (bookOk_tab hb h1).ok) _ (List.getElem_mem (show k < (tabAll b).length by omega))
    have b2 := (tab_b (p := fun _ => true) (bookOk_tab hw hwok).rules (bookOk_tab hw hwok).ok) _ (List.getElem_mem (show k < (tabAll (withdrawB b t rule)).length by omega))
    have hgl2 : (withdrawB b t rule).games.length = b.games.length := by simp [withdrawB]
    have hd : (lost b t rule).take (k + 1) = (lost b t rule).take k ++ [((tabAll b)[k]'(by omega)).points - ((tabAll (withdrawB b t rule))[k]'(by omega)).points] := by
      rw [List.take_succ_eq_append_getElem (by rw [lost_len]; exact hlt)]
      simp [lost]
    have next := nx (k + 1) (by omega) (by omega)
    rw [hd, List.map_append] at next
    generalize (tabAll b)[k]'(by omega) = r at hx1 b1 next
    generalize (tabAll (withdrawB b t rule))[k]'(by omega) = q at hx2 b2 next
    have p1 := b1.g
    have p2 := b2.g
    have htl : ((lost b t rule).take k).length = k := by rw [List.length_take, lost_len]; omega
    simp only [go_sem, Nat.reduceAdd, Nat.reduceSub, Nat.reduceMul, Nat.reduceLeDiff, Nat.reduceLT, Nat.reduceEqDiff, ↓reduceIte, Nat.reducePow, reduceCtorEq, Int.reduceLE, Int.reduceLT, Int.reduceToNat, ← List.map_take, ← List.map_drop, Int.reduceBEq, Int.reduceBNe, hx1, hx2, vRow, wrapN (show k < 4611686018427387904 by omega), wrap64 (n := r.points - q.points) (by omega) (by omega), htl, Int.ofNat_lt]
    refine ⟨by omega, by omega, by omega, ?_⟩
    exact pWk_mv [13] rfl next
  · have : k = b.field.length := by omega
    subst this
    rw [List.take_of_length_le (by rw [lost_len]; exact Nat.le_refl _)]
    refine pWk_kp [] [10] rfl ?_
    rw [if_pos hok]
    exact ⟨rfl, rfl⟩

end Go.Sim
