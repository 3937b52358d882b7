/- Contracts: protests measured, copied, compared and marked. -/
import Derived.Test.YtahdgiaddhoaoaaLawP
import Derived.Test.YtahdgiaddhoaoaaTxtI

set_option maxRecDepth 100000
set_option linter.unusedSimpArgs false
set_option linter.unusedVariables false
namespace Go.Sim
open Go.Proofs

theorem ct212 {t : Prot} : Pu Try.prog 212 [vProt t, vProt t] (.bool true) := by
  apply c212; unfold t212
  simp only [go_sem, Nat.reduceAdd, Nat.reduceSub, Nat.reduceMul, Nat.reduceLeDiff, Nat.reduceLT, Nat.reduceEqDiff, ↓reduceIte, Nat.reducePow, reduceCtorEq, Int.reduceLE, Int.reduceLT, Int.reduceToNat, ← List.map_take, ← List.map_drop, Int.reduceBEq, Int.reduceBNe, vProt, bne_self_eq_false]
  exact pWk_done rfl ⟨rfl, rfl⟩
theorem k212 {t : Prot} {H : Heap} {K : V → Heap → Prop} (h : K (.bool true) H) : pCall Try.prog 212 [vProt t, vProt t] H K :=
  pCall_pv rfl rfl (ct212) h

theorem ct96 {n1 n2 : Bool} {l : List Prot} (hl : l.length < 4611686018427387904) : Pu Try.prog 96 [vProts n1 l, vProts n2 l] (.bool true) := by
  apply c96; unfold t96
  simp only [go_sem, Nat.reduceAdd, Nat.reduceSub, Nat.reduceMul, Nat.reduceLeDiff, Nat.reduceLT, Nat.reduceEqDiff, ↓reduceIte, Nat.reducePow, reduceCtorEq, Int.reduceLE, Int.reduceLT, Int.reduceToNat, ← List.map_take, ← List.map_drop, Int.reduceBEq, Int.reduceBNe, bne_self_eq_false]
  refine loop_st (fun k : Nat => ([V.i k], [])) (fun k => k ≤ l.length) (fun k => l.length - k) (pWk_done rfl ⟨0, by omega, rfl, rfl⟩) ?_
  rintro μ k hk nx
  simp only [go_sem, Nat.reduceAdd, Nat.reduceSub, Nat.reduceMul, Nat.reduceLeDiff, Nat.reduceLT, Nat.reduceEqDiff, ↓reduceIte, Nat.reducePow, reduceCtorEq, Int.reduceLE, Int.reduceLT, Int.reduceToNat, ← List.map_take, ← List.map_drop, Int.reduceBEq, Int.reduceBNe, Int.ofNat_lt, Int.natCast_nonneg, List.getElem?_map]
  refine ⟨fun hlt => ?_, fun hge => pWk_done rfl ⟨rfl, rfl⟩⟩
  have hx : l[k]? = some l[k] := List.getElem?_eq_getElem hlt
  simp only [go_sem, Nat.reduceAdd, Nat.reduceSub, Nat.reduceMul, Nat.reduceLeDiff, Nat.reduceLT, Nat.reduceEqDiff, ↓reduceIte, Nat.reducePow, reduceCtorEq, Int.reduceLE, Int.reduceLT, Int.reduceToNat, ← List.map_take, ← List.map_drop, Int.reduceBEq, Int.reduceBNe, hx, vProt]
  refine ⟨by omega, by omega, k212 (t := l[k]) ?_⟩
  simp only [go_sem, Nat.reduceAdd, Nat.reduceSub, Nat.reduceMul, Nat.reduceLeDiff, Nat.reduceLT, Nat.reduceEqDiff, ↓reduceIte, Nat.reducePow, reduceCtorEq, Int.reduceLE, Int.reduceLT, Int.reduceToNat, ← List.map_take, ← List.map_drop, Int.reduceBEq, Int.reduceBNe, wrapN (show k < 4611686018427387904 by omega)]
  exact pWk_done rfl (nx (k + 1) (by omega) (by omega))
theorem k96 {n1 n2 : Bool} {l : List Prot} (hl : l.length < 4611686018427387904) {H : Heap} {K : V → Heap → Prop} (h : K (.bool true) H) : pCall Try.prog 96 [vProts n1 l, vProts n2 l] H K :=
  pCall_pv rfl rfl (ct96 hl) h

theorem ct93 {nn : Bool} {xs : List Prot} {left : Int} (h0 : 0 ≤ left) (h1 : left ≤ 1048576) (hl : xs.length < 9223372036854775808) : Ct Try.prog 93 [vProts nn xs, .i left] [] (fun v H => ∃ r : Int, v = .i r ∧ H = [] ∧ r ≤ left ∧ (0 ≤ r → (xs.length : Int) ≤ left)) := by
  apply c93; unfold t93
  simp only [go_sem, Nat.reduceAdd, Nat.reduceSub, Nat.reduceMul, Nat.reduceLeDiff, Nat.reduceLT, Nat.reduceEqDiff, ↓reduceIte, Nat.reducePow, reduceCtorEq, Int.reduceLE, Int.reduceLT, Int.reduceToNat, ← List.map_take, ← List.map_drop, Int.reduceBEq, Int.reduceBNe, wrap64 (n := left - xs.length) (by omega) (by omega)]
  exact ⟨fun h => pWk_done rfl ⟨-1, rfl, rfl, by omega, by omega⟩, fun h => pWk_done rfl ⟨_, rfl, rfl, by omega, by omega⟩⟩

theorem ct95 {nn : Bool} {l : List Prot} (hl : l.length < 4000000) : Ct Try.prog 95 [vProts nn l] [] (fun v H => v = .ref 0 0 l.length ∧ H = [.sl true 90 3 (l.map vProt)]) := by
  apply c95; unfold t95
  simp only [go_sem, Nat.reduceAdd, Nat.reduceSub, Nat.reduceMul, Nat.reduceLeDiff, Nat.reduceLT, Nat.reduceEqDiff, ↓reduceIte, Nat.reducePow, reduceCtorEq, Int.reduceLE, Int.reduceLT, Int.reduceToNat, ← List.map_take, ← List.map_drop, Int.reduceBEq, Int.reduceBNe, Int.ofNat_lt, Int.ofNat_le, Int.natCast_nonneg]
  refine ⟨by omega, ?_⟩
  refine loop_st (fun k : Nat => ([V.i k], [Blk.sl true 90 3 (fill vProt (V.agg [V.int .i64 0, V.int .i64 0, V.bool false]) k l)])) (fun k => k ≤ l.length) (fun k => l.length - k) (pWk_take rfl ⟨0, by omega, rfl, by simp only [fill_zero]; rfl⟩) ?_
  rintro μ k hk nx
  simp only [go_sem, Nat.reduceAdd, Nat.reduceSub, Nat.reduceMul, Nat.reduceLeDiff, Nat.reduceLT, Nat.reduceEqDiff, ↓reduceIte, Nat.reducePow, reduceCtorEq, Int.reduceLE, Int.reduceLT, Int.reduceToNat, ← List.map_take, ← List.map_drop, Int.reduceBEq, Int.reduceBNe, Int.ofNat_lt, Int.ofNat_le, Int.natCast_nonneg, List.getElem?_map, fill_len]
  refine ⟨fun hlt => ?_, fun hge => ?_⟩
  · have hx : l[k]? = some l[k] := List.getElem?_eq_getElem hlt
    have hz := fill_get (e := vProt) (z := (V.agg [V.int .i64 0, V.int .i64 0, V.bool false])) hlt
    have next := nx (k + 1) (by omega) (by omega)
    rw [← fill_set hlt] at next
    simp only [go_sem, Nat.reduceAdd, Nat.reduceSub, Nat.reduceMul, Nat.reduceLeDiff, Nat.reduceLT, Nat.reduceEqDiff, ↓reduceIte, Nat.reducePow, reduceCtorEq, Int.reduceLE, Int.reduceLT, Int.reduceToNat, ← List.map_take, ← List.map_drop, Int.reduceBEq, Int.reduceBNe, hx, hz, fill_len, Int.ofNat_lt, Int.ofNat_le, Int.natCast_nonneg, vProt, wrapN (show k < 4611686018427387904 by omega)]
    refine ⟨by omega, ?_⟩
    refine k59 (t := l[k]) ?_
    simp only [go_sem, Nat.reduceAdd, Nat.reduceSub, Nat.reduceMul, Nat.reduceLeDiff, Nat.reduceLT, Nat.reduceEqDiff, ↓reduceIte, Nat.reducePow, reduceCtorEq, Int.reduceLE, Int.reduceLT, Int.reduceToNat, ← List.map_take, ← List.map_drop, Int.reduceBEq, Int.reduceBNe, vProt, hz, fill_len, Int.ofNat_lt, Int.ofNat_le, Int.natCast_nonneg, wrapN (show k < 4611686018427387904 by omega)]
    refine ⟨by omega, ?_⟩
    exact pWk_take rfl next
  · have : k = l.length := by omega
    subst this
    rw [fill_all (Nat.le_refl _)]
    exact pWk_kp [] [0] rfl ⟨rfl, rfl⟩

def mkP (k : Nat) (i : Nat) : Prot := ⟨((k + 3 * i : Nat) : Int), ((k + 3 * i + 1 : Nat) : Int), ((k + 3 * i + 1 + 1 : Nat) : Int).tmod 3 == 0⟩
theorem ct97 {l : List Prot} {k : Nat} (hl : l.length < 4000000) (hk : k < 1000000000) : Ct Try.prog 97 [.ref 0 0 l.length, .i k] [.sl true 90 3 (l.map vProt)] (fun v H => v = .i ((k + 3 * l.length : Nat) : Int) ∧ H = [.sl true 90 3 (((List.range l.length).map (mkP k)).map vProt)]) := by
  apply c97; unfold t97
  simp only [go_sem, Nat.reduceAdd, Nat.reduceSub, Nat.reduceMul, Nat.reduceLeDiff, Nat.reduceLT, Nat.reduceEqDiff, ↓reduceIte, Nat.reducePow, reduceCtorEq, Int.reduceLE, Int.reduceLT, Int.reduceToNat, ← List.map_take, ← List.map_drop, Int.reduceBEq, Int.reduceBNe]
  refine loop_st (fun i : Nat => ([V.i ((k + 3 * i : Nat) : Int), V.i i], [Blk.sl true 90 3 ((ovr (mkP k) i l).map vProt)])) (fun i => i ≤ l.length) (fun i => l.length - i) (pWk_take rfl ⟨0, by omega, rfl, by simp only [ovr_zero]; rfl⟩) ?_
  rintro μ i hi nx
  simp only [go_sem, Nat.reduceAdd, Nat.reduceSub, Nat.reduceMul, Nat.reduceLeDiff, Nat.reduceLT, Nat.reduceEqDiff, ↓reduceIte, Nat.reducePow, reduceCtorEq, Int.reduceLE, Int.reduceLT, Int.reduceToNat, ← List.map_take, ← List.map_drop, Int.reduceBEq, Int.reduceBNe, Int.ofNat_lt, Int.ofNat_le, Int.natCast_nonneg, List.getElem?_map, ovr_len, List.length_map]
  refine ⟨fun hlt => ?_, fun hge => ?_⟩
  · have hx := ovr_get (f := mkP k) hlt
    have next := nx (i + 1) (by omega) (by omega)
    rw [← ovr_set hlt, List.map_set] at next
    generalize l[i] = t at hx
    have hset : ∀ (a b : V), ((List.map vProt (ovr (mkP k) i l)).set i a).set i b = (List.map vProt (ovr (mkP k) i l)).set i b := fun a b => List.set_set ..
    have hget : ∀ (a : V), ((List.map vProt (ovr (mkP k) i l)).set i a)[i]? = some a := fun a => List.getElem?_set_self (by simp [ovr_len]; exact hlt)
    have hw3 : IntKind.i64.wrap (((k + 3 * i + 1 + 1 : Nat) : Int).tmod 3) = ((k + 3 * i + 1 + 1 : Nat) : Int).tmod 3 := by
      rw [Int.tmod_eq_emod_of_nonneg (by omega)]
      exact wrap64 (by omega) (by omega)
    simp only [go_sem, Nat.reduceAdd, Nat.reduceSub, Nat.reduceMul, Nat.reduceLeDiff, Nat.reduceLT, Nat.reduceEqDiff, ↓reduceIte, Nat.reducePow, reduceCtorEq, Int.reduceLE, Int.reduceLT, Int.reduceToNat, ← List.map_take, ← List.map_drop, Int.reduceBEq, Int.reduceBNe, hx, vProt, hset, hget, hw3, ovr_len, List.length_map, List.length_set, List.getElem?_map, Int.ofNat_lt, Int.ofNat_le, Int.natCast_nonneg, wrapN (show i < 4611686018427387904 by omega), wrapN (show k + 3 * i < 4611686018427387904 by omega), wrapN (show k + 3 * i + 1 < 4611686018427387904 by omega), wrapN (show k + 3 * i + 1 + 1 < 4611686018427387904 by omega)]
    exact ⟨hlt, hlt, by omega, hlt, pWk_take rfl next⟩
  · have : i = l.length := by omega
    subst this
    rw [ovr_all (Nat.le_refl _)]
    exact pWk_kp [] [0] rfl ⟨rfl, rfl⟩

end Go.Sim
