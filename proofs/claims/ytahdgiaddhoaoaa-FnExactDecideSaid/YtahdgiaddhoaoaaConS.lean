/- Contracts: the reference for books and protests, sizes, copies, comparisons. -/
import Derived.Test.YtahdgiaddhoaoaaConA
import Derived.Test.YtahdgiaddhoaoaaConG
import Derived.Test.YtahdgiaddhoaoaaTxtE

set_option maxRecDepth 100000
set_option linter.unusedSimpArgs false
set_option linter.unusedVariables false
namespace Go.Sim
open Go.Proofs

theorem ct202 {n lo hi : Int} : Pu Try.prog 202 [.i n, .i lo, .i hi] (.bool (within n lo hi)) := by
  apply c202; unfold t202
  simp only [go_sem, Nat.reduceAdd, Nat.reduceSub, Nat.reduceMul, Nat.reduceLeDiff, Nat.reduceLT, Nat.reduceEqDiff, ↓reduceIte, Nat.reducePow, reduceCtorEq, Int.reduceLE, Int.reduceLT, Int.reduceToNat, ← List.map_take, ← List.map_drop, Int.reduceBEq, Int.reduceBNe]
  (repeat' first | refine pWk_done rfl ⟨?_, rfl⟩ | refine And.intro (fun h => ?_) (fun h => ?_))
  all_goals ((try simp only [nthV]); (try simp_all [within]); (try omega))
theorem k202 {n lo hi : Int} {H : Heap} {K : V → Heap → Prop} (h : K (.bool (within n lo hi)) H) : pCall Try.prog 202 [.i n, .i lo, .i hi] H K :=
  pCall_pv rfl rfl (ct202) h

theorem ct316 {s : ByteArray} (hs : s.size < 4611686018427387904) : Pu Try.prog 316 [.str s] (.bool (isName s)) := by
  apply c316; unfold t316
  simp only [go_sem, Nat.reduceAdd, Nat.reduceSub, Nat.reduceMul, Nat.reduceLeDiff, Nat.reduceLT, Nat.reduceEqDiff, ↓reduceIte, Nat.reducePow, reduceCtorEq, Int.reduceLE, Int.reduceLT, Int.reduceToNat, ← List.map_take, ← List.map_drop, Int.reduceBEq, Int.reduceBNe]
  refine loop_st (fun k : Nat => ([V.i k], [])) (fun k => k ≤ s.size ∧ ∀ j, j < k → isNameAt s j = true) (fun k => s.size - k) (pWk_done rfl ⟨0, ⟨by omega, by intros; omega⟩, rfl, rfl⟩) ?_
  rintro μ k ⟨hk, hno⟩ nx
  simp only [go_sem, Nat.reduceAdd, Nat.reduceSub, Nat.reduceMul, Nat.reduceLeDiff, Nat.reduceLT, Nat.reduceEqDiff, ↓reduceIte, Nat.reducePow, reduceCtorEq, Int.reduceLE, Int.reduceLT, Int.reduceToNat, ← List.map_take, ← List.map_drop, Int.reduceBEq, Int.reduceBNe, Int.ofNat_lt, Int.natCast_nonneg]
  refine ⟨fun hlt => ?_, fun hge => ?_⟩
  · have hx := bytes_some hlt
    have hat : isNameAt s k = (decide (97 ≤ (s[k].toNat : Int)) && decide ((s[k].toNat : Int) ≤ 122) || !((k : Int) == 0) && decide (48 ≤ (s[k].toNat : Int)) && decide ((s[k].toNat : Int) ≤ 57)) := by unfold isNameAt; rw [hx]
    have bad : isNameAt s k = false → isName s = false := fun h => by
      unfold isName
      rw [List.all_eq_false.2 ⟨k, List.mem_range.2 hlt, by simp [h]⟩]; rfl
    have good : isNameAt s k = true → ∀ j, j < k + 1 → isNameAt s j = true := fun h j hj => by
      rcases Nat.lt_succ_iff_lt_or_eq.1 hj with h' | h'
      · exact hno j h'
      · subst h'; exact h
    simp only [go_sem, Nat.reduceAdd, Nat.reduceSub, Nat.reduceMul, Nat.reduceLeDiff, Nat.reduceLT, Nat.reduceEqDiff, ↓reduceIte, Nat.reducePow, reduceCtorEq, Int.reduceLE, Int.reduceLT, Int.reduceToNat, ← List.map_take, ← List.map_drop, Int.reduceBEq, Int.reduceBNe, hx, wrapN (show k < 4611686018427387904 by omega)]
    repeat' first | refine And.intro (fun h => ?_) (fun h => ?_) | refine pWk_done rfl (nx (k + 1) ⟨by omega, good ?_⟩ (by omega)) | refine pWk_done rfl ⟨congrArg V.bool (bad ?_).symm, rfl⟩ | refine And.intro (by omega) ?_
    all_goals simp_all
    all_goals omega
  · refine k202 ?_
    refine pWk_done rfl ⟨congrArg V.bool ?_, rfl⟩
    unfold isName
    rw [List.all_eq_true.2 fun j hj => hno j (by have := List.mem_range.1 hj; omega)]; rfl
theorem k316 {s : ByteArray} (hs : s.size < 4611686018427387904) {H : Heap} {K : V → Heap → Prop} (h : K (.bool (isName s)) H) : pCall Try.prog 316 [.str s] H K := pCall_pv rfl rfl (ct316 hs) h

theorem ct291 {t : Team} (hs : t.name.size < 4611686018427387904) : Pu Try.prog 291 [vTeam t] (.bool (teamOk t)) := by
  apply c291; unfold t291
  simp only [go_sem, Nat.reduceAdd, Nat.reduceSub, Nat.reduceMul, Nat.reduceLeDiff, Nat.reduceLT, Nat.reduceEqDiff, ↓reduceIte, Nat.reducePow, reduceCtorEq, Int.reduceLE, Int.reduceLT, Int.reduceToNat, ← List.map_take, ← List.map_drop, Int.reduceBEq, Int.reduceBNe, vTeam]
  (repeat' first | refine pWk_done rfl ⟨?_, rfl⟩ | (refine k316 hs ?_; try simp only [go_sem, Nat.reduceAdd, Nat.reduceSub, Nat.reduceMul, Nat.reduceLeDiff, Nat.reduceLT, Nat.reduceEqDiff, ↓reduceIte, Nat.reducePow, reduceCtorEq, Int.reduceLE, Int.reduceLT, Int.reduceToNat, ← List.map_take, ← List.map_drop, Int.reduceBEq, Int.reduceBNe]) | (refine k202 ?_; try simp only [go_sem, Nat.reduceAdd, Nat.reduceSub, Nat.reduceMul, Nat.reduceLeDiff, Nat.reduceLT, Nat.reduceEqDiff, ↓reduceIte, Nat.reducePow, reduceCtorEq, Int.reduceLE, Int.reduceLT, Int.reduceToNat, ← List.map_take, ← List.map_drop, Int.reduceBEq, Int.reduceBNe]) | refine And.intro (fun h => ?_) (fun h => ?_))
  all_goals ((try simp only [nthV]); (try simp_all [teamOk]); (try omega))
theorem k291 {t : Team} (hs : t.name.size < 4611686018427387904) {H : Heap} {K : V → Heap → Prop} (h : K (.bool (teamOk t)) H) : pCall Try.prog 291 [vTeam t] H K :=
  pCall_pv rfl rfl (ct291 hs) h

theorem ct263 {nn : Bool} {l : List Team} (hl : l.length < 2000000) (hs : ∀ t ∈ l, t.name.size < 4611686018427387904) : Pu Try.prog 263 [vTeams nn l] (.bool (fieldOk l)) := by
  apply c263; unfold t263
  simp only [go_sem, Nat.reduceAdd, Nat.reduceSub, Nat.reduceMul, Nat.reduceLeDiff, Nat.reduceLT, Nat.reduceEqDiff, ↓reduceIte, Nat.reducePow, reduceCtorEq, Int.reduceLE, Int.reduceLT, Int.reduceToNat, ← List.map_take, ← List.map_drop, Int.reduceBEq, Int.reduceBNe]
  refine k202 ?_
  simp only [go_sem, Nat.reduceAdd, Nat.reduceSub, Nat.reduceMul, Nat.reduceLeDiff, Nat.reduceLT, Nat.reduceEqDiff, ↓reduceIte, Nat.reducePow, reduceCtorEq, Int.reduceLE, Int.reduceLT, Int.reduceToNat, ← List.map_take, ← List.map_drop, Int.reduceBEq, Int.reduceBNe]
  refine ⟨fun h => pWk_done rfl ⟨congrArg V.bool ?_, rfl⟩, fun hw => ?_⟩
  · simp at h; simp [fieldOk, h]
  refine loop_st (fun k : Nat => ([V.i k], [])) (fun k => k ≤ l.length ∧ ∀ j (hj : j < l.length), j < k → (teamOk l[j] && !((l.take j).any (clash l[j]))) = true) (fun k => l.length - k) (pWk_done rfl ⟨0, ⟨by omega, by intros; omega⟩, rfl, rfl⟩) ?_
  rintro μ k ⟨hk, hno⟩ nx
  simp only [go_sem, Nat.reduceAdd, Nat.reduceSub, Nat.reduceMul, Nat.reduceLeDiff, Nat.reduceLT, Nat.reduceEqDiff, ↓reduceIte, Nat.reducePow, reduceCtorEq, Int.reduceLE, Int.reduceLT, Int.reduceToNat, ← List.map_take, ← List.map_drop, Int.reduceBEq, Int.reduceBNe, Int.ofNat_lt, Int.ofNat_le, Int.natCast_nonneg, List.getElem?_map]
  refine ⟨fun hlt => ?_, fun hge => ?_⟩
  · have hx : l[k]? = some l[k] := List.getElem?_eq_getElem hlt
    have bad : (teamOk l[k] && !((l.take k).any (clash l[k]))) = false → fieldOk l = false := fun h => by
      unfold fieldOk
      rw [allPre_false hlt h]; rfl
    simp only [go_sem, Nat.reduceAdd, Nat.reduceSub, Nat.reduceMul, Nat.reduceLeDiff, Nat.reduceLT, Nat.reduceEqDiff, ↓reduceIte, Nat.reducePow, reduceCtorEq, Int.reduceLE, Int.reduceLT, Int.reduceToNat, ← List.map_take, ← List.map_drop, Int.reduceBEq, Int.reduceBNe, hx, vTeam]
    refine ⟨by omega, ?_⟩
    refine k291 (t := l[k]) (hs _ (List.getElem_mem hlt)) ?_
    simp only [go_sem, Nat.reduceAdd, Nat.reduceSub, Nat.reduceMul, Nat.reduceLeDiff, Nat.reduceLT, Nat.reduceEqDiff, ↓reduceIte, Nat.reducePow, reduceCtorEq, Int.reduceLE, Int.reduceLT, Int.reduceToNat, ← List.map_take, ← List.map_drop, Int.reduceBEq, Int.reduceBNe, Int.ofNat_le, Int.natCast_nonneg]
    refine ⟨fun h => pWk_done rfl ⟨congrArg V.bool (bad (by simp at h; simp [h])).symm, rfl⟩, fun h => ⟨by omega, ?_⟩⟩
    refine loop_st (fun j : Nat => ([V.i j], [Blk.box 178 (vTeam l[k])])) (fun j => j ≤ k ∧ ((l.take k).take j).any (clash l[k]) = false) (fun j => k - j) (pWk_take rfl ⟨0, ⟨by omega, by simp⟩, rfl, rfl⟩) ?_
    rintro ν j ⟨hj, hcl⟩ ny
    have hlk : (l.take k).length = k := by simp; omega
    simp only [go_sem, Nat.reduceAdd, Nat.reduceSub, Nat.reduceMul, Nat.reduceLeDiff, Nat.reduceLT, Nat.reduceEqDiff, ↓reduceIte, Nat.reducePow, reduceCtorEq, Int.reduceLE, Int.reduceLT, Int.reduceToNat, ← List.map_take, ← List.map_drop, Int.reduceBEq, Int.reduceBNe, Int.ofNat_lt, Int.ofNat_le, Int.natCast_nonneg, List.getElem?_map, hlk]
    refine ⟨fun hjk => ?_, fun hjk => ?_⟩
    · have hy : (l.take k)[j]? = some ((l.take k)[j]'(by omega)) := List.getElem?_eq_getElem _
      have hany := any_take_succ (q := clash l[k]) (l := l.take k) (j := j) (by omega)
      have hit : clash l[k] ((l.take k)[j]'(by omega)) = true → (l.take k).any (clash l[k]) = true := fun h => List.any_eq_true.2 ⟨_, List.getElem_mem _, h⟩
      generalize (l.take k)[j]'(by omega) = y at hy hany hit
      simp only [go_sem, Nat.reduceAdd, Nat.reduceSub, Nat.reduceMul, Nat.reduceLeDiff, Nat.reduceLT, Nat.reduceEqDiff, ↓reduceIte, Nat.reducePow, reduceCtorEq, Int.reduceLE, Int.reduceLT, Int.reduceToNat, ← List.map_take, ← List.map_drop, Int.reduceBEq, Int.reduceBNe, hy, vTeam, wrapN (show j < 4611686018427387904 by omega)]
      refine ⟨by omega, fun h1 => pWk_done rfl ⟨congrArg V.bool (bad ?_).symm, rfl⟩, fun h1 => ⟨fun h2 => pWk_done rfl ⟨congrArg V.bool (bad ?_).symm, rfl⟩, fun h2 => ?_⟩⟩
      · rw [hit (by unfold clash; rw [h1]; rfl)]; simp
      · rw [hit (by unfold clash; rw [h2]; simp)]; simp
      · exact pWk_take rfl (ny (j + 1) ⟨by omega, by rw [hany, hcl]; simp only [clash, Bool.not_eq_true] at h1 h2 ⊢; rw [h1, h2]; rfl⟩ (by omega))
    · have : j = k := by omega
      subst this
      rw [List.take_of_length_le (by simp; omega)] at hcl
      simp only [go_sem, Nat.reduceAdd, Nat.reduceSub, Nat.reduceMul, Nat.reduceLeDiff, Nat.reduceLT, Nat.reduceEqDiff, ↓reduceIte, Nat.reducePow, reduceCtorEq, Int.reduceLE, Int.reduceLT, Int.reduceToNat, ← List.map_take, ← List.map_drop, Int.reduceBEq, Int.reduceBNe, wrapN (show j < 4611686018427387904 by omega)]
      refine pWk_done rfl (nx (j + 1) ⟨by omega, fun i hi hij => ?_⟩ (by omega))
      rcases Nat.lt_succ_iff_lt_or_eq.1 hij with h' | h'
      · exact hno i hi h'
      · subst h'; simp only [hcl]; simpa using h
  · refine pWk_done rfl ⟨congrArg V.bool ?_, rfl⟩
    unfold fieldOk
    simp at hw
    rw [allPre_iff.2 fun j hj => hno j hj (by omega), hw]; rfl
theorem k263 {nn : Bool} {l : List Team} (hl : l.length < 2000000) (hs : ∀ t ∈ l, t.name.size < 4611686018427387904) {H : Heap} {K : V → Heap → Prop} (h : K (.bool (fieldOk l)) H) : pCall Try.prog 263 [vTeams nn l] H K := pCall_pv rfl rfl (ct263 hl hs) h

theorem rules_spec {u : Rules} : rulesOk u = (within u.win 0 10 && within u.draw 0 u.win && within u.loss 0 u.draw && within u.ladder.length 1 8 && allPre (fun pre k => within k 1 8 && !(pre.contains k)) u.ladder) := by
  unfold rulesOk
  generalize allPre (fun pre k => within k 1 8 && !(pre.contains k)) u.ladder = a
  generalize hw : within u.ladder.length 1 8 = b
  rw [Bool.eq_iff_iff]
  simp only [within, Bool.and_eq_true, decide_eq_true_eq]
  constructor
  · rintro ⟨⟨h1, h2⟩, h3⟩; exact ⟨⟨⟨⟨by omega, by omega⟩, by omega⟩, h3⟩, h1⟩
  · rintro ⟨⟨⟨⟨h1, h2⟩, h3⟩, h4⟩, h5⟩; exact ⟨⟨h5, by omega⟩, h4⟩
theorem ct264 {u : Rules} (hl : u.ladder.length < 2000000) : Pu Try.prog 264 [vRules u] (.bool (rulesOk u)) := by
  apply c264; unfold t264
  rw [rules_spec]
  simp only [go_sem, Nat.reduceAdd, Nat.reduceSub, Nat.reduceMul, Nat.reduceLeDiff, Nat.reduceLT, Nat.reduceEqDiff, ↓reduceIte, Nat.reducePow, reduceCtorEq, Int.reduceLE, Int.reduceLT, Int.reduceToNat, ← List.map_take, ← List.map_drop, Int.reduceBEq, Int.reduceBNe, vRules]
  refine k202 ?_
  simp only [go_sem, Nat.reduceAdd, Nat.reduceSub, Nat.reduceMul, Nat.reduceLeDiff, Nat.reduceLT, Nat.reduceEqDiff, ↓reduceIte, Nat.reducePow, reduceCtorEq, Int.reduceLE, Int.reduceLT, Int.reduceToNat, ← List.map_take, ← List.map_drop, Int.reduceBEq, Int.reduceBNe]
  refine ⟨fun h => pWk_done rfl ⟨congrArg V.bool (by simp at h; simp [h]), rfl⟩, fun h1 => ?_⟩
  refine k202 ?_
  simp only [go_sem, Nat.reduceAdd, Nat.reduceSub, Nat.reduceMul, Nat.reduceLeDiff, Nat.reduceLT, Nat.reduceEqDiff, ↓reduceIte, Nat.reducePow, reduceCtorEq, Int.reduceLE, Int.reduceLT, Int.reduceToNat, ← List.map_take, ← List.map_drop, Int.reduceBEq, Int.reduceBNe]
  refine ⟨fun h => pWk_done rfl ⟨congrArg V.bool (by simp at h; simp [h]), rfl⟩, fun h2 => ?_⟩
  refine k202 ?_
  simp only [go_sem, Nat.reduceAdd, Nat.reduceSub, Nat.reduceMul, Nat.reduceLeDiff, Nat.reduceLT, Nat.reduceEqDiff, ↓reduceIte, Nat.reducePow, reduceCtorEq, Int.reduceLE, Int.reduceLT, Int.reduceToNat, ← List.map_take, ← List.map_drop, Int.reduceBEq, Int.reduceBNe]
  refine ⟨fun h => pWk_done rfl ⟨congrArg V.bool (by simp at h; simp [h]), rfl⟩, fun h3 => ?_⟩
  refine k202 ?_
  simp only [go_sem, Nat.reduceAdd, Nat.reduceSub, Nat.reduceMul, Nat.reduceLeDiff, Nat.reduceLT, Nat.reduceEqDiff, ↓reduceIte, Nat.reducePow, reduceCtorEq, Int.reduceLE, Int.reduceLT, Int.reduceToNat, ← List.map_take, ← List.map_drop, Int.reduceBEq, Int.reduceBNe]
  refine ⟨fun h => pWk_done rfl ⟨congrArg V.bool (by simp at h; simp [h]), rfl⟩, fun h4 => ?_⟩
  refine loop_st (fun k : Nat => ([V.i k], [Blk.box 26 (vRules u)])) (fun k => k ≤ u.ladder.length ∧ ∀ j (hj : j < u.ladder.length), j < k → (within u.ladder[j] 1 8 && !((u.ladder.take j).contains u.ladder[j])) = true) (fun k => u.ladder.length - k) (pWk_take rfl ⟨0, ⟨by omega, by intros; omega⟩, rfl, rfl⟩) ?_
  rintro μ k ⟨hk, hno⟩ nx
  simp only [go_sem, Nat.reduceAdd, Nat.reduceSub, Nat.reduceMul, Nat.reduceLeDiff, Nat.reduceLT, Nat.reduceEqDiff, ↓reduceIte, Nat.reducePow, reduceCtorEq, Int.reduceLE, Int.reduceLT, Int.reduceToNat, ← List.map_take, ← List.map_drop, Int.reduceBEq, Int.reduceBNe, vRules, Int.ofNat_lt, Int.ofNat_le, Int.natCast_nonneg, List.getElem?_map]
  refine ⟨fun hlt => ?_, fun hge => ?_⟩
  · have hx : u.ladder[k]? = some u.ladder[k] := List.getElem?_eq_getElem hlt
    have bad : (within u.ladder[k] 1 8 && !((u.ladder.take k).contains u.ladder[k])) = false → allPre (fun pre k => within k 1 8 && !(pre.contains k)) u.ladder = false := fun h => allPre_false hlt h
    simp only [go_sem, Nat.reduceAdd, Nat.reduceSub, Nat.reduceMul, Nat.reduceLeDiff, Nat.reduceLT, Nat.reduceEqDiff, ↓reduceIte, Nat.reducePow, reduceCtorEq, Int.reduceLE, Int.reduceLT, Int.reduceToNat, ← List.map_take, ← List.map_drop, Int.reduceBEq, Int.reduceBNe, hx]
    refine ⟨by omega, ?_⟩
    refine k202 ?_
    simp only [go_sem, Nat.reduceAdd, Nat.reduceSub, Nat.reduceMul, Nat.reduceLeDiff, Nat.reduceLT, Nat.reduceEqDiff, ↓reduceIte, Nat.reducePow, reduceCtorEq, Int.reduceLE, Int.reduceLT, Int.reduceToNat, ← List.map_take, ← List.map_drop, Int.reduceBEq, Int.reduceBNe, Int.ofNat_le, Int.natCast_nonneg]
    refine ⟨fun h => pWk_done rfl ⟨congrArg V.bool (by rw [bad (by simp at h; simp [h])]; simp), rfl⟩, fun h => ⟨by omega, ?_⟩⟩
    refine pCall_pv rfl rfl (ct217 (xs := u.ladder.take k) (by simp; omega)) ?_
    simp only [go_sem, Nat.reduceAdd, Nat.reduceSub, Nat.reduceMul, Nat.reduceLeDiff, Nat.reduceLT, Nat.reduceEqDiff, ↓reduceIte, Nat.reducePow, reduceCtorEq, Int.reduceLE, Int.reduceLT, Int.reduceToNat, ← List.map_take, ← List.map_drop, Int.reduceBEq, Int.reduceBNe, wrapN (show k < 4611686018427387904 by omega)]
    refine ⟨fun h2 => pWk_done rfl ⟨congrArg V.bool (by rw [bad (by simp only [h2]; simp)]; simp), rfl⟩, fun h2 => pWk_take rfl (nx (k + 1) ⟨by omega, fun j hj hji => ?_⟩ (by omega))⟩
    rcases Nat.lt_succ_iff_lt_or_eq.1 hji with h' | h'
    · exact hno j hj h'
    · subst h'; simp only [h2]; simpa using h
  · have ha : allPre (fun pre k => within k 1 8 && !(pre.contains k)) u.ladder = true := allPre_iff.2 fun j hj => hno j hj (by omega)
    refine pWk_done rfl ⟨congrArg V.bool ?_, rfl⟩
    simp at h1 h2 h3 h4
    rw [ha, h1, h2, h3, h4]; rfl
theorem k264 {u : Rules} (hl : u.ladder.length < 2000000) {H : Heap} {K : V → Heap → Prop} (h : K (.bool (rulesOk u)) H) : pCall Try.prog 264 [vRules u] H K := pCall_pv rfl rfl (ct264 hl) h

end Go.Sim

set_option maxRecDepth 100000
set_option linter.unusedSimpArgs false
set_option linter.unusedVariables false
namespace Go.Sim
open Go.Proofs

theorem ct292 {n : Int} {g : Game} (hn : -2000000 < n) (hn2 : n < 2000000) : Pu Try.prog 292 [.i n, vGame g] (.bool (gameOk n g)) := by
  apply c292; unfold t292
  simp only [go_sem, Nat.reduceAdd, Nat.reduceSub, Nat.reduceMul, Nat.reduceLeDiff, Nat.reduceLT, Nat.reduceEqDiff, ↓reduceIte, Nat.reducePow, reduceCtorEq, Int.reduceLE, Int.reduceLT, Int.reduceToNat, ← List.map_take, ← List.map_drop, Int.reduceBEq, Int.reduceBNe, vGame, wrap64 (n := n - 1) (by omega) (by omega)]
  repeat' first | refine pWk_done rfl ⟨congrArg V.bool ?_, rfl⟩ | (refine k202 ?_; try simp only [go_sem, Nat.reduceAdd, Nat.reduceSub, Nat.reduceMul, Nat.reduceLeDiff, Nat.reduceLT, Nat.reduceEqDiff, ↓reduceIte, Nat.reducePow, reduceCtorEq, Int.reduceLE, Int.reduceLT, Int.reduceToNat, ← List.map_take, ← List.map_drop, Int.reduceBEq, Int.reduceBNe, wrap64 (n := n - 1) (by omega) (by omega)]) | refine And.intro (fun h => ?_) (fun h => ?_)
  all_goals (simp_all [gameOk, within])
  all_goals (try (intros; omega))
  all_goals (rw [Bool.eq_iff_iff]; simp_all; omega)
theorem k292 {n : Int} {g : Game} (hn : -2000000 < n) (hn2 : n < 2000000) {H : Heap} {K : V → Heap → Prop} (h : K (.bool (gameOk n g)) H) : pCall Try.prog 292 [.i n, vGame g] H K :=
  pCall_pv rfl rfl (ct292 hn hn2) h

theorem ct293 {nn : Bool} {l : List Game} {a b : Int} (hl : l.length < 4611686018427387904) : Pu Try.prog 293 [vGames nn l, .i a, .i b] (.i (idxI (samePair a b) l)) := by
  apply c293; unfold t293
  simp only [go_sem, Nat.reduceAdd, Nat.reduceSub, Nat.reduceMul, Nat.reduceLeDiff, Nat.reduceLT, Nat.reduceEqDiff, ↓reduceIte, Nat.reducePow, reduceCtorEq, Int.reduceLE, Int.reduceLT, Int.reduceToNat, ← List.map_take, ← List.map_drop, Int.reduceBEq, Int.reduceBNe]
  refine loop_st (fun k : Nat => ([V.i k], [])) (fun k => k ≤ l.length ∧ ∀ j (hj : j < l.length), j < k → samePair a b l[j] = false) (fun k => l.length - k) (pWk_done rfl ⟨0, ⟨by omega, by intros; omega⟩, rfl, rfl⟩) ?_
  rintro μ i ⟨hi, hno⟩ nx
  simp only [go_sem, Nat.reduceAdd, Nat.reduceSub, Nat.reduceMul, Nat.reduceLeDiff, Nat.reduceLT, Nat.reduceEqDiff, ↓reduceIte, Nat.reducePow, reduceCtorEq, Int.reduceLE, Int.reduceLT, Int.reduceToNat, ← List.map_take, ← List.map_drop, Int.reduceBEq, Int.reduceBNe, Int.ofNat_lt, Int.natCast_nonneg, List.getElem?_map]
  refine ⟨fun hlt => ?_, fun hge => ?_⟩
  · have hx : l[i]? = some l[i] := List.getElem?_eq_getElem hlt
    have next : samePair a b l[i] = false → _ := fun h => nx (i + 1) ⟨by omega, fun j hj hji => by
      rcases Nat.lt_succ_iff_lt_or_eq.1 hji with h' | h'
      · exact hno j hj h'
      · subst h'; exact h⟩ (by omega)
    simp only [go_sem, Nat.reduceAdd, Nat.reduceSub, Nat.reduceMul, Nat.reduceLeDiff, Nat.reduceLT, Nat.reduceEqDiff, ↓reduceIte, Nat.reducePow, reduceCtorEq, Int.reduceLE, Int.reduceLT, Int.reduceToNat, ← List.map_take, ← List.map_drop, Int.reduceBEq, Int.reduceBNe, hx, vGame, wrapN (show i < 4611686018427387904 by omega)]
    refine ⟨by omega, fun h1 => ⟨fun h2 => pWk_done rfl ⟨?_, rfl⟩, fun h2 => pWk_done rfl (next ?_)⟩, fun h1 => pWk_done rfl (next ?_)⟩
    · rw [idxI_hit hlt (by unfold samePair; rw [h1, h2]; rfl) hno]; rfl
    · simp_all [samePair]
    · simp_all [samePair]
  · refine pWk_done rfl ⟨?_, rfl⟩
    rw [idxI_miss fun j hj => hno j hj (by omega)]; rfl
theorem k293 {nn : Bool} {l : List Game} {a b : Int} (hl : l.length < 4611686018427387904) {H : Heap} {K : V → Heap → Prop} (h : K (.i (idxI (samePair a b) l)) H) : pCall Try.prog 293 [vGames nn l, .i a, .i b] H K :=
  pCall_pv rfl rfl (ct293 hl) h

theorem samePair_self (g : Game) : samePair g.home g.away g = true := by simp [samePair]
theorem idx_first {l : List Game} {k : Nat} (h : k < l.length) : ((idxI (samePair l[k].home l[k].away) l == (k : Int)) : Bool) = !((l.take k).any (samePair l[k].home l[k].away)) := by
  generalize hp : samePair l[k].home l[k].away = p
  have hk : p l[k] = true := by rw [← hp]; exact samePair_self _
  cases e : (l.take k).any p with
  | false =>
    rw [idxI_hit h hk fun j hj hjk => ?_]
    · simp
    · rw [List.any_eq_false] at e
      have := e l[j] (by rw [← List.getElem_take (h := by simp; omega) (j := k)]; exact List.getElem_mem _)
      simpa using this
  | true =>
    obtain ⟨x, hx, hpx⟩ := List.any_eq_true.1 e
    obtain ⟨j, hj, rfl⟩ := List.getElem_of_mem hx
    have hjk : j < k := by simp at hj; omega
    have h1 : l.any p = true := List.any_eq_true.2 ⟨l[k], List.getElem_mem _, hk⟩
    have h2 : l.findIdx p ≤ j := Nat.le_of_not_lt fun hlt => by
      have := List.not_of_lt_findIdx hlt
      rw [List.getElem_take] at hpx
      rw [this] at hpx
      cases hpx
    unfold idxI
    rw [if_pos h1]
    simp
    omega

theorem ct265 {n : Int} {nn : Bool} {l : List Game} (hn : -2000000 < n) (hn2 : n < 2000000) (hl : l.length < 4000000) : Pu Try.prog 265 [.i n, vGames nn l] (.bool (seasonOk n l)) := by
  apply c265; unfold t265
  simp only [go_sem, Nat.reduceAdd, Nat.reduceSub, Nat.reduceMul, Nat.reduceLeDiff, Nat.reduceLT, Nat.reduceEqDiff, ↓reduceIte, Nat.reducePow, reduceCtorEq, Int.reduceLE, Int.reduceLT, Int.reduceToNat, ← List.map_take, ← List.map_drop, Int.reduceBEq, Int.reduceBNe]
  refine ⟨fun h => pWk_done rfl ⟨congrArg V.bool ?_, rfl⟩, fun hlen => ?_⟩
  · have : ¬ l.length ≤ 60 := by omega
    simp [seasonOk, this]
  refine loop_st (fun k : Nat => ([V.i k], [])) (fun k => k ≤ l.length ∧ ∀ j (hj : j < l.length), j < k → (gameOk n l[j] && !((l.take j).any (samePair l[j].home l[j].away))) = true) (fun k => l.length - k) (pWk_done rfl ⟨0, ⟨by omega, by intros; omega⟩, rfl, rfl⟩) ?_
  rintro μ k ⟨hk, hno⟩ nx
  simp only [go_sem, Nat.reduceAdd, Nat.reduceSub, Nat.reduceMul, Nat.reduceLeDiff, Nat.reduceLT, Nat.reduceEqDiff, ↓reduceIte, Nat.reducePow, reduceCtorEq, Int.reduceLE, Int.reduceLT, Int.reduceToNat, ← List.map_take, ← List.map_drop, Int.reduceBEq, Int.reduceBNe, Int.ofNat_lt, Int.ofNat_le, Int.natCast_nonneg, List.getElem?_map]
  refine ⟨fun hlt => ?_, fun hge => ?_⟩
  · have hx : l[k]? = some l[k] := List.getElem?_eq_getElem hlt
    have bad : (gameOk n l[k] && !((l.take k).any (samePair l[k].home l[k].away))) = false → seasonOk n l = false := fun h => by
      unfold seasonOk
      rw [allPre_false hlt h]; rfl
    have hfirst := idx_first hlt
    simp only [go_sem, Nat.reduceAdd, Nat.reduceSub, Nat.reduceMul, Nat.reduceLeDiff, Nat.reduceLT, Nat.reduceEqDiff, ↓reduceIte, Nat.reducePow, reduceCtorEq, Int.reduceLE, Int.reduceLT, Int.reduceToNat, ← List.map_take, ← List.map_drop, Int.reduceBEq, Int.reduceBNe, hx, vGame]
    refine ⟨by omega, ?_⟩
    refine k292 (g := l[k]) hn hn2 ?_
    simp only [go_sem, Nat.reduceAdd, Nat.reduceSub, Nat.reduceMul, Nat.reduceLeDiff, Nat.reduceLT, Nat.reduceEqDiff, ↓reduceIte, Nat.reducePow, reduceCtorEq, Int.reduceLE, Int.reduceLT, Int.reduceToNat, ← List.map_take, ← List.map_drop, Int.reduceBEq, Int.reduceBNe, Int.ofNat_le, Int.natCast_nonneg]
    refine ⟨fun h => pWk_done rfl ⟨congrArg V.bool (bad (by simp at h; simp [h])).symm, rfl⟩, fun h => ?_⟩
    refine k293 (by omega) ?_
    simp only [go_sem, Nat.reduceAdd, Nat.reduceSub, Nat.reduceMul, Nat.reduceLeDiff, Nat.reduceLT, Nat.reduceEqDiff, ↓reduceIte, Nat.reducePow, reduceCtorEq, Int.reduceLE, Int.reduceLT, Int.reduceToNat, ← List.map_take, ← List.map_drop, Int.reduceBEq, Int.reduceBNe, wrapN (show k < 4611686018427387904 by omega)]
    refine ⟨fun h2 => pWk_done rfl ⟨congrArg V.bool (bad ?_).symm, rfl⟩, fun h2 => pWk_done rfl (nx (k + 1) ⟨by omega, fun j hj hji => ?_⟩ (by omega))⟩
    · rw [← hfirst]; simp only [bne, Bool.not_eq_true'] at h2; rw [h2]; simp
    rcases Nat.lt_succ_iff_lt_or_eq.1 hji with h' | h'
    · exact hno j hj h'
    · subst h'; rw [← hfirst]; simp only [bne, Bool.not_eq_false'] at h h2; rw [h, h2]; rfl
  · refine pWk_done rfl ⟨congrArg V.bool ?_, rfl⟩
    unfold seasonOk
    rw [allPre_iff.2 fun j hj => hno j hj (by omega)]; simp; omega
theorem k265 {n : Int} {nn : Bool} {l : List Game} (hn : -2000000 < n) (hn2 : n < 2000000) (hl : l.length < 4000000) {H : Heap} {K : V → Heap → Prop} (h : K (.bool (seasonOk n l)) H) : pCall Try.prog 265 [.i n, vGames nn l] H K := pCall_pv rfl rfl (ct265 hn hn2 hl) h

def awardedS (g : Game) (t : Int) : Game := ⟨g.home, g.away, 0, 0, if g.home == t then 2 else 3⟩
theorem ct204 {g : Game} {t : Int} : Pu Try.prog 204 [vGame g, .i t] (vGame (awardedS g t)) := by
  apply c204; unfold t204
  simp only [go_sem, Nat.reduceAdd, Nat.reduceSub, Nat.reduceMul, Nat.reduceLeDiff, Nat.reduceLT, Nat.reduceEqDiff, ↓reduceIte, Nat.reducePow, reduceCtorEq, Int.reduceLE, Int.reduceLT, Int.reduceToNat, ← List.map_take, ← List.map_drop, Int.reduceBEq, Int.reduceBNe, vGame]
  (repeat' first | refine pWk_done rfl ⟨?_, rfl⟩ | refine And.intro (fun h => ?_) (fun h => ?_))
  all_goals ((try simp only [nthV]); (try simp_all [awardedS]); (try omega))
theorem k204 {g : Game} {t : Int} {H : Heap} {K : V → Heap → Prop} (h : K (vGame (awardedS g t)) H) : pCall Try.prog 204 [vGame g, .i t] H K :=
  pCall_pv rfl rfl (ct204) h

theorem ct201 {b : Book} (hb : Sized b) : Pu Try.prog 201 [vBook b] (.bool (bookOk b)) := by
  apply c201; unfold t201
  have := hb.field
  have := hb.ladder
  have := hb.games
  have := hb.fair
  have := hb.taken
  have hbx := vBook_eq b
  simp only [go_sem, Nat.reduceAdd, Nat.reduceSub, Nat.reduceMul, Nat.reduceLeDiff, Nat.reduceLT, Nat.reduceEqDiff, ↓reduceIte, Nat.reducePow, reduceCtorEq, Int.reduceLE, Int.reduceLT, Int.reduceToNat, ← List.map_take, ← List.map_drop, Int.reduceBEq, Int.reduceBNe, hbx]
  refine k263 hb.field hb.names ?_
  simp only [go_sem, Nat.reduceAdd, Nat.reduceSub, Nat.reduceMul, Nat.reduceLeDiff, Nat.reduceLT, Nat.reduceEqDiff, ↓reduceIte, Nat.reducePow, reduceCtorEq, Int.reduceLE, Int.reduceLT, Int.reduceToNat, ← List.map_take, ← List.map_drop, Int.reduceBEq, Int.reduceBNe]
  refine ⟨fun h => pWk_done rfl ⟨by simp at h; simp [nthV, bookOk, h], rfl⟩, fun h1 => ?_⟩
  refine k264 (u := b.rules) hb.ladder ?_
  simp only [go_sem, Nat.reduceAdd, Nat.reduceSub, Nat.reduceMul, Nat.reduceLeDiff, Nat.reduceLT, Nat.reduceEqDiff, ↓reduceIte, Nat.reducePow, reduceCtorEq, Int.reduceLE, Int.reduceLT, Int.reduceToNat, ← List.map_take, ← List.map_drop, Int.reduceBEq, Int.reduceBNe]
  refine ⟨fun h => pWk_done rfl ⟨by simp at h; simp [nthV, bookOk, h], rfl⟩, fun h2 => ?_⟩
  refine k265 (by omega) (by omega) hb.games ?_
  simp only [go_sem, Nat.reduceAdd, Nat.reduceSub, Nat.reduceMul, Nat.reduceLeDiff, Nat.reduceLT, Nat.reduceEqDiff, ↓reduceIte, Nat.reducePow, reduceCtorEq, Int.reduceLE, Int.reduceLT, Int.reduceToNat, ← List.map_take, ← List.map_drop, Int.reduceBEq, Int.reduceBNe]
  refine ⟨fun h => pWk_done rfl ⟨by simp at h; simp [nthV, bookOk, h], rfl⟩, fun h3 => ⟨fun h => pWk_done rfl ⟨by simp at h; simp [nthV, bookOk, pensOk, h], rfl⟩, fun h4 => ⟨fun h => pWk_done rfl ⟨by simp at h; simp [nthV, bookOk, pensOk, h], rfl⟩, fun h5 => ?_⟩⟩⟩
  simp at h4 h5
  have bad1 : ∀ k (hk : k < b.fair.length), within b.fair[k] 0 1000 = false → bookOk b = false := fun k hk h => by
    have : (b.fair.any fun x => !(within x 0 1000)) = true := List.any_eq_true.2 ⟨_, List.getElem_mem hk, by simp [h]⟩
    simp only [bookOk, pensOk, this]; simp
  have bad2 : ∀ k (hk : k < b.taken.length), within b.taken[k] 0 1000 = false → bookOk b = false := fun k hk h => by
    have : (b.taken.any fun x => !(within x 0 1000)) = true := List.any_eq_true.2 ⟨_, List.getElem_mem hk, by simp [h]⟩
    simp only [bookOk, pensOk, this]; simp
  refine loop_st (fun k : Nat => ([V.i k], [Blk.box 29 (vBook b)])) (fun k => k ≤ b.field.length ∧ (∀ j (hj : j < b.fair.length), j < k → within b.fair[j] 0 1000 = true) ∧ (∀ j (hj : j < b.taken.length), j < k → within b.taken[j] 0 1000 = true)) (fun k => b.field.length - k) (pWk_take rfl ⟨0, ⟨by omega, by intros; omega, by intros; omega⟩, rfl, rfl⟩) ?_
  rintro μ k ⟨hk, hno1, hno2⟩ nx
  simp only [go_sem, Nat.reduceAdd, Nat.reduceSub, Nat.reduceMul, Nat.reduceLeDiff, Nat.reduceLT, Nat.reduceEqDiff, ↓reduceIte, Nat.reducePow, reduceCtorEq, Int.reduceLE, Int.reduceLT, Int.reduceToNat, ← List.map_take, ← List.map_drop, Int.reduceBEq, Int.reduceBNe, hbx, Int.ofNat_lt, Int.ofNat_le, Int.natCast_nonneg, List.getElem?_map]
  refine ⟨fun hlt => ?_, fun hge => ?_⟩
  · have hx : b.fair[k]? = some (b.fair[k]'(by omega)) := List.getElem?_eq_getElem _
    have hy : b.taken[k]? = some (b.taken[k]'(by omega)) := List.getElem?_eq_getElem _
    simp only [go_sem, Nat.reduceAdd, Nat.reduceSub, Nat.reduceMul, Nat.reduceLeDiff, Nat.reduceLT, Nat.reduceEqDiff, ↓reduceIte, Nat.reducePow, reduceCtorEq, Int.reduceLE, Int.reduceLT, Int.reduceToNat, ← List.map_take, ← List.map_drop, Int.reduceBEq, Int.reduceBNe, hx, hy]
    refine ⟨by omega, ?_⟩
    refine k202 ?_
    simp only [go_sem, Nat.reduceAdd, Nat.reduceSub, Nat.reduceMul, Nat.reduceLeDiff, Nat.reduceLT, Nat.reduceEqDiff, ↓reduceIte, Nat.reducePow, reduceCtorEq, Int.reduceLE, Int.reduceLT, Int.reduceToNat, ← List.map_take, ← List.map_drop, Int.reduceBEq, Int.reduceBNe, hy, Int.ofNat_lt, Int.ofNat_le, Int.natCast_nonneg, List.getElem?_map]
    refine ⟨fun h => pWk_done rfl ⟨congrArg V.bool (bad1 k (by omega) (by simpa using h)).symm, rfl⟩, fun h6 => ⟨by omega, ?_⟩⟩
    refine k202 ?_
    simp only [go_sem, Nat.reduceAdd, Nat.reduceSub, Nat.reduceMul, Nat.reduceLeDiff, Nat.reduceLT, Nat.reduceEqDiff, ↓reduceIte, Nat.reducePow, reduceCtorEq, Int.reduceLE, Int.reduceLT, Int.reduceToNat, ← List.map_take, ← List.map_drop, Int.reduceBEq, Int.reduceBNe, wrapN (show k < 4611686018427387904 by omega)]
    refine ⟨fun h => pWk_done rfl ⟨congrArg V.bool (bad2 k (by omega) (by simpa using h)).symm, rfl⟩, fun h7 => pWk_take rfl (nx (k + 1) ⟨by omega, fun j hj hji => ?_, fun j hj hji => ?_⟩ (by omega))⟩
    · rcases Nat.lt_succ_iff_lt_or_eq.1 hji with h' | h'
      · exact hno1 j hj h'
      · subst h'; simpa using h6
    · rcases Nat.lt_succ_iff_lt_or_eq.1 hji with h' | h'
      · exact hno2 j hj h'
      · subst h'; simpa using h7
  · refine pWk_done rfl ⟨congrArg V.bool ?_, rfl⟩
    have e1 : (b.fair.any fun x => !(within x 0 1000)) = false := by
      rw [List.any_eq_false]
      intro x hx
      obtain ⟨j, hj, rfl⟩ := List.getElem_of_mem hx
      simp [hno1 j hj (by omega)]
    have e2 : (b.taken.any fun x => !(within x 0 1000)) = false := by
      rw [List.any_eq_false]
      intro x hx
      obtain ⟨j, hj, rfl⟩ := List.getElem_of_mem hx
      simp [hno2 j hj (by omega)]
    simp at h1 h2 h3
    simp only [bookOk, pensOk, e1, e2, h1, h2, h3]; simp; omega
theorem k201 {b : Book} (hb : Sized b) {H : Heap} {K : V → Heap → Prop} (h : K (.bool (bookOk b)) H) : pCall Try.prog 201 [vBook b] H K :=
  pCall_pv rfl rfl (ct201 hb) h

structure Prot where
  team : Int
  game : Int
  valid : Bool
def vProt (p : Prot) : V := .agg [.i p.team, .i p.game, .bool p.valid]
def protOk (b : Book) (p : Prot) : Bool := bookOk b && within p.game 0 (b.games.length - 1) && (match b.games[p.game.toNat]? with
  | some g => within g.st 1 3 && plays p.team g
  | none => false)

end Go.Sim

set_option maxRecDepth 100000
set_option linter.unusedSimpArgs false
set_option linter.unusedVariables false
namespace Go.Sim
open Go.Proofs

theorem prot_get {l : List Game} {n : Int} (h : within n 0 (l.length - 1) = true) : ∃ g, l[n.toNat]? = some g ∧ g ∈ l ∧ 0 ≤ n ∧ n < l.length := by
  simp only [within, Bool.and_eq_true, decide_eq_true_eq] at h
  have hlt : n.toNat < l.length := by omega
  exact ⟨l[n.toNat], List.getElem?_eq_getElem hlt, List.getElem_mem _, by omega, by omega⟩

theorem ct63 {b : Book} {p : Prot} (hb : Sized b) : Pu Try.prog 63 [vBook b, vProt p] (.bool (protOk b p)) := by
  apply c63; unfold t63
  have hgl := hb.games
  have hbx := vBook_eq b
  simp only [go_sem, Nat.reduceAdd, Nat.reduceSub, Nat.reduceMul, Nat.reduceLeDiff, Nat.reduceLT, Nat.reduceEqDiff, ↓reduceIte, Nat.reducePow, reduceCtorEq, Int.reduceLE, Int.reduceLT, Int.reduceToNat, ← List.map_take, ← List.map_drop, Int.reduceBEq, Int.reduceBNe, hbx, vProt]
  refine k22 hb ?_
  simp only [go_sem, Nat.reduceAdd, Nat.reduceSub, Nat.reduceMul, Nat.reduceLeDiff, Nat.reduceLT, Nat.reduceEqDiff, ↓reduceIte, Nat.reducePow, reduceCtorEq, Int.reduceLE, Int.reduceLT, Int.reduceToNat, ← List.map_take, ← List.map_drop, Int.reduceBEq, Int.reduceBNe, wrap64 (n := (b.games.length : Int) - 1) (by omega) (by omega)]
  refine ⟨fun hok => ?_, fun h => pWk_done rfl ⟨by simp [nthV, protOk, h], rfl⟩⟩
  refine k139 ?_
  simp only [go_sem, Nat.reduceAdd, Nat.reduceSub, Nat.reduceMul, Nat.reduceLeDiff, Nat.reduceLT, Nat.reduceEqDiff, ↓reduceIte, Nat.reducePow, reduceCtorEq, Int.reduceLE, Int.reduceLT, Int.reduceToNat, ← List.map_take, ← List.map_drop, Int.reduceBEq, Int.reduceBNe]
  refine ⟨fun hw => ?_, fun h => pWk_done rfl ⟨by simp [nthV, protOk, h], rfl⟩⟩
  obtain ⟨g, hg, _, h0, hlt⟩ := prot_get hw
  simp only [go_sem, Nat.reduceAdd, Nat.reduceSub, Nat.reduceMul, Nat.reduceLeDiff, Nat.reduceLT, Nat.reduceEqDiff, ↓reduceIte, Nat.reducePow, reduceCtorEq, Int.reduceLE, Int.reduceLT, Int.reduceToNat, ← List.map_take, ← List.map_drop, Int.reduceBEq, Int.reduceBNe, List.getElem?_map, hg, vGame]
  refine ⟨h0, hlt, ?_⟩
  refine k139 ?_
  simp only [go_sem, Nat.reduceAdd, Nat.reduceSub, Nat.reduceMul, Nat.reduceLeDiff, Nat.reduceLT, Nat.reduceEqDiff, ↓reduceIte, Nat.reducePow, reduceCtorEq, Int.reduceLE, Int.reduceLT, Int.reduceToNat, ← List.map_take, ← List.map_drop, Int.reduceBEq, Int.reduceBNe, List.getElem?_map, hg, vGame]
  refine ⟨fun hs => ⟨h0, hlt, ?_⟩, fun h => pWk_done rfl ⟨by simp [nthV, protOk, hg, h], rfl⟩⟩
  refine k120 (g := g) ?_
  exact pWk_done rfl ⟨by simp [nthV, protOk, hg, hok, hw, hs, plays], rfl⟩
theorem k63 {b : Book} {p : Prot} (hb : Sized b) {H : Heap} {K : V → Heap → Prop} (h : K (.bool (protOk b p)) H) : pCall Try.prog 63 [vBook b, vProt p] H K :=
  pCall_pv rfl rfl (ct63 hb) h

theorem ct211 {b : Book} {p : Prot} (hb : Sized b) : Pu Try.prog 211 [vBook b, vProt p] (.bool (protOk b p)) := by
  apply c211; unfold t211
  have hgl := hb.games
  have hbx := vBook_eq b
  simp only [go_sem, Nat.reduceAdd, Nat.reduceSub, Nat.reduceMul, Nat.reduceLeDiff, Nat.reduceLT, Nat.reduceEqDiff, ↓reduceIte, Nat.reducePow, reduceCtorEq, Int.reduceLE, Int.reduceLT, Int.reduceToNat, ← List.map_take, ← List.map_drop, Int.reduceBEq, Int.reduceBNe, hbx, vProt]
  refine k201 hb ?_
  simp only [go_sem, Nat.reduceAdd, Nat.reduceSub, Nat.reduceMul, Nat.reduceLeDiff, Nat.reduceLT, Nat.reduceEqDiff, ↓reduceIte, Nat.reducePow, reduceCtorEq, Int.reduceLE, Int.reduceLT, Int.reduceToNat, ← List.map_take, ← List.map_drop, Int.reduceBEq, Int.reduceBNe, wrap64 (n := (b.games.length : Int) - 1) (by omega) (by omega)]
  refine ⟨fun h => pWk_done rfl ⟨by simp at h; simp [nthV, protOk, h], rfl⟩, fun hok => ?_⟩
  refine k202 ?_
  simp only [go_sem, Nat.reduceAdd, Nat.reduceSub, Nat.reduceMul, Nat.reduceLeDiff, Nat.reduceLT, Nat.reduceEqDiff, ↓reduceIte, Nat.reducePow, reduceCtorEq, Int.reduceLE, Int.reduceLT, Int.reduceToNat, ← List.map_take, ← List.map_drop, Int.reduceBEq, Int.reduceBNe]
  refine ⟨fun h => pWk_done rfl ⟨by simp at h; simp [nthV, protOk, h], rfl⟩, fun hw => ?_⟩
  simp only [Bool.not_eq_false'] at hok hw
  obtain ⟨g, hg, _, h0, hlt⟩ := prot_get hw
  simp only [go_sem, Nat.reduceAdd, Nat.reduceSub, Nat.reduceMul, Nat.reduceLeDiff, Nat.reduceLT, Nat.reduceEqDiff, ↓reduceIte, Nat.reducePow, reduceCtorEq, Int.reduceLE, Int.reduceLT, Int.reduceToNat, ← List.map_take, ← List.map_drop, Int.reduceBEq, Int.reduceBNe, List.getElem?_map, hg, vGame]
  refine ⟨h0, hlt, ?_⟩
  have e : protOk b p = (within g.st 1 3 && plays p.team g) := by simp [protOk, hg, hok, hw]
  rw [e]
  repeat' first | refine pWk_done rfl ⟨congrArg V.bool ?_, rfl⟩ | refine And.intro (fun h => ?_) (fun h => ?_)
  all_goals (simp_all [within, plays])
  all_goals (try (intros; omega))
theorem k211 {b : Book} {p : Prot} (hb : Sized b) {H : Heap} {K : V → Heap → Prop} (h : K (.bool (protOk b p)) H) : pCall Try.prog 211 [vBook b, vProt p] H K :=
  pCall_pv rfl rfl (ct211 hb) h

abbrev vProts (nn : Bool) (l : List Prot) : V := .sl nn 3 (l.map vProt)
abbrev zBook : V := .agg [(V.sl false 3 []), (V.int .i64 0), (V.int .i64 0), (V.int .i64 0), (V.sl false 1 []), (V.bool false), (V.sl false 5 []), (V.sl false 1 []), (V.sl false 1 [])]
def decG (aw : Game → Int → Game) (b : Book) (p : Prot) (gs : List Game) : List Game := match b.games[p.game.toNat]? with
  | some g => gs.set p.game.toNat (if p.valid then aw g p.team else g)
  | none => gs
def decB (aw : Game → Int → Game) (b : Book) (l : List Prot) : List Game := l.foldl (fun gs p => decG aw b p gs) b.games
def decOk (b : Book) (l : List Prot) : Bool := bookOk b && decide (l.length ≤ 6) && l.all (protOk b)
theorem decG_len {aw : Game → Int → Game} {b : Book} {p : Prot} {gs : List Game} : (decG aw b p gs).length = gs.length := by
  unfold decG; split <;> simp
theorem decB_len {aw : Game → Int → Game} {b : Book} {l : List Prot} : (decB aw b l).length = b.games.length := by
  unfold decB
  suffices ∀ gs : List Game, (l.foldl (fun gs p => decG aw b p gs) gs).length = gs.length from this _
  induction l with
  | nil => intro gs; rfl
  | cons p l ih => intro gs; rw [List.foldl_cons, ih, decG_len]
theorem decB_succ {aw : Game → Int → Game} {b : Book} {l : List Prot} {k : Nat} (h : k < l.length) : decB aw b (l.take (k + 1)) = decG aw b l[k] (decB aw b (l.take k)) := by
  unfold decB
  rw [List.take_succ_eq_append_getElem h, List.foldl_append]; rfl

theorem ct65 {b : Book} {nn : Bool} {l : List Prot} (hb : Sized b) (hn : Nils b) (hl : l.length < 2000000) : Ct Try.prog 65 [vBook b, vProts nn l] [] (fun v H => if decOk b l = true then v = .tup [rBook 0 b, .bool true] ∧ H = hBook { b with games := decB awardedG b l } else v = .tup [zBook, .bool false] ∧ H = []) := by
  apply c65; unfold t65
  have hbx := vBook_eq b
  have hgl := hb.games
  simp only [go_sem, Nat.reduceAdd, Nat.reduceSub, Nat.reduceMul, Nat.reduceLeDiff, Nat.reduceLT, Nat.reduceEqDiff, ↓reduceIte, Nat.reducePow, reduceCtorEq, Int.reduceLE, Int.reduceLT, Int.reduceToNat, ← List.map_take, ← List.map_drop, Int.reduceBEq, Int.reduceBNe, hbx]
  refine k22 hb ?_
  simp only [go_sem, Nat.reduceAdd, Nat.reduceSub, Nat.reduceMul, Nat.reduceLeDiff, Nat.reduceLT, Nat.reduceEqDiff, ↓reduceIte, Nat.reducePow, reduceCtorEq, Int.reduceLE, Int.reduceLT, Int.reduceToNat, ← List.map_take, ← List.map_drop, Int.reduceBEq, Int.reduceBNe]
  refine ⟨fun h => pWk_done rfl ?_, fun hok => ⟨fun h => pWk_done rfl ?_, fun hle => ?_⟩⟩
  · have : decOk b l = false := by simp at h; simp [decOk, h]
    rw [if_neg (by simp [this])]; exact ⟨rfl, rfl⟩
  · have : decOk b l = false := by simp [decOk]; intros; omega
    rw [if_neg (by simp [this])]; exact ⟨rfl, rfl⟩
  refine k119 hb hn ?_
  simp only [go_sem, Nat.reduceAdd, Nat.reduceSub, Nat.reduceMul, Nat.reduceLeDiff, Nat.reduceLT, Nat.reduceEqDiff, ↓reduceIte, Nat.reducePow, reduceCtorEq, Int.reduceLE, Int.reduceLT, Int.reduceToNat, ← List.map_take, ← List.map_drop, Int.reduceBEq, Int.reduceBNe, rBook, hBook]
  refine loop_st (fun k : Nat => ([V.i k], wdH b (decB awardedG b (l.take k)))) (fun k => k ≤ l.length ∧ (l.take k).all (protOk b) = true) (fun k => l.length - k) (pWk_take rfl ⟨0, ⟨by omega, by simp⟩, rfl, rfl⟩) ?_
  rintro μ k ⟨hk, hall⟩ nx
  simp only [go_sem, Nat.reduceAdd, Nat.reduceSub, Nat.reduceMul, Nat.reduceLeDiff, Nat.reduceLT, Nat.reduceEqDiff, ↓reduceIte, Nat.reducePow, reduceCtorEq, Int.reduceLE, Int.reduceLT, Int.reduceToNat, ← List.map_take, ← List.map_drop, Int.reduceBEq, Int.reduceBNe, wdH, Int.ofNat_lt, Int.ofNat_le, Int.natCast_nonneg, List.getElem?_map]
  refine ⟨fun hlt => ?_, fun hge => ?_⟩
  · have hx : l[k]? = some l[k] := List.getElem?_eq_getElem hlt
    have hsucc := decB_succ (aw := awardedG) (b := b) hlt
    have next := fun h => nx (k + 1) ⟨by omega, h⟩ (by omega)
    clear nx
    have hall' : protOk b l[k] = true → (l.take (k + 1)).all (protOk b) = true := fun h => by rw [all_take_succ hlt, hall, h]; rfl
    have hno : protOk b l[k] = false → decOk b l = false := fun h => by simp only [decOk, all_false_at hlt h]; simp
    generalize l[k] = p at hx hsucc hall' hno
    simp only [go_sem, Nat.reduceAdd, Nat.reduceSub, Nat.reduceMul, Nat.reduceLeDiff, Nat.reduceLT, Nat.reduceEqDiff, ↓reduceIte, Nat.reducePow, reduceCtorEq, Int.reduceLE, Int.reduceLT, Int.reduceToNat, ← List.map_take, ← List.map_drop, Int.reduceBEq, Int.reduceBNe, hx, vProt]
    refine ⟨by omega, ?_⟩
    refine k63 (p := p) hb ?_
    simp only [go_sem, Nat.reduceAdd, Nat.reduceSub, Nat.reduceMul, Nat.reduceLeDiff, Nat.reduceLT, Nat.reduceEqDiff, ↓reduceIte, Nat.reducePow, reduceCtorEq, Int.reduceLE, Int.reduceLT, Int.reduceToNat, ← List.map_take, ← List.map_drop, Int.reduceBEq, Int.reduceBNe]
    refine ⟨fun h => pWk_done rfl ?_, fun hp => ?_⟩
    · rw [if_neg (by rw [hno (by simpa using h)]; simp)]; exact ⟨rfl, rfl⟩
    simp only [Bool.not_eq_false'] at hp
    have hpw : within p.game 0 (b.games.length - 1) = true := by simp only [protOk, Bool.and_eq_true] at hp; exact hp.1.2
    obtain ⟨g, hg, _, h0, hlt2⟩ := prot_get hpw
    have hlen := decB_len (aw := awardedG) (b := b) (l := l.take k)
    have next := next (hall' hp)
    rw [hsucc] at next
    simp only [decG, hg] at next
    generalize decB awardedG b (l.take k) = gs at hlen next
    have hgs : gs[p.game.toNat]? = some (gs[p.game.toNat]'(by omega)) := List.getElem?_eq_getElem _
    simp only [go_sem, Nat.reduceAdd, Nat.reduceSub, Nat.reduceMul, Nat.reduceLeDiff, Nat.reduceLT, Nat.reduceEqDiff, ↓reduceIte, Nat.reducePow, reduceCtorEq, Int.reduceLE, Int.reduceLT, Int.reduceToNat, ← List.map_take, ← List.map_drop, Int.reduceBEq, Int.reduceBNe, List.getElem?_map, hg, hgs, vGame, hlen, List.length_map]
    refine ⟨h0, hlt2, h0, hlt2, fun hv => ⟨h0, hlt2, ?_⟩, fun hv => ?_⟩
    · rw [if_pos hv, wdH, List.map_set] at next
      refine k121 (g := g) ?_
      have hset : ((gs.map vGame).set p.game.toNat (V.agg [V.i g.home, V.i g.away, V.i g.hg, V.i g.ag, V.i g.st]))[p.game.toNat]? = some (V.agg [V.i g.home, V.i g.away, V.i g.hg, V.i g.ag, V.i g.st]) := List.getElem?_set_self (by simp; omega)
      simp only [go_sem, Nat.reduceAdd, Nat.reduceSub, Nat.reduceMul, Nat.reduceLeDiff, Nat.reduceLT, Nat.reduceEqDiff, ↓reduceIte, Nat.reducePow, reduceCtorEq, Int.reduceLE, Int.reduceLT, Int.reduceToNat, ← List.map_take, ← List.map_drop, Int.reduceBEq, Int.reduceBNe, List.getElem?_map, hset, hgs, vGame, hlen, List.length_map, List.length_set, List.set_set, wrapN (show k < 4611686018427387904 by omega)]
      refine ⟨h0, hlt2, ?_⟩
      exact pWk_take rfl next
    · rw [if_neg (by simp [hv]), wdH, List.map_set] at next
      simp only [go_sem, Nat.reduceAdd, Nat.reduceSub, Nat.reduceMul, Nat.reduceLeDiff, Nat.reduceLT, Nat.reduceEqDiff, ↓reduceIte, Nat.reducePow, reduceCtorEq, Int.reduceLE, Int.reduceLT, Int.reduceToNat, ← List.map_take, ← List.map_drop, Int.reduceBEq, Int.reduceBNe, wrapN (show k < 4611686018427387904 by omega)]
      exact pWk_take rfl next
  · have hkl : k = l.length := by omega
    subst hkl
    rw [List.take_length] at hall ⊢
    have : decOk b l = true := by simp at hok; simp only [decOk, hok, hall]; simp; omega
    refine pWk_kp [] [2, 3, 4, 5, 6] rfl ?_
    rw [if_pos this]
    exact ⟨rfl, rfl⟩

/-- A book whose slices are blocks from `n` on, as the reference lays them. -/
def sBook (n : Nat) (b : Book) : V := .agg [.ref n 0 b.field.length, .i b.rules.win, .i b.rules.draw, .i b.rules.loss, .ref (n + 1) 0 b.rules.ladder.length, .bool b.rules.again,
  .ref (n + 2) 0 b.games.length, .ref (n + 3) 0 b.fair.length, .ref (n + 4) 0 b.taken.length]
def gBook (b : Book) : Heap := [.sl true 178 3 (b.field.map vTeam), .sl true 3 1 (b.rules.ladder.map V.i), .sl true 40 5 (b.games.map vGame), .sl true 3 1 (b.fair.map V.i), .sl true 3 1 (b.taken.map V.i)]

theorem ct203 {b : Book} (hb : Sized b) : Ct Try.prog 203 [vBook b] [] (fun v H => v = sBook 0 b ∧ H = gBook b) := by
  apply c203; unfold t203
  have hbx := vBook_eq b
  have := hb.field
  have := hb.ladder
  have := hb.games
  have := hb.fair
  have := hb.taken
  simp only [go_sem, Nat.reduceAdd, Nat.reduceSub, Nat.reduceMul, Nat.reduceLeDiff, Nat.reduceLT, Nat.reduceEqDiff, ↓reduceIte, Nat.reducePow, reduceCtorEq, Int.reduceLE, Int.reduceLT, Int.reduceToNat, ← List.map_take, ← List.map_drop, Int.reduceBEq, Int.reduceBNe, hbx, List.length_map]
  exact ⟨by omega, by omega, by omega, by omega, by omega, pWk_kp [] [3, 5, 7, 9, 11] rfl ⟨rfl, rfl⟩⟩

theorem k203 {b : Book} {H : Heap} {K : V → Heap → Prop} (hb : Sized b) (hK : K (sBook H.length b) (H ++ gBook b)) : pCall Try.prog 203 [vBook b] H K := by
  refine pCall_new (ct203 hb) rfl ?_
  rintro _ _ ⟨rfl, rfl⟩
  have e1 : V.ren (backF [] H.length) (sBook 0 b) = sBook H.length b := by simp [sBook, V.ren, V.rens, backF]
  have e2 : (gBook b).map (Blk.ren (backF [] H.length)) = gBook b := rfl
  rw [e1, e2]; exact hK

def sdH (b : Book) (gs : List Game) : Heap := [.box 29 (.agg [vTeams b.fnn b.field, V.i b.rules.win, V.i b.rules.draw, V.i b.rules.loss, V.ints b.rules.lnn b.rules.ladder, V.bool b.rules.again, vGames b.gnn b.games, V.ints b.pnn b.fair, V.ints b.tnn b.taken]),
    .box 29 (.agg [V.sl false 3 [], V.int IntKind.i64 0, V.int IntKind.i64 0, V.int IntKind.i64 0, V.sl false 1 [], V.bool false, V.sl false 5 [], V.sl false 1 [], V.sl false 1 []]),
    .sl true 178 3 (b.field.map vTeam), .sl true 3 1 (b.rules.ladder.map V.i), .sl true 40 5 (gs.map vGame), .sl true 3 1 (b.fair.map V.i), .sl true 3 1 (b.taken.map V.i),
    .box 29 (.agg [V.ref 2 0 b.field.length, V.i b.rules.win, V.i b.rules.draw, V.i b.rules.loss, V.ref 3 0 b.rules.ladder.length, V.bool b.rules.again, V.ref 4 0 b.games.length, V.ref 5 0 b.fair.length, V.ref 6 0 b.taken.length])]

theorem ct94 {b : Book} {nn : Bool} {l : List Prot} (hb : Sized b) (hl : l.length < 2000000) : Ct Try.prog 94 [vBook b, vProts nn l] [] (fun v H => if decOk b l = true then v = .tup [sBook 0 b, .bool true] ∧ H = gBook { b with games := decB awardedS b l } else v = .tup [zBook, .bool false] ∧ H = []) := by
  apply c94; unfold t94
  have hbx := vBook_eq b
  have hgl := hb.games
  simp only [go_sem, Nat.reduceAdd, Nat.reduceSub, Nat.reduceMul, Nat.reduceLeDiff, Nat.reduceLT, Nat.reduceEqDiff, ↓reduceIte, Nat.reducePow, reduceCtorEq, Int.reduceLE, Int.reduceLT, Int.reduceToNat, ← List.map_take, ← List.map_drop, Int.reduceBEq, Int.reduceBNe, hbx]
  refine k201 hb ?_
  simp only [go_sem, Nat.reduceAdd, Nat.reduceSub, Nat.reduceMul, Nat.reduceLeDiff, Nat.reduceLT, Nat.reduceEqDiff, ↓reduceIte, Nat.reducePow, reduceCtorEq, Int.reduceLE, Int.reduceLT, Int.reduceToNat, ← List.map_take, ← List.map_drop, Int.reduceBEq, Int.reduceBNe]
  refine ⟨fun h => pWk_done rfl ?_, fun hok => ⟨fun h => pWk_done rfl ?_, fun hle => ?_⟩⟩
  · have : decOk b l = false := by simp at h; simp [decOk, h]
    rw [if_neg (by simp [this])]; exact ⟨rfl, rfl⟩
  · have : decOk b l = false := by simp [decOk]; intros; omega
    rw [if_neg (by simp [this])]; exact ⟨rfl, rfl⟩
  refine k203 hb ?_
  simp only [go_sem, Nat.reduceAdd, Nat.reduceSub, Nat.reduceMul, Nat.reduceLeDiff, Nat.reduceLT, Nat.reduceEqDiff, ↓reduceIte, Nat.reducePow, reduceCtorEq, Int.reduceLE, Int.reduceLT, Int.reduceToNat, ← List.map_take, ← List.map_drop, Int.reduceBEq, Int.reduceBNe, sBook, gBook]
  refine loop_st (fun k : Nat => ([V.i k], sdH b (decB awardedS b (l.take k)))) (fun k => k ≤ l.length ∧ (l.take k).all (protOk b) = true) (fun k => l.length - k) (pWk_take rfl ⟨0, ⟨by omega, by simp⟩, rfl, rfl⟩) ?_
  rintro μ k ⟨hk, hall⟩ nx
  simp only [go_sem, Nat.reduceAdd, Nat.reduceSub, Nat.reduceMul, Nat.reduceLeDiff, Nat.reduceLT, Nat.reduceEqDiff, ↓reduceIte, Nat.reducePow, reduceCtorEq, Int.reduceLE, Int.reduceLT, Int.reduceToNat, ← List.map_take, ← List.map_drop, Int.reduceBEq, Int.reduceBNe, sdH, Int.ofNat_lt, Int.ofNat_le, Int.natCast_nonneg, List.getElem?_map]
  refine ⟨fun hlt => ?_, fun hge => ?_⟩
  · have hx : l[k]? = some l[k] := List.getElem?_eq_getElem hlt
    have hsucc := decB_succ (aw := awardedS) (b := b) hlt
    have next := fun h => nx (k + 1) ⟨by omega, h⟩ (by omega)
    clear nx
    have hall' : protOk b l[k] = true → (l.take (k + 1)).all (protOk b) = true := fun h => by rw [all_take_succ hlt, hall, h]; rfl
    have hno : protOk b l[k] = false → decOk b l = false := fun h => by simp only [decOk, all_false_at hlt h]; simp
    generalize l[k] = p at hx hsucc hall' hno
    simp only [go_sem, Nat.reduceAdd, Nat.reduceSub, Nat.reduceMul, Nat.reduceLeDiff, Nat.reduceLT, Nat.reduceEqDiff, ↓reduceIte, Nat.reducePow, reduceCtorEq, Int.reduceLE, Int.reduceLT, Int.reduceToNat, ← List.map_take, ← List.map_drop, Int.reduceBEq, Int.reduceBNe, hx, vProt]
    refine ⟨by omega, ?_⟩
    refine k211 (p := p) hb ?_
    simp only [go_sem, Nat.reduceAdd, Nat.reduceSub, Nat.reduceMul, Nat.reduceLeDiff, Nat.reduceLT, Nat.reduceEqDiff, ↓reduceIte, Nat.reducePow, reduceCtorEq, Int.reduceLE, Int.reduceLT, Int.reduceToNat, ← List.map_take, ← List.map_drop, Int.reduceBEq, Int.reduceBNe]
    refine ⟨fun h => pWk_done rfl ?_, fun hp => ?_⟩
    · rw [if_neg (by rw [hno (by simpa using h)]; simp)]; exact ⟨rfl, rfl⟩
    simp only [Bool.not_eq_false'] at hp
    have hpw : within p.game 0 (b.games.length - 1) = true := by simp only [protOk, Bool.and_eq_true] at hp; exact hp.1.2
    obtain ⟨g, hg, _, h0, hlt2⟩ := prot_get hpw
    have hlen := decB_len (aw := awardedS) (b := b) (l := l.take k)
    have next := next (hall' hp)
    rw [hsucc] at next
    simp only [decG, hg] at next
    generalize decB awardedS b (l.take k) = gs at hlen next
    have hgs : gs[p.game.toNat]? = some (gs[p.game.toNat]'(by omega)) := List.getElem?_eq_getElem _
    simp only [go_sem, Nat.reduceAdd, Nat.reduceSub, Nat.reduceMul, Nat.reduceLeDiff, Nat.reduceLT, Nat.reduceEqDiff, ↓reduceIte, Nat.reducePow, reduceCtorEq, Int.reduceLE, Int.reduceLT, Int.reduceToNat, ← List.map_take, ← List.map_drop, Int.reduceBEq, Int.reduceBNe, List.getElem?_map, hg, hgs, vGame, hlen, List.length_map, wrapN (show k < 4611686018427387904 by omega)]
    refine ⟨fun hv => ⟨h0, hlt2, ?_⟩, fun hv => ⟨h0, hlt2, h0, hlt2, ?_⟩⟩
    · rw [if_pos hv, sdH, List.map_set] at next
      refine k204 (g := g) ?_
      simp only [go_sem, Nat.reduceAdd, Nat.reduceSub, Nat.reduceMul, Nat.reduceLeDiff, Nat.reduceLT, Nat.reduceEqDiff, ↓reduceIte, Nat.reducePow, reduceCtorEq, Int.reduceLE, Int.reduceLT, Int.reduceToNat, ← List.map_take, ← List.map_drop, Int.reduceBEq, Int.reduceBNe, List.getElem?_map, hgs, vGame, hlen, List.length_map, List.length_set, wrapN (show k < 4611686018427387904 by omega)]
      refine ⟨h0, hlt2, ?_⟩
      exact pWk_take rfl next
    · rw [if_neg (by simp [hv]), sdH, List.map_set] at next
      exact pWk_take rfl next
  · have hkl : k = l.length := by omega
    subst hkl
    rw [List.take_length] at hall ⊢
    have : decOk b l = true := by simp at hok; simp only [decOk, hok, hall]; simp; omega
    refine pWk_kp [] [2, 3, 4, 5, 6] rfl ?_
    rw [if_pos this]
    exact ⟨rfl, rfl⟩

/-- For a protest that holds, both ways of awarding a game are one. -/
theorem awarded_eq {g : Game} {t : Int} (hp : plays t g = true) (hne : g.home ≠ g.away) : awardedS g t = awardedG g t := by
  simp only [plays, Bool.or_eq_true, beq_iff_eq] at hp
  unfold awardedS awardedG
  rcases hp with h | h
  · have : ¬ g.away = t := fun e => hne (h.trans e.symm)
    simp [h, this]
  · have : ¬ g.home = t := fun e => hne (e.trans h.symm)
    simp [h, this]
theorem decG_eq {b : Book} {p : Prot} {gs : List Game} (h : protOk b p = true) : decG awardedS b p gs = decG awardedG b p gs := by
  simp only [protOk, Bool.and_eq_true] at h
  obtain ⟨g, hg, hm, _⟩ := prot_get h.1.2
  have h2 := h.2
  simp only [hg, Bool.and_eq_true] at h2
  simp only [decG, hg]
  rw [awarded_eq h2.2]
  have := gameOk_bounds (game_bounds h.1.1 hm)
  omega
theorem decB_eq {b : Book} {l : List Prot} (h : decOk b l = true) : decB awardedS b l = decB awardedG b l := by
  simp only [decOk, Bool.and_eq_true, List.all_eq_true] at h
  replace h := h.2
  unfold decB
  generalize b.games = gs
  induction l generalizing gs with
  | nil => rfl
  | cons p l ih =>
    rw [List.foldl_cons, List.foldl_cons, decG_eq (h p List.mem_cons_self)]
    exact ih (fun x hx => h x (List.mem_cons_of_mem _ hx)) _

end Go.Sim

set_option maxRecDepth 100000
set_option linter.unusedSimpArgs false
set_option linter.unusedVariables false
namespace Go.Sim
open Go.Proofs

/-- A call of a function that sees the rows of the blocks `vw` and makes new blocks. -/
theorem pCall_lend {P : Program} {k : FuncId} {args args' : List V} {H : Heap} {K : V → Heap → Prop} {Q : V → Heap → Prop} (vw : List Nat) (hct : Ct P k args' [] Q) (hv : args.map (·.view (vwOf H vw)) = args') (hs : V.inKs [] args' = true)
    (hf : ∀ r H', Q r H' → r.flat = true ∧ ∀ k ∈ H', k.flat = true) (hK : ∀ r H', Q r H' → K (r.ren (backF [] H.length)) (H ++ H'.map (Blk.ren (backF [] H.length)))) : pCall P k args H K := by
  refine pCall_use true [] vw [] (args' := args') (Hs := []) ?_ rfl ?_ (hct.mono ?_)
  · rw [frzL, hv, ← V.rens_map, rens_inK args' hs]
  · simp only [heldB, frzL, hv, hs, nodupB, List.all_nil, Bool.and_true]
    simp
  · intro v H' hq
    refine ⟨fun _ => hf _ _ hq, ?_⟩
    rw [frzL, mergeH_new]
    exact hK _ _ hq

/-- The same book, none of its slices nil. -/
def tt (b : Book) : Book := { b with fnn := true, rules := { b.rules with lnn := true }, gnn := true, pnn := true, tnn := true }
theorem tt_sized {b : Book} (h : Sized b) : Sized (tt b) := ⟨h.field, h.names, h.ladder, h.games, h.fair, h.taken⟩
theorem tt_nils (b : Book) : Nils (tt b) := ⟨fun h => (by cases h), fun h => (by cases h), fun h => (by cases h), fun h => (by cases h), fun h => (by cases h)⟩

theorem eq_two {α : Type} {a b c d : α} (h : a = c) (g : b = d) : [a, b] = [c, d] := by rw [h, g]
theorem view_ref {f : Nat → Option (Bool × Nat × List V)} {n s : Nat} {nn : Bool} {rows : List V} {len : Nat} (h : f n = some (nn, s, rows)) (hl : rows.length = len) : (V.ref n 0 len).view f = .sl nn s rows := by
  simp only [V.view, h]
  subst hl
  simp
theorem view_sBook {f : Nat → Option (Bool × Nat × List V)} {n : Nat} {b : Book} (h0 : f n = some (true, 3, b.field.map vTeam)) (h1 : f (n + 1) = some (true, 1, b.rules.ladder.map V.i)) (h2 : f (n + 2) = some (true, 5, b.games.map vGame))
    (h3 : f (n + 3) = some (true, 1, b.fair.map V.i)) (h4 : f (n + 4) = some (true, 1, b.taken.map V.i)) : (sBook n b).view f = vBook (tt b) := by
  simp [sBook, V.view, V.views, h0, h1, h2, h3, h4, vBook, tt, List.take_of_length_le]
theorem view_rBook {f : Nat → Option (Bool × Nat × List V)} {n : Nat} {b : Book} (h0 : f n = some (b.fnn, 3, b.field.map vTeam)) (h1 : f (n + 1) = some (b.gnn, 5, b.games.map vGame)) (h2 : f (n + 2) = some (b.pnn, 1, b.fair.map V.i))
    (h3 : f (n + 3) = some (b.tnn, 1, b.taken.map V.i)) (h4 : f (n + 4) = some (b.rules.lnn, 1, b.rules.ladder.map V.i)) : (rBook n b).view f = vBook b := by
  simp [rBook, V.view, V.views, h0, h1, h2, h3, h4, vBook, List.take_of_length_le]

theorem view_sBookG {f : Nat → Option (Bool × Nat × List V)} {n : Nat} {b : Book} {gs : List Game} (hl : gs.length = b.games.length) (h0 : f n = some (true, 3, b.field.map vTeam)) (h1 : f (n + 1) = some (true, 1, b.rules.ladder.map V.i)) (h2 : f (n + 2) = some (true, 5, gs.map vGame))
    (h3 : f (n + 3) = some (true, 1, b.fair.map V.i)) (h4 : f (n + 4) = some (true, 1, b.taken.map V.i)) : (sBook n b).view f = vBook (tt { b with games := gs }) := by
  have : sBook n b = sBook n { b with games := gs } := by simp only [sBook, hl]
  rw [this]
  exact view_sBook h0 h1 h2 h3 h4
theorem view_rBookG {f : Nat → Option (Bool × Nat × List V)} {n : Nat} {b : Book} {gs : List Game} (hl : gs.length = b.games.length) (h0 : f n = some (b.fnn, 3, b.field.map vTeam)) (h1 : f (n + 1) = some (b.gnn, 5, gs.map vGame)) (h2 : f (n + 2) = some (b.pnn, 1, b.fair.map V.i))
    (h3 : f (n + 3) = some (b.tnn, 1, b.taken.map V.i)) (h4 : f (n + 4) = some (b.rules.lnn, 1, b.rules.ladder.map V.i)) : (rBook n b).view f = vBook { b with games := gs } := by
  have : rBook n b = rBook n { b with games := gs } := by simp only [rBook, hl]
  rw [this]
  exact view_rBook h0 h1 h2 h3 h4

theorem vTeam_flat (t : Team) : (vTeam t).flat = true := rfl
theorem vGame_flat (t : Game) : (vGame t).flat = true := rfl
theorem flats_map {α : Type} {enc : α → V} (he : ∀ x, (enc x).flat = true) (l : List α) : V.flats (l.map enc) = true := V.flats_iff.2 fun v hv => by
  obtain ⟨x, _, rfl⟩ := List.mem_map.1 hv
  exact he x
theorem gBook_flat (b : Book) : ∀ k ∈ gBook b, k.flat = true := by
  intro k hk
  simp only [gBook, List.mem_cons, List.not_mem_nil, or_false] at hk
  rcases hk with rfl | rfl | rfl | rfl | rfl <;> first | exact flats_map vTeam_flat _ | exact flats_map vGame_flat _ | exact flats_map (fun _ => rfl) _
theorem hBook_flat (b : Book) : ∀ k ∈ hBook b, k.flat = true := by
  intro k hk
  simp only [hBook, List.mem_cons, List.not_mem_nil, or_false] at hk
  rcases hk with rfl | rfl | rfl | rfl | rfl <;> first | exact flats_map vTeam_flat _ | exact flats_map vGame_flat _ | exact flats_map (fun _ => rfl) _

theorem k94 {b : Book} {nn : Bool} {l : List Prot} {H : Heap} {K : V → Heap → Prop} {args : List V} (vw : List Nat) (hb : Sized b) (hl : l.length < 2000000) (hv : args.map (·.view (vwOf H vw)) = [vBook b, vProts nn l])
    (h1 : decOk b l = true → K (.tup [sBook H.length b, .bool true]) (H ++ gBook { b with games := decB awardedS b l })) (h0 : decOk b l = false → K (.tup [zBook, .bool false]) H) : pCall Try.prog 94 args H K := by
  refine pCall_lend vw (ct94 (nn := nn) hb hl) hv rfl ?_ ?_
  · intro r H' hq
    by_cases h : decOk b l = true
    · rw [if_pos h] at hq; obtain ⟨rfl, rfl⟩ := hq; exact ⟨rfl, gBook_flat _⟩
    · rw [if_neg h] at hq; obtain ⟨rfl, rfl⟩ := hq; exact ⟨rfl, fun k hk => by cases hk⟩
  · intro r H' hq
    by_cases h : decOk b l = true
    · rw [if_pos h] at hq; obtain ⟨rfl, rfl⟩ := hq
      have e1 : V.ren (backF [] H.length) (.tup [sBook 0 b, .bool true]) = .tup [sBook H.length b, .bool true] := by simp [sBook, V.ren, V.rens, backF]
      rw [e1]; exact h1 h
    · rw [if_neg h] at hq; obtain ⟨rfl, rfl⟩ := hq
      have := h0 (by simpa using h)
      simpa [V.ren, V.rens] using this
theorem k65 {b : Book} {nn : Bool} {l : List Prot} {H : Heap} {K : V → Heap → Prop} {args : List V} (vw : List Nat) (hb : Sized b) (hn : Nils b) (hl : l.length < 2000000) (hv : args.map (·.view (vwOf H vw)) = [vBook b, vProts nn l])
    (h1 : decOk b l = true → K (.tup [rBook H.length b, .bool true]) (H ++ hBook { b with games := decB awardedG b l })) (h0 : decOk b l = false → K (.tup [zBook, .bool false]) H) : pCall Try.prog 65 args H K := by
  refine pCall_lend vw (ct65 (nn := nn) hb hn hl) hv rfl ?_ ?_
  · intro r H' hq
    by_cases h : decOk b l = true
    · rw [if_pos h] at hq; obtain ⟨rfl, rfl⟩ := hq; exact ⟨rfl, hBook_flat _⟩
    · rw [if_neg h] at hq; obtain ⟨rfl, rfl⟩ := hq; exact ⟨rfl, fun k hk => by cases hk⟩
  · intro r H' hq
    by_cases h : decOk b l = true
    · rw [if_pos h] at hq; obtain ⟨rfl, rfl⟩ := hq
      have e1 : V.ren (backF [] H.length) (.tup [rBook 0 b, .bool true]) = .tup [rBook H.length b, .bool true] := by simp [rBook, V.ren, V.rens, backF]
      rw [e1]; exact h1 h
    · rw [if_neg h] at hq; obtain ⟨rfl, rfl⟩ := hq
      have := h0 (by simpa using h)
      simpa [V.ren, V.rens] using this

def chg (a b : Book) (x : Int) : Bool := !(match a.games[x.toNat]?, b.games[x.toNat]? with
  | some g, some h => sameGame g h
  | _, _ => false)
theorem changed_eq (a b : Book) : changed a b = (upTo (min a.games.length b.games.length)).filter (chg a b) := rfl
theorem ct174 {a b : Book} (ha : Sized a) (hb : Sized b) : Ct Try.prog 174 [vBook a, vBook b] [] (fun v H => v = .ref 0 0 (changed a b).length ∧ H = [.sl true 3 1 ((changed a b).map V.i)]) := by
  apply c174; unfold t174
  have h1 := ha.games
  have h2 := hb.games
  let boxes : Heap := [Blk.box 29 (vBook a), Blk.box 29 (vBook b)]
  let cs := fun k : Nat => (upTo k).filter (chg a b)
  have csl : ∀ k, (cs k).length ≤ k := fun k => by
    have := List.length_filter_le (chg a b) (upTo k)
    rw [upTo_len] at this; exact this
  simp only [go_sem, Nat.reduceAdd, Nat.reduceSub, Nat.reduceMul, Nat.reduceLeDiff, Nat.reduceLT, Nat.reduceEqDiff, ↓reduceIte, Nat.reducePow, reduceCtorEq, Int.reduceLE, Int.reduceLT, Int.reduceToNat, ← List.map_take, ← List.map_drop, Int.reduceBEq, Int.reduceBNe, vBook_eq]
  refine loop_st (fun k : Nat => ([V.ref 3 0 (cs k).length, V.i k], boxes ++ [.dead, Blk.sl true 3 1 ((cs k).map V.i)])) (fun k => k ≤ min a.games.length b.games.length) (fun k => min a.games.length b.games.length - k) (pWk_mv [2] rfl ⟨0, by omega, rfl, rfl⟩) ?_
  rintro μ k hk nx
  have hcl := csl k
  have hsucc : cs (k + 1) = cs k ++ (if chg a b (k : Int) = true then [(k : Int)] else []) := by
    simp only [cs, upTo_succ, List.filter_append]
    congr 1
    by_cases h : chg a b (k : Int) = true
    · rw [if_pos h, List.filter_cons_of_pos h]; rfl
    · rw [if_neg h, List.filter_cons_of_neg h]; rfl
  have next := nx (k + 1)
  have fin : cs (min a.games.length b.games.length) = changed a b := rfl
  simp only [boxes] at next ⊢
  have hmin : (if (b.games.length : Int) < a.games.length then (b.games.length : Int) else a.games.length) = ((min a.games.length b.games.length : Nat) : Int) := by split <;> omega
  simp only [go_sem, Nat.reduceAdd, Nat.reduceSub, Nat.reduceMul, Nat.reduceLeDiff, Nat.reduceLT, Nat.reduceEqDiff, ↓reduceIte, Nat.reducePow, reduceCtorEq, Int.reduceLE, Int.reduceLT, Int.reduceToNat, ← List.map_take, ← List.map_drop, Int.reduceBEq, Int.reduceBNe, vBook_eq, hmin, Int.ofNat_lt, Int.natCast_nonneg, List.getElem?_map]
  refine ⟨fun hlt => ?_, fun hge => ?_⟩
  · have g1 : a.games[k]? = some (a.games[k]'(by omega)) := List.getElem?_eq_getElem _
    have g2 : b.games[k]? = some (b.games[k]'(by omega)) := List.getElem?_eq_getElem _
    have hch : chg a b (k : Int) = !(sameGame (a.games[k]'(by omega)) (b.games[k]'(by omega))) := by simp only [chg, Int.toNat_natCast, g1, g2]
    have next := next (by omega) (by omega)
    rw [hsucc] at next
    generalize a.games[k]'(by omega) = x at g1 hch
    generalize b.games[k]'(by omega) = y at g2 hch
    generalize cs k = c at *
    simp only [go_sem, Nat.reduceAdd, Nat.reduceSub, Nat.reduceMul, Nat.reduceLeDiff, Nat.reduceLT, Nat.reduceEqDiff, ↓reduceIte, Nat.reducePow, reduceCtorEq, Int.reduceLE, Int.reduceLT, Int.reduceToNat, ← List.map_take, ← List.map_drop, Int.reduceBEq, Int.reduceBNe, g1, g2, vGame, eqCells, eqLeaf, wrapN (show k < 4611686018427387904 by omega), Int.ofNat_lt]
    refine ⟨by omega, by omega, fun hd => ⟨by omega, ?_⟩, fun hd => ?_⟩
    · rw [if_pos (by rw [hch]; exact hd), List.map_append, List.length_append] at next
      exact pWk_mv [5] rfl next
    · rw [if_neg (by rw [hch]; simp only [Bool.not_eq_true]; exact hd), List.append_nil] at next
      exact pWk_mv [3] rfl next
  · have : k = min a.games.length b.games.length := by omega
    subst this
    rw [fin]
    exact pWk_kp [] [3] rfl ⟨rfl, rfl⟩

theorem ch_flat (l : List Int) : ∀ k ∈ [Blk.sl true 3 1 (l.map V.i)], k.flat = true := by
  intro k hk
  rw [List.mem_singleton] at hk
  subst hk
  exact flats_map (fun _ => rfl) _

/-- Whether the order of two protests matters. -/
def omV (b : Book) (p q : Prot) : Bool := decOk b [p, q] && (decOk b [q, p] && decide (0 < (changed { b with games := decB awardedG b [p, q] } { b with games := decB awardedG b [q, p] }).length))

theorem dec_sized {aw : Game → Int → Game} {b : Book} {l : List Prot} (h : Sized b) : Sized { b with games := decB aw b l } := ⟨h.field, h.names, h.ladder, by simp only [decB_len]; exact h.games, h.fair, h.taken⟩
theorem chg_tt {a b : Book} : changed (tt a) (tt b) = changed a b := rfl

theorem om_eq {b : Book} {p q : Prot} (h1 : decOk b [p, q] = true) (h2 : decOk b [q, p] = true) : omV b p q = decide (0 < (changed { b with games := decB awardedG b [p, q] } { b with games := decB awardedG b [q, p] }).length) := by
  simp only [omV, h1, h2]; rfl
theorem om_no1 {b : Book} {p q : Prot} (h1 : decOk b [p, q] = false) : omV b p q = false := by simp only [omV, h1]; rfl
theorem om_no2 {b : Book} {p q : Prot} (h1 : decOk b [q, p] = false) : omV b p q = false := by simp only [omV, h1]; simp

theorem ct57 {b : Book} {p q : Prot} (hb : Sized b) : Pu Try.prog 57 [vBook b, vProt p, vProt q] (.bool (omV b p q)) := by
  apply c57; unfold t57
  simp only [go_sem, Nat.reduceAdd, Nat.reduceSub, Nat.reduceMul, Nat.reduceLeDiff, Nat.reduceLT, Nat.reduceEqDiff, ↓reduceIte, Nat.reducePow, reduceCtorEq, Int.reduceLE, Int.reduceLT, Int.reduceToNat, ← List.map_take, ← List.map_drop, Int.reduceBEq, Int.reduceBNe, vBook_eq, vProt]
  refine k94 (b := b) (nn := true) (l := [p, q]) [3] hb (by simp) rfl (fun h1 => ?_) (fun h1 => ?_)
  · simp only [go_sem, Nat.reduceAdd, Nat.reduceSub, Nat.reduceMul, Nat.reduceLeDiff, Nat.reduceLT, Nat.reduceEqDiff, ↓reduceIte, Nat.reducePow, reduceCtorEq, Int.reduceLE, Int.reduceLT, Int.reduceToNat, ← List.map_take, ← List.map_drop, Int.reduceBEq, Int.reduceBNe, sBook, gBook]
    refine k94 (b := b) (nn := true) (l := [q, p]) [10] hb (by simp) rfl (fun h2 => ?_) (fun h2 => ?_)
    · simp only [go_sem, Nat.reduceAdd, Nat.reduceSub, Nat.reduceMul, Nat.reduceLeDiff, Nat.reduceLT, Nat.reduceEqDiff, ↓reduceIte, Nat.reducePow, reduceCtorEq, Int.reduceLE, Int.reduceLT, Int.reduceToNat, ← List.map_take, ← List.map_drop, Int.reduceBEq, Int.reduceBNe, sBook, gBook]
      refine pCall_lend [4, 5, 6, 7, 8, 11, 12, 13, 14, 15] (ct174 (tt_sized (dec_sized (aw := awardedS) (l := [p, q]) hb)) (tt_sized (dec_sized (aw := awardedS) (l := [q, p]) hb)))
        (eq_two (view_sBookG (n := 4) (b := b) decB_len rfl rfl rfl rfl rfl) (view_sBookG (n := 11) (b := b) decB_len rfl rfl rfl rfl rfl)) rfl ?_ ?_
      · rintro _ _ ⟨rfl, rfl⟩; exact ⟨rfl, ch_flat _⟩
      · rintro _ _ ⟨rfl, rfl⟩
        rw [om_eq h1 h2, chg_tt, decB_eq h1, decB_eq h2]
        simp only [go_sem, Nat.reduceAdd, Nat.reduceSub, Nat.reduceMul, Nat.reduceLeDiff, Nat.reduceLT, Nat.reduceEqDiff, ↓reduceIte, Nat.reducePow, reduceCtorEq, Int.reduceLE, Int.reduceLT, Int.reduceToNat, ← List.map_take, ← List.map_drop, Int.reduceBEq, Int.reduceBNe]
        exact pWk_done rfl ⟨by simp [nthV], rfl⟩
    · simp only [go_sem, Nat.reduceAdd, Nat.reduceSub, Nat.reduceMul, Nat.reduceLeDiff, Nat.reduceLT, Nat.reduceEqDiff, ↓reduceIte, Nat.reducePow, reduceCtorEq, Int.reduceLE, Int.reduceLT, Int.reduceToNat, ← List.map_take, ← List.map_drop, Int.reduceBEq, Int.reduceBNe]
      exact pWk_done rfl ⟨by rw [om_no2 h2]; rfl, rfl⟩
  · simp only [go_sem, Nat.reduceAdd, Nat.reduceSub, Nat.reduceMul, Nat.reduceLeDiff, Nat.reduceLT, Nat.reduceEqDiff, ↓reduceIte, Nat.reducePow, reduceCtorEq, Int.reduceLE, Int.reduceLT, Int.reduceToNat, ← List.map_take, ← List.map_drop, Int.reduceBEq, Int.reduceBNe]
    refine k94 (b := b) (nn := true) (l := [q, p]) [5] hb (by simp) rfl (fun h2 => ?_) (fun h2 => ?_)
    · simp only [go_sem, Nat.reduceAdd, Nat.reduceSub, Nat.reduceMul, Nat.reduceLeDiff, Nat.reduceLT, Nat.reduceEqDiff, ↓reduceIte, Nat.reducePow, reduceCtorEq, Int.reduceLE, Int.reduceLT, Int.reduceToNat, ← List.map_take, ← List.map_drop, Int.reduceBEq, Int.reduceBNe, sBook, gBook]
      exact pWk_done rfl ⟨by rw [om_no1 h1]; rfl, rfl⟩
    · simp only [go_sem, Nat.reduceAdd, Nat.reduceSub, Nat.reduceMul, Nat.reduceLeDiff, Nat.reduceLT, Nat.reduceEqDiff, ↓reduceIte, Nat.reducePow, reduceCtorEq, Int.reduceLE, Int.reduceLT, Int.reduceToNat, ← List.map_take, ← List.map_drop, Int.reduceBEq, Int.reduceBNe]
      exact pWk_done rfl ⟨by rw [om_no1 h1]; rfl, rfl⟩

theorem ct60 {b : Book} {p q : Prot} (hb : Sized b) (hn : Nils b) : Pu Try.prog 60 [vBook b, vProt p, vProt q] (.bool (omV b p q)) := by
  apply c60; unfold t60
  simp only [go_sem, Nat.reduceAdd, Nat.reduceSub, Nat.reduceMul, Nat.reduceLeDiff, Nat.reduceLT, Nat.reduceEqDiff, ↓reduceIte, Nat.reducePow, reduceCtorEq, Int.reduceLE, Int.reduceLT, Int.reduceToNat, ← List.map_take, ← List.map_drop, Int.reduceBEq, Int.reduceBNe, vBook_eq, vProt]
  refine k65 (b := b) (nn := true) (l := [p, q]) [3] hb hn (by simp) rfl (fun h1 => ?_) (fun h1 => ?_)
  · simp only [go_sem, Nat.reduceAdd, Nat.reduceSub, Nat.reduceMul, Nat.reduceLeDiff, Nat.reduceLT, Nat.reduceEqDiff, ↓reduceIte, Nat.reducePow, reduceCtorEq, Int.reduceLE, Int.reduceLT, Int.reduceToNat, ← List.map_take, ← List.map_drop, Int.reduceBEq, Int.reduceBNe, rBook, hBook]
    refine k65 (b := b) (nn := true) (l := [q, p]) [10] hb hn (by simp) rfl (fun h2 => ?_) (fun h2 => ?_)
    · simp only [go_sem, Nat.reduceAdd, Nat.reduceSub, Nat.reduceMul, Nat.reduceLeDiff, Nat.reduceLT, Nat.reduceEqDiff, ↓reduceIte, Nat.reducePow, reduceCtorEq, Int.reduceLE, Int.reduceLT, Int.reduceToNat, ← List.map_take, ← List.map_drop, Int.reduceBEq, Int.reduceBNe, rBook, hBook]
      refine pCall_lend [4, 5, 6, 7, 8, 11, 12, 13, 14, 15] (ct26 (dec_sized (aw := awardedG) (l := [p, q]) hb) (dec_sized (aw := awardedG) (l := [q, p]) hb))
        (eq_two (view_rBookG (n := 4) (b := b) decB_len rfl rfl rfl rfl rfl) (view_rBookG (n := 11) (b := b) decB_len rfl rfl rfl rfl rfl)) rfl ?_ ?_
      · rintro _ _ ⟨rfl, rfl⟩; exact ⟨rfl, ch_flat _⟩
      · rintro _ _ ⟨rfl, rfl⟩
        rw [om_eq h1 h2]
        simp only [go_sem, Nat.reduceAdd, Nat.reduceSub, Nat.reduceMul, Nat.reduceLeDiff, Nat.reduceLT, Nat.reduceEqDiff, ↓reduceIte, Nat.reducePow, reduceCtorEq, Int.reduceLE, Int.reduceLT, Int.reduceToNat, ← List.map_take, ← List.map_drop, Int.reduceBEq, Int.reduceBNe]
        exact pWk_done rfl ⟨by simp [nthV], rfl⟩
    · simp only [go_sem, Nat.reduceAdd, Nat.reduceSub, Nat.reduceMul, Nat.reduceLeDiff, Nat.reduceLT, Nat.reduceEqDiff, ↓reduceIte, Nat.reducePow, reduceCtorEq, Int.reduceLE, Int.reduceLT, Int.reduceToNat, ← List.map_take, ← List.map_drop, Int.reduceBEq, Int.reduceBNe]
      exact pWk_done rfl ⟨by rw [om_no2 h2]; rfl, rfl⟩
  · simp only [go_sem, Nat.reduceAdd, Nat.reduceSub, Nat.reduceMul, Nat.reduceLeDiff, Nat.reduceLT, Nat.reduceEqDiff, ↓reduceIte, Nat.reducePow, reduceCtorEq, Int.reduceLE, Int.reduceLT, Int.reduceToNat, ← List.map_take, ← List.map_drop, Int.reduceBEq, Int.reduceBNe]
    refine k65 (b := b) (nn := true) (l := [q, p]) [5] hb hn (by simp) rfl (fun h2 => ?_) (fun h2 => ?_)
    · simp only [go_sem, Nat.reduceAdd, Nat.reduceSub, Nat.reduceMul, Nat.reduceLeDiff, Nat.reduceLT, Nat.reduceEqDiff, ↓reduceIte, Nat.reducePow, reduceCtorEq, Int.reduceLE, Int.reduceLT, Int.reduceToNat, ← List.map_take, ← List.map_drop, Int.reduceBEq, Int.reduceBNe, rBook, hBook]
      exact pWk_done rfl ⟨by rw [om_no1 h1]; rfl, rfl⟩
    · simp only [go_sem, Nat.reduceAdd, Nat.reduceSub, Nat.reduceMul, Nat.reduceLeDiff, Nat.reduceLT, Nat.reduceEqDiff, ↓reduceIte, Nat.reducePow, reduceCtorEq, Int.reduceLE, Int.reduceLT, Int.reduceToNat, ← List.map_take, ← List.map_drop, Int.reduceBEq, Int.reduceBNe]
      exact pWk_done rfl ⟨by rw [om_no1 h1]; rfl, rfl⟩

end Go.Sim

set_option maxRecDepth 100000
set_option linter.unusedSimpArgs false
set_option linter.unusedVariables false
namespace Go.Sim
open Go.Proofs

/-! ### equal -/
theorem bytes_self (s : ByteArray) : (s == s) = true := by
  first | exact beq_self_eq_true s | (cases s; rename_i d; show (d == d) = true; exact beq_self_eq_true d)
theorem bytes_bne (s : ByteArray) : (s != s) = false := by simp [bne, bytes_self]
theorem ct155 {t : Team} : Pu Try.prog 155 [vTeam t, vTeam t] (.bool true) := by
  apply c155; unfold t155
  simp only [go_sem, Nat.reduceAdd, Nat.reduceSub, Nat.reduceMul, Nat.reduceLeDiff, Nat.reduceLT, Nat.reduceEqDiff, ↓reduceIte, Nat.reducePow, reduceCtorEq, Int.reduceLE, Int.reduceLT, Int.reduceToNat, ← List.map_take, ← List.map_drop, Int.reduceBEq, Int.reduceBNe, vTeam, bne_self_eq_false, bytes_bne]
  exact pWk_done rfl ⟨rfl, rfl⟩
theorem k155 {t : Team} {H : Heap} {K : V → Heap → Prop} (h : K (.bool true) H) : pCall Try.prog 155 [vTeam t, vTeam t] H K :=
  pCall_pv rfl rfl (ct155) h

theorem ct259 {t : Game} : Pu Try.prog 259 [vGame t, vGame t] (.bool true) := by
  apply c259; unfold t259
  simp only [go_sem, Nat.reduceAdd, Nat.reduceSub, Nat.reduceMul, Nat.reduceLeDiff, Nat.reduceLT, Nat.reduceEqDiff, ↓reduceIte, Nat.reducePow, reduceCtorEq, Int.reduceLE, Int.reduceLT, Int.reduceToNat, ← List.map_take, ← List.map_drop, Int.reduceBEq, Int.reduceBNe, vGame, bne_self_eq_false]
  exact pWk_done rfl ⟨rfl, rfl⟩
theorem k259 {t : Game} {H : Heap} {K : V → Heap → Prop} (h : K (.bool true) H) : pCall Try.prog 259 [vGame t, vGame t] H K :=
  pCall_pv rfl rfl (ct259) h

theorem ct50 {n1 n2 : Bool} {l : List Int} (hl : l.length < 4611686018427387904) : Pu Try.prog 50 [.ints n1 l, .ints n2 l] (.bool true) := by
  apply c50; unfold t50
  simp only [go_sem, Nat.reduceAdd, Nat.reduceSub, Nat.reduceMul, Nat.reduceLeDiff, Nat.reduceLT, Nat.reduceEqDiff, ↓reduceIte, Nat.reducePow, reduceCtorEq, Int.reduceLE, Int.reduceLT, Int.reduceToNat, ← List.map_take, ← List.map_drop, Int.reduceBEq, Int.reduceBNe, bne_self_eq_false]
  refine loop_st (fun k : Nat => ([V.i k], [])) (fun k => k ≤ l.length) (fun k => l.length - k) (pWk_done rfl ⟨0, by omega, rfl, rfl⟩) ?_
  rintro μ k hk nx
  simp only [go_sem, Nat.reduceAdd, Nat.reduceSub, Nat.reduceMul, Nat.reduceLeDiff, Nat.reduceLT, Nat.reduceEqDiff, ↓reduceIte, Nat.reducePow, reduceCtorEq, Int.reduceLE, Int.reduceLT, Int.reduceToNat, ← List.map_take, ← List.map_drop, Int.reduceBEq, Int.reduceBNe, Int.ofNat_lt, Int.natCast_nonneg, List.getElem?_map]
  refine ⟨fun hlt => ?_, fun hge => pWk_done rfl ⟨rfl, rfl⟩⟩
  have hx : l[k]? = some l[k] := List.getElem?_eq_getElem hlt
  simp only [go_sem, Nat.reduceAdd, Nat.reduceSub, Nat.reduceMul, Nat.reduceLeDiff, Nat.reduceLT, Nat.reduceEqDiff, ↓reduceIte, Nat.reducePow, reduceCtorEq, Int.reduceLE, Int.reduceLT, Int.reduceToNat, ← List.map_take, ← List.map_drop, Int.reduceBEq, Int.reduceBNe, hx, bne_self_eq_false, wrapN (show k < 4611686018427387904 by omega)]
  exact ⟨by omega, by omega, pWk_done rfl (nx (k + 1) (by omega) (by omega))⟩
theorem k50 {n1 n2 : Bool} {l : List Int} (hl : l.length < 4611686018427387904) {H : Heap} {K : V → Heap → Prop} (h : K (.bool true) H) : pCall Try.prog 50 [.ints n1 l, .ints n2 l] H K :=
  pCall_pv rfl rfl (ct50 hl) h

theorem ct48 {n1 n2 : Bool} {l : List Team} (hl : l.length < 4611686018427387904) : Pu Try.prog 48 [vTeams n1 l, vTeams n2 l] (.bool true) := by
  apply c48; unfold t48
  simp only [go_sem, Nat.reduceAdd, Nat.reduceSub, Nat.reduceMul, Nat.reduceLeDiff, Nat.reduceLT, Nat.reduceEqDiff, ↓reduceIte, Nat.reducePow, reduceCtorEq, Int.reduceLE, Int.reduceLT, Int.reduceToNat, ← List.map_take, ← List.map_drop, Int.reduceBEq, Int.reduceBNe, bne_self_eq_false]
  refine loop_st (fun k : Nat => ([V.i k], [])) (fun k => k ≤ l.length) (fun k => l.length - k) (pWk_done rfl ⟨0, by omega, rfl, rfl⟩) ?_
  rintro μ k hk nx
  simp only [go_sem, Nat.reduceAdd, Nat.reduceSub, Nat.reduceMul, Nat.reduceLeDiff, Nat.reduceLT, Nat.reduceEqDiff, ↓reduceIte, Nat.reducePow, reduceCtorEq, Int.reduceLE, Int.reduceLT, Int.reduceToNat, ← List.map_take, ← List.map_drop, Int.reduceBEq, Int.reduceBNe, Int.ofNat_lt, Int.natCast_nonneg, List.getElem?_map]
  refine ⟨fun hlt => ?_, fun hge => pWk_done rfl ⟨rfl, rfl⟩⟩
  have hx : l[k]? = some l[k] := List.getElem?_eq_getElem hlt
  simp only [go_sem, Nat.reduceAdd, Nat.reduceSub, Nat.reduceMul, Nat.reduceLeDiff, Nat.reduceLT, Nat.reduceEqDiff, ↓reduceIte, Nat.reducePow, reduceCtorEq, Int.reduceLE, Int.reduceLT, Int.reduceToNat, ← List.map_take, ← List.map_drop, Int.reduceBEq, Int.reduceBNe, hx, vTeam]
  refine ⟨by omega, by omega, k155 (t := l[k]) ?_⟩
  simp only [go_sem, Nat.reduceAdd, Nat.reduceSub, Nat.reduceMul, Nat.reduceLeDiff, Nat.reduceLT, Nat.reduceEqDiff, ↓reduceIte, Nat.reducePow, reduceCtorEq, Int.reduceLE, Int.reduceLT, Int.reduceToNat, ← List.map_take, ← List.map_drop, Int.reduceBEq, Int.reduceBNe, wrapN (show k < 4611686018427387904 by omega)]
  exact pWk_done rfl (nx (k + 1) (by omega) (by omega))
theorem k48 {n1 n2 : Bool} {l : List Team} (hl : l.length < 4611686018427387904) {H : Heap} {K : V → Heap → Prop} (h : K (.bool true) H) : pCall Try.prog 48 [vTeams n1 l, vTeams n2 l] H K :=
  pCall_pv rfl rfl (ct48 hl) h

theorem ct178 {n1 n2 : Bool} {l : List Game} (hl : l.length < 4611686018427387904) : Pu Try.prog 178 [vGames n1 l, vGames n2 l] (.bool true) := by
  apply c178; unfold t178
  simp only [go_sem, Nat.reduceAdd, Nat.reduceSub, Nat.reduceMul, Nat.reduceLeDiff, Nat.reduceLT, Nat.reduceEqDiff, ↓reduceIte, Nat.reducePow, reduceCtorEq, Int.reduceLE, Int.reduceLT, Int.reduceToNat, ← List.map_take, ← List.map_drop, Int.reduceBEq, Int.reduceBNe, bne_self_eq_false]
  refine loop_st (fun k : Nat => ([V.i k], [])) (fun k => k ≤ l.length) (fun k => l.length - k) (pWk_done rfl ⟨0, by omega, rfl, rfl⟩) ?_
  rintro μ k hk nx
  simp only [go_sem, Nat.reduceAdd, Nat.reduceSub, Nat.reduceMul, Nat.reduceLeDiff, Nat.reduceLT, Nat.reduceEqDiff, ↓reduceIte, Nat.reducePow, reduceCtorEq, Int.reduceLE, Int.reduceLT, Int.reduceToNat, ← List.map_take, ← List.map_drop, Int.reduceBEq, Int.reduceBNe, Int.ofNat_lt, Int.natCast_nonneg, List.getElem?_map]
  refine ⟨fun hlt => ?_, fun hge => pWk_done rfl ⟨rfl, rfl⟩⟩
  have hx : l[k]? = some l[k] := List.getElem?_eq_getElem hlt
  simp only [go_sem, Nat.reduceAdd, Nat.reduceSub, Nat.reduceMul, Nat.reduceLeDiff, Nat.reduceLT, Nat.reduceEqDiff, ↓reduceIte, Nat.reducePow, reduceCtorEq, Int.reduceLE, Int.reduceLT, Int.reduceToNat, ← List.map_take, ← List.map_drop, Int.reduceBEq, Int.reduceBNe, hx, vGame]
  refine ⟨by omega, by omega, k259 (t := l[k]) ?_⟩
  simp only [go_sem, Nat.reduceAdd, Nat.reduceSub, Nat.reduceMul, Nat.reduceLeDiff, Nat.reduceLT, Nat.reduceEqDiff, ↓reduceIte, Nat.reducePow, reduceCtorEq, Int.reduceLE, Int.reduceLT, Int.reduceToNat, ← List.map_take, ← List.map_drop, Int.reduceBEq, Int.reduceBNe, wrapN (show k < 4611686018427387904 by omega)]
  exact pWk_done rfl (nx (k + 1) (by omega) (by omega))
theorem k178 {n1 n2 : Bool} {l : List Game} (hl : l.length < 4611686018427387904) {H : Heap} {K : V → Heap → Prop} (h : K (.bool true) H) : pCall Try.prog 178 [vGames n1 l, vGames n2 l] H K :=
  pCall_pv rfl rfl (ct178 hl) h

theorem ct177 {u : Rules} {n2 : Bool} (hl : u.ladder.length < 4611686018427387904) : Pu Try.prog 177 [vRules u, vRules { u with lnn := n2 }] (.bool true) := by
  apply c177; unfold t177
  simp only [go_sem, Nat.reduceAdd, Nat.reduceSub, Nat.reduceMul, Nat.reduceLeDiff, Nat.reduceLT, Nat.reduceEqDiff, ↓reduceIte, Nat.reducePow, reduceCtorEq, Int.reduceLE, Int.reduceLT, Int.reduceToNat, ← List.map_take, ← List.map_drop, Int.reduceBEq, Int.reduceBNe, vRules, bne_self_eq_false]
  refine k50 hl ?_
  simp only [go_sem, Nat.reduceAdd, Nat.reduceSub, Nat.reduceMul, Nat.reduceLeDiff, Nat.reduceLT, Nat.reduceEqDiff, ↓reduceIte, Nat.reducePow, reduceCtorEq, Int.reduceLE, Int.reduceLT, Int.reduceToNat, ← List.map_take, ← List.map_drop, Int.reduceBEq, Int.reduceBNe, bne_self_eq_false]
  exact pWk_done rfl ⟨rfl, rfl⟩
theorem k177 {u : Rules} {n2 : Bool} (hl : u.ladder.length < 4611686018427387904) {H : Heap} {K : V → Heap → Prop} (h : K (.bool true) H) : pCall Try.prog 177 [vRules u, vRules { u with lnn := n2 }] H K :=
  pCall_pv rfl rfl (ct177 hl) h

theorem ct61 {a b : Book} (hb : Sized b) (h : tt a = tt b) : Pu Try.prog 61 [vBook a, vBook b] (.bool true) := by
  have e1 : a.field = b.field := (congrArg Book.field h : (tt a).field = (tt b).field)
  have e2 : a.games = b.games := (congrArg Book.games h : (tt a).games = (tt b).games)
  have e3 : a.fair = b.fair := (congrArg Book.fair h : (tt a).fair = (tt b).fair)
  have e4 : a.taken = b.taken := (congrArg Book.taken h : (tt a).taken = (tt b).taken)
  have e5 : ({ a.rules with lnn := true } : Rules) = { b.rules with lnn := true } := (congrArg Book.rules h : (tt a).rules = (tt b).rules)
  have e6 : b.rules = { a.rules with lnn := b.rules.lnn } := by
    have : b.rules = { ({ b.rules with lnn := true } : Rules) with lnn := b.rules.lnn } := rfl
    rw [this, ← e5]
  have h1 := hb.field
  have h2 := hb.games
  have h3 := hb.fair
  have h4 := hb.taken
  have h5 : a.rules.ladder.length < 4611686018427387904 := by
    have := hb.ladder
    rw [e6] at this
    exact Nat.lt_trans this (by omega)
  apply c61; unfold t61
  have x1 := vBook_eq a
  have x2 := vBook_eq b
  simp only [go_sem, Nat.reduceAdd, Nat.reduceSub, Nat.reduceMul, Nat.reduceLeDiff, Nat.reduceLT, Nat.reduceEqDiff, ↓reduceIte, Nat.reducePow, reduceCtorEq, Int.reduceLE, Int.reduceLT, Int.reduceToNat, ← List.map_take, ← List.map_drop, Int.reduceBEq, Int.reduceBNe, x1, x2]
  rw [e1, e2, e3, e4]
  refine k48 (by omega) ?_
  simp only [go_sem, Nat.reduceAdd, Nat.reduceSub, Nat.reduceMul, Nat.reduceLeDiff, Nat.reduceLT, Nat.reduceEqDiff, ↓reduceIte, Nat.reducePow, reduceCtorEq, Int.reduceLE, Int.reduceLT, Int.reduceToNat, ← List.map_take, ← List.map_drop, Int.reduceBEq, Int.reduceBNe]
  have k177' := @k177 a.rules b.rules.lnn h5
  rw [← e6] at k177'
  refine k177' ?_
  simp only [go_sem, Nat.reduceAdd, Nat.reduceSub, Nat.reduceMul, Nat.reduceLeDiff, Nat.reduceLT, Nat.reduceEqDiff, ↓reduceIte, Nat.reducePow, reduceCtorEq, Int.reduceLE, Int.reduceLT, Int.reduceToNat, ← List.map_take, ← List.map_drop, Int.reduceBEq, Int.reduceBNe]
  refine k178 (by omega) ?_
  simp only [go_sem, Nat.reduceAdd, Nat.reduceSub, Nat.reduceMul, Nat.reduceLeDiff, Nat.reduceLT, Nat.reduceEqDiff, ↓reduceIte, Nat.reducePow, reduceCtorEq, Int.reduceLE, Int.reduceLT, Int.reduceToNat, ← List.map_take, ← List.map_drop, Int.reduceBEq, Int.reduceBNe]
  refine k50 (by omega) ?_
  simp only [go_sem, Nat.reduceAdd, Nat.reduceSub, Nat.reduceMul, Nat.reduceLeDiff, Nat.reduceLT, Nat.reduceEqDiff, ↓reduceIte, Nat.reducePow, reduceCtorEq, Int.reduceLE, Int.reduceLT, Int.reduceToNat, ← List.map_take, ← List.map_drop, Int.reduceBEq, Int.reduceBNe]
  refine k50 (by omega) ?_
  simp only [go_sem, Nat.reduceAdd, Nat.reduceSub, Nat.reduceMul, Nat.reduceLeDiff, Nat.reduceLT, Nat.reduceEqDiff, ↓reduceIte, Nat.reducePow, reduceCtorEq, Int.reduceLE, Int.reduceLT, Int.reduceToNat, ← List.map_take, ← List.map_drop, Int.reduceBEq, Int.reduceBNe]
  exact pWk_done rfl ⟨rfl, rfl⟩

/-! ### sizes -/
theorem ct173 {nn : Bool} {xs : List Int} {left : Int} (h0 : 0 ≤ left) (h1 : left ≤ 1048576) (hl : xs.length < 9223372036854775808) : Ct Try.prog 173 [.ints nn xs, .i left] [] (fun v H => ∃ r : Int, v = .i r ∧ H = [] ∧ r ≤ left ∧ (0 ≤ r → (xs.length : Int) ≤ left)) := by
  apply c173; unfold t173
  simp only [go_sem, Nat.reduceAdd, Nat.reduceSub, Nat.reduceMul, Nat.reduceLeDiff, Nat.reduceLT, Nat.reduceEqDiff, ↓reduceIte, Nat.reducePow, reduceCtorEq, Int.reduceLE, Int.reduceLT, Int.reduceToNat, ← List.map_take, ← List.map_drop, Int.reduceBEq, Int.reduceBNe, wrap64 (n := left - xs.length) (by omega) (by omega)]
  exact ⟨fun h => pWk_done rfl ⟨-1, rfl, rfl, by omega, by omega⟩, fun h => pWk_done rfl ⟨_, rfl, rfl, by omega, by omega⟩⟩
theorem ct172 {nn : Bool} {xs : List Game} {left : Int} (h0 : 0 ≤ left) (h1 : left ≤ 1048576) (hl : xs.length < 9223372036854775808) : Ct Try.prog 172 [vGames nn xs, .i left] [] (fun v H => ∃ r : Int, v = .i r ∧ H = [] ∧ r ≤ left ∧ (0 ≤ r → (xs.length : Int) ≤ left)) := by
  apply c172; unfold t172
  simp only [go_sem, Nat.reduceAdd, Nat.reduceSub, Nat.reduceMul, Nat.reduceLeDiff, Nat.reduceLT, Nat.reduceEqDiff, ↓reduceIte, Nat.reducePow, reduceCtorEq, Int.reduceLE, Int.reduceLT, Int.reduceToNat, ← List.map_take, ← List.map_drop, Int.reduceBEq, Int.reduceBNe, wrap64 (n := left - xs.length) (by omega) (by omega)]
  exact ⟨fun h => pWk_done rfl ⟨-1, rfl, rfl, by omega, by omega⟩, fun h => pWk_done rfl ⟨_, rfl, rfl, by omega, by omega⟩⟩
theorem ct147 {t : Team} {left : Int} (h0 : 0 ≤ left) (h1 : left ≤ 1048576) (hl : t.name.size < 9223372036854775808) : Ct Try.prog 147 [vTeam t, .i left] [] (fun v H => ∃ r : Int, v = .i r ∧ H = [] ∧ r ≤ left ∧ (0 ≤ r → (t.name.size : Int) ≤ left)) := by
  apply c147; unfold t147
  simp only [go_sem, Nat.reduceAdd, Nat.reduceSub, Nat.reduceMul, Nat.reduceLeDiff, Nat.reduceLT, Nat.reduceEqDiff, ↓reduceIte, Nat.reducePow, reduceCtorEq, Int.reduceLE, Int.reduceLT, Int.reduceToNat, ← List.map_take, ← List.map_drop, Int.reduceBEq, Int.reduceBNe, vTeam, wrap64 (n := left - t.name.size) (by omega) (by omega)]
  exact ⟨fun h => pWk_done rfl ⟨-1, rfl, rfl, by omega, by omega⟩, fun h => pWk_done rfl ⟨_, rfl, rfl, by omega, by omega⟩⟩
theorem ct171 {u : Rules} {left : Int} (h0 : 0 ≤ left) (h1 : left ≤ 1048576) (hl : u.ladder.length < 9223372036854775808) : Ct Try.prog 171 [vRules u, .i left] [] (fun v H => ∃ r : Int, v = .i r ∧ H = [] ∧ r ≤ left ∧ (0 ≤ r → (u.ladder.length : Int) ≤ left)) := by
  apply c171; unfold t171
  simp only [go_sem, Nat.reduceAdd, Nat.reduceSub, Nat.reduceMul, Nat.reduceLeDiff, Nat.reduceLT, Nat.reduceEqDiff, ↓reduceIte, Nat.reducePow, reduceCtorEq, Int.reduceLE, Int.reduceLT, Int.reduceToNat, ← List.map_take, ← List.map_drop, Int.reduceBEq, Int.reduceBNe, vRules]
  refine pCall_new (ct173 h0 h1 hl) rfl ?_
  rintro _ _ ⟨r, rfl, rfl, hr, hs⟩
  simp only [go_sem, Nat.reduceAdd, Nat.reduceSub, Nat.reduceMul, Nat.reduceLeDiff, Nat.reduceLT, Nat.reduceEqDiff, ↓reduceIte, Nat.reducePow, reduceCtorEq, Int.reduceLE, Int.reduceLT, Int.reduceToNat, ← List.map_take, ← List.map_drop, Int.reduceBEq, Int.reduceBNe]
  exact ⟨fun h => pWk_done rfl ⟨-1, rfl, rfl, by omega, by omega⟩, fun h => pWk_done rfl ⟨_, rfl, rfl, hr, hs⟩⟩
theorem ct42 {nn : Bool} {l : List Team} {left : Int} (h0 : 0 ≤ left) (h1 : left ≤ 1048576) (hl : l.length < 9223372036854775808) (hs : ∀ t ∈ l, t.name.size < 9223372036854775808) :
    Ct Try.prog 42 [vTeams nn l, .i left] [] (fun v H => ∃ r : Int, v = .i r ∧ H = [] ∧ r ≤ left ∧ (0 ≤ r → (l.length : Int) ≤ left ∧ ∀ t ∈ l, (t.name.size : Int) ≤ left)) := by
  apply c42; unfold t42
  simp only [go_sem, Nat.reduceAdd, Nat.reduceSub, Nat.reduceMul, Nat.reduceLeDiff, Nat.reduceLT, Nat.reduceEqDiff, ↓reduceIte, Nat.reducePow, reduceCtorEq, Int.reduceLE, Int.reduceLT, Int.reduceToNat, ← List.map_take, ← List.map_drop, Int.reduceBEq, Int.reduceBNe, wrap64 (n := left - l.length) (by omega) (by omega)]
  refine ⟨fun h => pWk_done rfl ⟨-1, rfl, rfl, by omega, by omega⟩, fun hle => ?_⟩
  refine loop_st (σ := Int × Nat) (fun s => ([V.i s.1, V.i s.2], [])) (fun s => s.2 ≤ l.length ∧ 0 ≤ s.1 ∧ s.1 ≤ left ∧ ∀ j (hj : j < l.length), j < s.2 → (l[j].name.size : Int) ≤ left) (fun s => l.length - s.2)
    (pWk_done rfl ⟨(left - l.length, 0), ⟨by simp, by simp only; omega, by simp only; omega, by intros; simp at *⟩, rfl, rfl⟩) ?_
  rintro μ ⟨r, k⟩ ⟨hk, hr0, hr1, hno⟩ nx
  simp only at hk hr0 hr1 hno nx ⊢
  simp only [go_sem, Nat.reduceAdd, Nat.reduceSub, Nat.reduceMul, Nat.reduceLeDiff, Nat.reduceLT, Nat.reduceEqDiff, ↓reduceIte, Nat.reducePow, reduceCtorEq, Int.reduceLE, Int.reduceLT, Int.reduceToNat, ← List.map_take, ← List.map_drop, Int.reduceBEq, Int.reduceBNe, Int.ofNat_lt, Int.natCast_nonneg, List.getElem?_map]
  refine ⟨fun hlt => ?_, fun hge => ?_⟩
  · have hx : l[k]? = some l[k] := List.getElem?_eq_getElem hlt
    simp only [go_sem, Nat.reduceAdd, Nat.reduceSub, Nat.reduceMul, Nat.reduceLeDiff, Nat.reduceLT, Nat.reduceEqDiff, ↓reduceIte, Nat.reducePow, reduceCtorEq, Int.reduceLE, Int.reduceLT, Int.reduceToNat, ← List.map_take, ← List.map_drop, Int.reduceBEq, Int.reduceBNe, hx, vTeam]
    refine ⟨by omega, ?_⟩
    refine pCall_new (ct147 (t := l[k]) hr0 (by omega) (hs _ (List.getElem_mem _))) rfl ?_
    rintro _ _ ⟨r', rfl, rfl, hr', hs'⟩
    simp only [go_sem, Nat.reduceAdd, Nat.reduceSub, Nat.reduceMul, Nat.reduceLeDiff, Nat.reduceLT, Nat.reduceEqDiff, ↓reduceIte, Nat.reducePow, reduceCtorEq, Int.reduceLE, Int.reduceLT, Int.reduceToNat, ← List.map_take, ← List.map_drop, Int.reduceBEq, Int.reduceBNe, wrapN (show k < 4611686018427387904 by omega)]
    refine ⟨fun h => pWk_done rfl ⟨-1, rfl, rfl, by omega, by omega⟩, fun h => pWk_done rfl (nx (r', k + 1) ⟨by simp only; omega, by simp only; omega, by simp only; omega, fun j hj hji => ?_⟩ (by simp only; omega))⟩
    rcases Nat.lt_succ_iff_lt_or_eq.1 hji with h' | h'
    · exact hno j hj h'
    · subst h'; have := hs' (by omega); omega
  · refine pWk_done rfl ⟨r, rfl, rfl, hr1, fun _ => ⟨by omega, fun t ht => ?_⟩⟩
    obtain ⟨j, hj, rfl⟩ := List.getElem_of_mem ht
    exact hno j hj (by omega)

structure Wide (b : Book) : Prop where
  field : b.field.length < 9223372036854775808
  names : ∀ t ∈ b.field, t.name.size < 9223372036854775808
  ladder : b.rules.ladder.length < 9223372036854775808
  games : b.games.length < 9223372036854775808
  fair : b.fair.length < 9223372036854775808
  taken : b.taken.length < 9223372036854775808

theorem ct56 {b : Book} (hb : Wide b) : Ct Try.prog 56 [vBook b, .i 1048576] [] (fun v H => ∃ r : Int, v = .i r ∧ H = [] ∧ (0 ≤ r → Sized b)) := by
  apply c56; unfold t56
  have hbx := vBook_eq b
  simp only [go_sem, Nat.reduceAdd, Nat.reduceSub, Nat.reduceMul, Nat.reduceLeDiff, Nat.reduceLT, Nat.reduceEqDiff, ↓reduceIte, Nat.reducePow, reduceCtorEq, Int.reduceLE, Int.reduceLT, Int.reduceToNat, ← List.map_take, ← List.map_drop, Int.reduceBEq, Int.reduceBNe, hbx]
  refine pCall_new (ct42 (by omega) (by omega) hb.field hb.names) rfl ?_
  rintro _ _ ⟨r1, rfl, rfl, hr1, hs1⟩
  simp only [go_sem, Nat.reduceAdd, Nat.reduceSub, Nat.reduceMul, Nat.reduceLeDiff, Nat.reduceLT, Nat.reduceEqDiff, ↓reduceIte, Nat.reducePow, reduceCtorEq, Int.reduceLE, Int.reduceLT, Int.reduceToNat, ← List.map_take, ← List.map_drop, Int.reduceBEq, Int.reduceBNe]
  refine ⟨fun h => pWk_done rfl ⟨-1, rfl, rfl, by omega⟩, fun h1 => ?_⟩
  refine pCall_new (ct171 (u := b.rules) (by omega) (by omega) hb.ladder) rfl ?_
  rintro _ _ ⟨r2, rfl, rfl, hr2, hs2⟩
  simp only [go_sem, Nat.reduceAdd, Nat.reduceSub, Nat.reduceMul, Nat.reduceLeDiff, Nat.reduceLT, Nat.reduceEqDiff, ↓reduceIte, Nat.reducePow, reduceCtorEq, Int.reduceLE, Int.reduceLT, Int.reduceToNat, ← List.map_take, ← List.map_drop, Int.reduceBEq, Int.reduceBNe]
  refine ⟨fun h => pWk_done rfl ⟨-1, rfl, rfl, by omega⟩, fun h2 => ?_⟩
  refine pCall_new (ct172 (by omega) (by omega) hb.games) rfl ?_
  rintro _ _ ⟨r3, rfl, rfl, hr3, hs3⟩
  simp only [go_sem, Nat.reduceAdd, Nat.reduceSub, Nat.reduceMul, Nat.reduceLeDiff, Nat.reduceLT, Nat.reduceEqDiff, ↓reduceIte, Nat.reducePow, reduceCtorEq, Int.reduceLE, Int.reduceLT, Int.reduceToNat, ← List.map_take, ← List.map_drop, Int.reduceBEq, Int.reduceBNe]
  refine ⟨fun h => pWk_done rfl ⟨-1, rfl, rfl, by omega⟩, fun h3 => ?_⟩
  refine pCall_new (ct173 (by omega) (by omega) hb.fair) rfl ?_
  rintro _ _ ⟨r4, rfl, rfl, hr4, hs4⟩
  simp only [go_sem, Nat.reduceAdd, Nat.reduceSub, Nat.reduceMul, Nat.reduceLeDiff, Nat.reduceLT, Nat.reduceEqDiff, ↓reduceIte, Nat.reducePow, reduceCtorEq, Int.reduceLE, Int.reduceLT, Int.reduceToNat, ← List.map_take, ← List.map_drop, Int.reduceBEq, Int.reduceBNe]
  refine ⟨fun h => pWk_done rfl ⟨-1, rfl, rfl, by omega⟩, fun h4 => ?_⟩
  refine pCall_new (ct173 (by omega) (by omega) hb.taken) rfl ?_
  rintro _ _ ⟨r5, rfl, rfl, hr5, hs5⟩
  simp only [go_sem, Nat.reduceAdd, Nat.reduceSub, Nat.reduceMul, Nat.reduceLeDiff, Nat.reduceLT, Nat.reduceEqDiff, ↓reduceIte, Nat.reducePow, reduceCtorEq, Int.reduceLE, Int.reduceLT, Int.reduceToNat, ← List.map_take, ← List.map_drop, Int.reduceBEq, Int.reduceBNe]
  refine ⟨fun h => pWk_done rfl ⟨-1, rfl, rfl, by omega⟩, fun h5 => pWk_done rfl ⟨r5, rfl, rfl, fun _ => ?_⟩⟩
  obtain ⟨g1, g2⟩ := hs1 (by omega)
  have g3 := hs2 (by omega)
  have g4 := hs3 (by omega)
  have g5 := hs4 (by omega)
  have g6 := hs5 (by omega)
  exact ⟨by omega, fun t ht => by have := g2 t ht; omega, by omega, by omega, by omega, by omega⟩

end Go.Sim

set_option maxRecDepth 100000
set_option linter.unusedSimpArgs false
set_option linter.unusedVariables false
namespace Go.Sim
open Go.Proofs

theorem ct153 {t : Team} : Pu Try.prog 153 [vTeam t] (vTeam t) := by
  apply c153; unfold t153
  simp only [go_sem, Nat.reduceAdd, Nat.reduceSub, Nat.reduceMul, Nat.reduceLeDiff, Nat.reduceLT, Nat.reduceEqDiff, ↓reduceIte, Nat.reducePow, reduceCtorEq, Int.reduceLE, Int.reduceLT, Int.reduceToNat, ← List.map_take, ← List.map_drop, Int.reduceBEq, Int.reduceBNe, vTeam]
  exact pWk_done rfl ⟨rfl, rfl⟩
theorem k153 {t : Team} {H : Heap} {K : V → Heap → Prop} (h : K (vTeam t) H) : pCall Try.prog 153 [vTeam t] H K :=
  pCall_pv rfl rfl (ct153) h

theorem ct258 {t : Game} : Pu Try.prog 258 [vGame t] (vGame t) := by
  apply c258; unfold t258
  simp only [go_sem, Nat.reduceAdd, Nat.reduceSub, Nat.reduceMul, Nat.reduceLeDiff, Nat.reduceLT, Nat.reduceEqDiff, ↓reduceIte, Nat.reducePow, reduceCtorEq, Int.reduceLE, Int.reduceLT, Int.reduceToNat, ← List.map_take, ← List.map_drop, Int.reduceBEq, Int.reduceBNe, vGame]
  exact pWk_done rfl ⟨rfl, rfl⟩
theorem k258 {t : Game} {H : Heap} {K : V → Heap → Prop} (h : K (vGame t) H) : pCall Try.prog 258 [vGame t] H K :=
  pCall_pv rfl rfl (ct258) h

theorem ct59 {t : Prot} : Pu Try.prog 59 [vProt t] (vProt t) := by
  apply c59; unfold t59
  simp only [go_sem, Nat.reduceAdd, Nat.reduceSub, Nat.reduceMul, Nat.reduceLeDiff, Nat.reduceLT, Nat.reduceEqDiff, ↓reduceIte, Nat.reducePow, reduceCtorEq, Int.reduceLE, Int.reduceLT, Int.reduceToNat, ← List.map_take, ← List.map_drop, Int.reduceBEq, Int.reduceBNe, vProt]
  exact pWk_done rfl ⟨rfl, rfl⟩
theorem k59 {t : Prot} {H : Heap} {K : V → Heap → Prop} (h : K (vProt t) H) : pCall Try.prog 59 [vProt t] H K :=
  pCall_pv rfl rfl (ct59) h

/-- A list that is filled from its beginning. -/
def fill {α : Type} (e : α → V) (z : V) (k : Nat) (l : List α) : List V := (l.take k).map e ++ List.replicate (l.length - k) z
theorem fill_zero {α : Type} {e : α → V} {z : V} {l : List α} : fill e z 0 l = List.replicate l.length z := by simp [fill]
theorem fill_all {α : Type} {e : α → V} {z : V} {l : List α} {k : Nat} (h : l.length ≤ k) : fill e z k l = l.map e := by
  unfold fill
  rw [List.take_of_length_le h, Nat.sub_eq_zero_of_le h]; simp
theorem fill_len {α : Type} {e : α → V} {z : V} {l : List α} {k : Nat} : (fill e z k l).length = l.length := by
  simp [fill]; omega
theorem fill_get {α : Type} {e : α → V} {z : V} {l : List α} {k : Nat} (h : k < l.length) : (fill e z k l)[k]? = some z := by
  unfold fill
  rw [List.getElem?_append_right (by simp; omega)]
  simp [List.getElem?_replicate]
  omega
theorem fill_set {α : Type} {e : α → V} {z : V} {l : List α} {k : Nat} (h : k < l.length) : (fill e z k l).set k (e l[k]) = fill e z (k + 1) l := by
  apply List.ext_getElem?
  intro i
  rw [List.getElem?_set]
  have hl : (fill e z k l).length = l.length := fill_len
  unfold fill at *
  by_cases hi : k = i
  · subst hi
    simp only [if_true, hl, h]
    rw [List.getElem?_append_left (by simp; omega)]
    simp [List.getElem?_take, h]
  · rw [if_neg hi]
    rcases Nat.lt_or_ge i k with hik | hik
    · rw [List.getElem?_append_left (by simp; omega), List.getElem?_append_left (by simp; omega)]
      simp [List.getElem?_take, hik]
      omega
    · rw [List.getElem?_append_right (by simp; omega), List.getElem?_append_right (by simp; omega)]
      simp [List.getElem?_replicate]
      have e1 : min k l.length = k := by omega
      have e2 : min (k + 1) l.length = k + 1 := by omega
      rw [e1, e2]
      split <;> split <;> first | rfl | omega

theorem ct47 {nn : Bool} {l : List Int} (hl : l.length < 4000000) : Ct Try.prog 47 [.sl nn 1 (l.map V.i)] [] (fun v H => v = .ref 0 0 l.length ∧ H = [.sl true 3 1 (l.map V.i)]) := by
  apply c47; unfold t47
  simp only [go_sem, Nat.reduceAdd, Nat.reduceSub, Nat.reduceMul, Nat.reduceLeDiff, Nat.reduceLT, Nat.reduceEqDiff, ↓reduceIte, Nat.reducePow, reduceCtorEq, Int.reduceLE, Int.reduceLT, Int.reduceToNat, ← List.map_take, ← List.map_drop, Int.reduceBEq, Int.reduceBNe, Int.ofNat_lt, Int.ofNat_le, Int.natCast_nonneg]
  refine ⟨by omega, ?_⟩
  refine loop_st (fun k : Nat => ([V.i k], [Blk.sl true 3 1 (fill V.i (V.int .i64 0) k l)])) (fun k => k ≤ l.length) (fun k => l.length - k) (pWk_take rfl ⟨0, by omega, rfl, by simp only [fill_zero]; rfl⟩) ?_
  rintro μ k hk nx
  simp only [go_sem, Nat.reduceAdd, Nat.reduceSub, Nat.reduceMul, Nat.reduceLeDiff, Nat.reduceLT, Nat.reduceEqDiff, ↓reduceIte, Nat.reducePow, reduceCtorEq, Int.reduceLE, Int.reduceLT, Int.reduceToNat, ← List.map_take, ← List.map_drop, Int.reduceBEq, Int.reduceBNe, Int.ofNat_lt, Int.ofNat_le, Int.natCast_nonneg, List.getElem?_map, fill_len]
  refine ⟨fun hlt => ?_, fun hge => ?_⟩
  · have hx : l[k]? = some l[k] := List.getElem?_eq_getElem hlt
    have hz := fill_get (e := V.i) (z := (V.int .i64 0)) hlt
    have next := nx (k + 1) (by omega) (by omega)
    rw [← fill_set hlt] at next
    simp only [go_sem, Nat.reduceAdd, Nat.reduceSub, Nat.reduceMul, Nat.reduceLeDiff, Nat.reduceLT, Nat.reduceEqDiff, ↓reduceIte, Nat.reducePow, reduceCtorEq, Int.reduceLE, Int.reduceLT, Int.reduceToNat, ← List.map_take, ← List.map_drop, Int.reduceBEq, Int.reduceBNe, hx, hz, fill_len, Int.ofNat_lt, Int.ofNat_le, Int.natCast_nonneg, wrapN (show k < 4611686018427387904 by omega)]
    refine ⟨by omega, by omega, ?_⟩

    exact pWk_take rfl next
  · have : k = l.length := by omega
    subst this
    rw [fill_all (Nat.le_refl _)]
    exact pWk_kp [] [0] rfl ⟨rfl, rfl⟩
theorem ct45 {nn : Bool} {l : List Team} (hl : l.length < 4000000) : Ct Try.prog 45 [.sl nn 3 (l.map vTeam)] [] (fun v H => v = .ref 0 0 l.length ∧ H = [.sl true 178 3 (l.map vTeam)]) := by
  apply c45; unfold t45
  simp only [go_sem, Nat.reduceAdd, Nat.reduceSub, Nat.reduceMul, Nat.reduceLeDiff, Nat.reduceLT, Nat.reduceEqDiff, ↓reduceIte, Nat.reducePow, reduceCtorEq, Int.reduceLE, Int.reduceLT, Int.reduceToNat, ← List.map_take, ← List.map_drop, Int.reduceBEq, Int.reduceBNe, Int.ofNat_lt, Int.ofNat_le, Int.natCast_nonneg]
  refine ⟨by omega, ?_⟩
  refine loop_st (fun k : Nat => ([V.i k], [Blk.sl true 178 3 (fill vTeam (V.agg [V.str { data := #[] }, V.int .i64 0, V.int .i64 0]) k l)])) (fun k => k ≤ l.length) (fun k => l.length - k) (pWk_take rfl ⟨0, by omega, rfl, by simp only [fill_zero]; rfl⟩) ?_
  rintro μ k hk nx
  simp only [go_sem, Nat.reduceAdd, Nat.reduceSub, Nat.reduceMul, Nat.reduceLeDiff, Nat.reduceLT, Nat.reduceEqDiff, ↓reduceIte, Nat.reducePow, reduceCtorEq, Int.reduceLE, Int.reduceLT, Int.reduceToNat, ← List.map_take, ← List.map_drop, Int.reduceBEq, Int.reduceBNe, Int.ofNat_lt, Int.ofNat_le, Int.natCast_nonneg, List.getElem?_map, fill_len]
  refine ⟨fun hlt => ?_, fun hge => ?_⟩
  · have hx : l[k]? = some l[k] := List.getElem?_eq_getElem hlt
    have hz := fill_get (e := vTeam) (z := (V.agg [V.str { data := #[] }, V.int .i64 0, V.int .i64 0])) hlt
    have next := nx (k + 1) (by omega) (by omega)
    rw [← fill_set hlt] at next
    simp only [go_sem, Nat.reduceAdd, Nat.reduceSub, Nat.reduceMul, Nat.reduceLeDiff, Nat.reduceLT, Nat.reduceEqDiff, ↓reduceIte, Nat.reducePow, reduceCtorEq, Int.reduceLE, Int.reduceLT, Int.reduceToNat, ← List.map_take, ← List.map_drop, Int.reduceBEq, Int.reduceBNe, hx, hz, fill_len, Int.ofNat_lt, Int.ofNat_le, Int.natCast_nonneg, vTeam, wrapN (show k < 4611686018427387904 by omega)]
    refine ⟨by omega, ?_⟩
    refine k153 (t := l[k]) ?_
    simp only [go_sem, Nat.reduceAdd, Nat.reduceSub, Nat.reduceMul, Nat.reduceLeDiff, Nat.reduceLT, Nat.reduceEqDiff, ↓reduceIte, Nat.reducePow, reduceCtorEq, Int.reduceLE, Int.reduceLT, Int.reduceToNat, ← List.map_take, ← List.map_drop, Int.reduceBEq, Int.reduceBNe, vTeam, hz, fill_len, Int.ofNat_lt, Int.ofNat_le, Int.natCast_nonneg, wrapN (show k < 4611686018427387904 by omega)]
    refine ⟨by omega, ?_⟩
    exact pWk_take rfl next
  · have : k = l.length := by omega
    subst this
    rw [fill_all (Nat.le_refl _)]
    exact pWk_kp [] [0] rfl ⟨rfl, rfl⟩
theorem ct176 {nn : Bool} {l : List Game} (hl : l.length < 4000000) : Ct Try.prog 176 [.sl nn 5 (l.map vGame)] [] (fun v H => v = .ref 0 0 l.length ∧ H = [.sl true 40 5 (l.map vGame)]) := by
  apply c176; unfold t176
  simp only [go_sem, Nat.reduceAdd, Nat.reduceSub, Nat.reduceMul, Nat.reduceLeDiff, Nat.reduceLT, Nat.reduceEqDiff, ↓reduceIte, Nat.reducePow, reduceCtorEq, Int.reduceLE, Int.reduceLT, Int.reduceToNat, ← List.map_take, ← List.map_drop, Int.reduceBEq, Int.reduceBNe, Int.ofNat_lt, Int.ofNat_le, Int.natCast_nonneg]
  refine ⟨by omega, ?_⟩
  refine loop_st (fun k : Nat => ([V.i k], [Blk.sl true 40 5 (fill vGame (V.agg [V.int .i64 0, V.int .i64 0, V.int .i64 0, V.int .i64 0, V.int .i64 0]) k l)])) (fun k => k ≤ l.length) (fun k => l.length - k) (pWk_take rfl ⟨0, by omega, rfl, by simp only [fill_zero]; rfl⟩) ?_
  rintro μ k hk nx
  simp only [go_sem, Nat.reduceAdd, Nat.reduceSub, Nat.reduceMul, Nat.reduceLeDiff, Nat.reduceLT, Nat.reduceEqDiff, ↓reduceIte, Nat.reducePow, reduceCtorEq, Int.reduceLE, Int.reduceLT, Int.reduceToNat, ← List.map_take, ← List.map_drop, Int.reduceBEq, Int.reduceBNe, Int.ofNat_lt, Int.ofNat_le, Int.natCast_nonneg, List.getElem?_map, fill_len]
  refine ⟨fun hlt => ?_, fun hge => ?_⟩
  · have hx : l[k]? = some l[k] := List.getElem?_eq_getElem hlt
    have hz := fill_get (e := vGame) (z := (V.agg [V.int .i64 0, V.int .i64 0, V.int .i64 0, V.int .i64 0, V.int .i64 0])) hlt
    have next := nx (k + 1) (by omega) (by omega)
    rw [← fill_set hlt] at next
    simp only [go_sem, Nat.reduceAdd, Nat.reduceSub, Nat.reduceMul, Nat.reduceLeDiff, Nat.reduceLT, Nat.reduceEqDiff, ↓reduceIte, Nat.reducePow, reduceCtorEq, Int.reduceLE, Int.reduceLT, Int.reduceToNat, ← List.map_take, ← List.map_drop, Int.reduceBEq, Int.reduceBNe, hx, hz, fill_len, Int.ofNat_lt, Int.ofNat_le, Int.natCast_nonneg, vGame, wrapN (show k < 4611686018427387904 by omega)]
    refine ⟨by omega, ?_⟩
    refine k258 (t := l[k]) ?_
    simp only [go_sem, Nat.reduceAdd, Nat.reduceSub, Nat.reduceMul, Nat.reduceLeDiff, Nat.reduceLT, Nat.reduceEqDiff, ↓reduceIte, Nat.reducePow, reduceCtorEq, Int.reduceLE, Int.reduceLT, Int.reduceToNat, ← List.map_take, ← List.map_drop, Int.reduceBEq, Int.reduceBNe, vGame, hz, fill_len, Int.ofNat_lt, Int.ofNat_le, Int.natCast_nonneg, wrapN (show k < 4611686018427387904 by omega)]
    refine ⟨by omega, ?_⟩
    exact pWk_take rfl next
  · have : k = l.length := by omega
    subst this
    rw [fill_all (Nat.le_refl _)]
    exact pWk_kp [] [0] rfl ⟨rfl, rfl⟩

end Go.Sim
