/- Contracts of the functions of the office: books, withdrawals, tables. -/
import Derived.Test.YtahdgiaddhoaoaaTxtA
import Derived.Test.YtahdgiaddhoaoaaSimC

set_option maxRecDepth 100000
set_option linter.unusedSimpArgs false
set_option linter.unusedVariables false
namespace Go.Sim
open Go.Proofs

theorem ct139 {n lo hi : Int} : Pu Try.prog 139 [.i n, .i lo, .i hi] (.bool (within n lo hi)) := by
  apply c139; unfold t139
  simp only [go_sem, Nat.reduceAdd, Nat.reduceSub, Nat.reduceMul, Nat.reduceLeDiff, Nat.reduceLT, Nat.reduceEqDiff, ↓reduceIte, Nat.reducePow, reduceCtorEq, Int.reduceLE, Int.reduceLT, Int.reduceToNat, ← List.map_take, ← List.map_drop, Int.reduceBEq, Int.reduceBNe]
  (repeat' first | refine pWk_done rfl ⟨?_, rfl⟩ | refine And.intro (fun h => ?_) (fun h => ?_))
  all_goals ((try simp only [nthV]); (try simp_all [within]); (try omega))
theorem k139 {n lo hi : Int} {H : Heap} {K : V → Heap → Prop} (h : K (.bool (within n lo hi)) H) : pCall Try.prog 139 [.i n, .i lo, .i hi] H K :=
  pCall_pv rfl rfl (ct139) h

theorem ct237 {n : Int} : Pu Try.prog 237 [.i n] (.bool (within n 1 8)) := by
  apply c237; unfold t237
  simp only [go_sem, Nat.reduceAdd, Nat.reduceSub, Nat.reduceMul, Nat.reduceLeDiff, Nat.reduceLT, Nat.reduceEqDiff, ↓reduceIte, Nat.reducePow, reduceCtorEq, Int.reduceLE, Int.reduceLT, Int.reduceToNat, ← List.map_take, ← List.map_drop, Int.reduceBEq, Int.reduceBNe]
  (repeat' first | refine pWk_done rfl ⟨?_, rfl⟩ | (refine k139 ?_; try simp only [go_sem, Nat.reduceAdd, Nat.reduceSub, Nat.reduceMul, Nat.reduceLeDiff, Nat.reduceLT, Nat.reduceEqDiff, ↓reduceIte, Nat.reducePow, reduceCtorEq, Int.reduceLE, Int.reduceLT, Int.reduceToNat, ← List.map_take, ← List.map_drop, Int.reduceBEq, Int.reduceBNe]) | refine And.intro (fun h => ?_) (fun h => ?_))
  all_goals ((try simp only [nthV]); (try simp_all [within]); (try omega))
theorem k237 {n : Int} {H : Heap} {K : V → Heap → Prop} (h : K (.bool (within n 1 8)) H) : pCall Try.prog 237 [.i n] H K :=
  pCall_pv rfl rfl (ct237) h

theorem ct27 {g : Game} : Pu Try.prog 27 [vGame g] (.bool (g.st == 0)) := by
  apply c27; unfold t27
  simp only [go_sem, Nat.reduceAdd, Nat.reduceSub, Nat.reduceMul, Nat.reduceLeDiff, Nat.reduceLT, Nat.reduceEqDiff, ↓reduceIte, Nat.reducePow, reduceCtorEq, Int.reduceLE, Int.reduceLT, Int.reduceToNat, ← List.map_take, ← List.map_drop, Int.reduceBEq, Int.reduceBNe, vGame]
  (repeat' first | refine pWk_done rfl ⟨?_, rfl⟩ | refine And.intro (fun h => ?_) (fun h => ?_))
  all_goals ((try simp only [nthV]); (try simp_all []); (try omega))
theorem k27 {g : Game} {H : Heap} {K : V → Heap → Prop} (h : K (.bool (g.st == 0)) H) : pCall Try.prog 27 [vGame g] H K :=
  pCall_pv rfl rfl (ct27) h

theorem ct120 {g : Game} {n : Int} : Pu Try.prog 120 [vGame g, .i n] (.bool (g.home == n || g.away == n)) := by
  apply c120; unfold t120
  simp only [go_sem, Nat.reduceAdd, Nat.reduceSub, Nat.reduceMul, Nat.reduceLeDiff, Nat.reduceLT, Nat.reduceEqDiff, ↓reduceIte, Nat.reducePow, reduceCtorEq, Int.reduceLE, Int.reduceLT, Int.reduceToNat, ← List.map_take, ← List.map_drop, Int.reduceBEq, Int.reduceBNe, vGame]
  (repeat' first | refine pWk_done rfl ⟨?_, rfl⟩ | refine And.intro (fun h => ?_) (fun h => ?_))
  all_goals ((try simp only [nthV]); (try simp_all []); (try omega))
theorem k120 {g : Game} {n : Int} {H : Heap} {K : V → Heap → Prop} (h : K (.bool (g.home == n || g.away == n)) H) : pCall Try.prog 120 [vGame g, .i n] H K :=
  pCall_pv rfl rfl (ct120) h

def goalsOf (g : Game) : Int × Int × Bool := if g.st == 1 then (g.hg, g.ag, true) else if g.st == 2 then (3, 0, true) else if g.st == 3 then (0, 3, true) else (0, 0, false)
theorem ct187 {g : Game} : Pu Try.prog 187 [vGame g] (.tup [.i (goalsOf g).1, .i (goalsOf g).2.1, .bool (goalsOf g).2.2]) := by
  apply c187; unfold t187
  simp only [go_sem, Nat.reduceAdd, Nat.reduceSub, Nat.reduceMul, Nat.reduceLeDiff, Nat.reduceLT, Nat.reduceEqDiff, ↓reduceIte, Nat.reducePow, reduceCtorEq, Int.reduceLE, Int.reduceLT, Int.reduceToNat, ← List.map_take, ← List.map_drop, Int.reduceBEq, Int.reduceBNe, vGame]
  refine ⟨fun h => pWk_done rfl ⟨?_, rfl⟩, fun h => ⟨fun h => pWk_done rfl ⟨?_, rfl⟩, fun h => ⟨fun h => pWk_done rfl ⟨?_, rfl⟩, fun h => pWk_done rfl ⟨?_, rfl⟩⟩⟩⟩
  all_goals simp_all [nthV, goalsOf]
theorem k187 {g : Game} {H : Heap} {K : V → Heap → Prop} (h : K (.tup [.i (goalsOf g).1, .i (goalsOf g).2.1, .bool (goalsOf g).2.2]) H) : pCall Try.prog 187 [vGame g] H K :=
  pCall_pv rfl rfl (ct187) h

def annulS : ByteArray := { data := #[97, 110, 110, 117, 108] }
def forfeitS : ByteArray := { data := #[102, 111, 114, 102, 101, 105, 116] }
def ruleName (r : Int) : ByteArray := if r == 1 then annulS else if r == 2 then forfeitS else { data := #[] }
theorem ct29 {r : Int} : Pu Try.prog 29 [.i r] (.str (ruleName r)) := by
  apply c29; unfold t29
  simp only [go_sem, Nat.reduceAdd, Nat.reduceSub, Nat.reduceMul, Nat.reduceLeDiff, Nat.reduceLT, Nat.reduceEqDiff, ↓reduceIte, Nat.reducePow, reduceCtorEq, Int.reduceLE, Int.reduceLT, Int.reduceToNat, ← List.map_take, ← List.map_drop, Int.reduceBEq, Int.reduceBNe]
  refine ⟨fun h => pWk_done rfl ⟨?_, rfl⟩, fun h => ⟨fun h => pWk_done rfl ⟨?_, rfl⟩, fun h => pWk_done rfl ⟨?_, rfl⟩⟩⟩
  all_goals simp_all [nthV, ruleName, annulS, forfeitS]
theorem k29 {r : Int} {H : Heap} {K : V → Heap → Prop} (h : K (.str (ruleName r)) H) : pCall Try.prog 29 [.i r] H K :=
  pCall_pv rfl rfl (ct29) h

def awardedG (g : Game) (t : Int) : Game := ⟨g.home, g.away, 0, 0, if g.away == t then 3 else 2⟩
theorem ct121 {g : Game} {t : Int} : Pu Try.prog 121 [vGame g, .i t] (vGame (awardedG g t)) := by
  apply c121; unfold t121
  simp only [go_sem, Nat.reduceAdd, Nat.reduceSub, Nat.reduceMul, Nat.reduceLeDiff, Nat.reduceLT, Nat.reduceEqDiff, ↓reduceIte, Nat.reducePow, reduceCtorEq, Int.reduceLE, Int.reduceLT, Int.reduceToNat, ← List.map_take, ← List.map_drop, Int.reduceBEq, Int.reduceBNe, vGame]
  (repeat' first | refine pWk_done rfl ⟨?_, rfl⟩ | refine And.intro (fun h => ?_) (fun h => ?_))
  all_goals ((try simp only [nthV]); (try simp_all [awardedG]); (try omega))
theorem k121 {g : Game} {t : Int} {H : Heap} {K : V → Heap → Prop} (h : K (vGame (awardedG g t)) H) : pCall Try.prog 121 [vGame g, .i t] H K :=
  pCall_pv rfl rfl (ct121) h

theorem ct118 {b : Book} {t : Int} (hl : b.field.length < 2000000) : Pu Try.prog 118 [vBook b, .i t] (.bool (within t 0 (b.field.length - 1))) := by
  apply c118; unfold t118
  simp only [go_sem, Nat.reduceAdd, Nat.reduceSub, Nat.reduceMul, Nat.reduceLeDiff, Nat.reduceLT, Nat.reduceEqDiff, ↓reduceIte, Nat.reducePow, reduceCtorEq, Int.reduceLE, Int.reduceLT, Int.reduceToNat, ← List.map_take, ← List.map_drop, Int.reduceBEq, Int.reduceBNe, vBook]
  rw [wrap64 (by omega) (by omega)]
  refine k139 ?_
  exact pWk_done rfl ⟨rfl, rfl⟩
theorem k118 {b : Book} {t : Int} (hl : b.field.length < 2000000) {H : Heap} {K : V → Heap → Prop} (h : K (.bool (within t 0 (b.field.length - 1))) H) : pCall Try.prog 118 [vBook b, .i t] H K :=
  pCall_pv rfl rfl (ct118 hl) h

theorem ct24 {nn : Bool} {xs : List Int} {n : Int} (hl : xs.length < 2 ^ 62) : Pu Try.prog 24 [.ints nn xs, .i n] (.bool (xs.contains n)) := by
  apply c24; unfold t24
  simp only [go_sem, Nat.reduceAdd, Nat.reduceSub, Nat.reduceMul, Nat.reduceLeDiff, Nat.reduceLT, Nat.reduceEqDiff, ↓reduceIte, Nat.reducePow, reduceCtorEq, Int.reduceLE, Int.reduceLT, Int.reduceToNat, ← List.map_take, ← List.map_drop, Int.reduceBEq, Int.reduceBNe]
  refine loop_st (fun k : Nat => ([V.i k], [])) (fun k => k ≤ xs.length ∧ (xs.take k).contains n = false) (fun k => xs.length - k) (pWk_done rfl ⟨0, ⟨by omega, by simp⟩, rfl, rfl⟩) ?_
  rintro μ k ⟨hk, hno⟩ nx
  simp only [go_sem, Nat.reduceAdd, Nat.reduceSub, Nat.reduceMul, Nat.reduceLeDiff, Nat.reduceLT, Nat.reduceEqDiff, ↓reduceIte, Nat.reducePow, reduceCtorEq, Int.reduceLE, Int.reduceLT, Int.reduceToNat, ← List.map_take, ← List.map_drop, Int.reduceBEq, Int.reduceBNe, Int.ofNat_lt, Int.natCast_nonneg, List.getElem?_map]
  refine ⟨fun hlt => ?_, fun hge => ?_⟩
  · have hx : xs[k]? = some xs[k] := List.getElem?_eq_getElem hlt
    simp only [go_sem, Nat.reduceAdd, Nat.reduceSub, Nat.reduceMul, Nat.reduceLeDiff, Nat.reduceLT, Nat.reduceEqDiff, ↓reduceIte, Nat.reducePow, reduceCtorEq, Int.reduceLE, Int.reduceLT, Int.reduceToNat, ← List.map_take, ← List.map_drop, Int.reduceBEq, Int.reduceBNe, hx]
    refine ⟨by omega, fun he => pWk_done rfl ⟨?_, rfl⟩, fun hne => ?_⟩
    · have : xs[k] = n := by simpa using he
      simp only [nthV, V.bool.injEq]
      exact (List.contains_iff_mem.2 (this ▸ List.getElem_mem hlt)).symm
    · rw [wrapN (by omega)]
      refine pWk_done rfl (nx (k + 1) ⟨by omega, ?_⟩ (by omega))
      rw [List.take_add_one, hx]
      simp only [Option.toList_some, List.contains_eq_mem, List.mem_append, List.mem_singleton] at hno ⊢
      have hn : ¬ n = xs[k] := fun e => by subst e; simp at hne
      simp_all
  · refine pWk_done rfl ⟨?_, rfl⟩
    have : k = xs.length := by omega
    subst this
    rw [List.take_length] at hno
    simp only [nthV, hno]
theorem k24 {nn : Bool} {xs : List Int} {n : Int} (hl : xs.length < 2 ^ 62) {H : Heap} {K : V → Heap → Prop} (h : K (.bool (xs.contains n)) H) : pCall Try.prog 24 [.ints nn xs, .i n] H K :=
  pCall_pv rfl rfl (ct24 hl) h

end Go.Sim

set_option maxRecDepth 100000
set_option linter.unusedSimpArgs false
set_option linter.unusedVariables false
namespace Go.Sim
open Go.Proofs

/-! ### closures that look only -/
/-- The closure `k` with what it holds tells `p`. -/
def Tells {α : Type} (k : FuncId) (caps : List V) (Hs : Heap) (enc : α → V) (l : List α) (p : α → Bool) : Prop :=
  ∀ x ∈ l, Ct Try.prog k (enc x :: caps) Hs (fun v H => v = .bool (p x) ∧ H = Hs)

theorem statics_map {α : Type} {enc : α → V} (he : ∀ x, (enc x).static = true) (l : List α) : V.statics (l.map enc) = true :=
  V.statics_iff.2 fun v hv => by
    obtain ⟨x, _, rfl⟩ := List.mem_map.1 hv
    exact he x

theorem ct279 {nn : Bool} {l : List Team} {k : FuncId} {caps : List V} {Hs : Heap} {p : Team → Bool} (hl : l.length < 4611686018427387904) (hc : V.wfs Hs.length caps = true) (hH : okH Hs = true) (ht : Tells k caps Hs vTeam l p) :
    Ct Try.prog 279 [.sl nn 3 (l.map vTeam), .fn k caps] Hs (fun v H => v = .i (idxI p l) ∧ H = Hs) := by
  apply c279; unfold t279
  simp only [go_sem, Nat.reduceAdd, Nat.reduceSub, Nat.reduceMul, Nat.reduceLeDiff, Nat.reduceLT, Nat.reduceEqDiff, ↓reduceIte, Nat.reducePow, reduceCtorEq, Int.reduceLE, Int.reduceLT, Int.reduceToNat, ← List.map_take, ← List.map_drop, Int.reduceBEq, Int.reduceBNe]
  refine loop_st (fun k : Nat => ([V.i k], Hs)) (fun k => k ≤ l.length ∧ ∀ j (hj : j < l.length), j < k → p l[j] = false) (fun k => l.length - k) (pWk_me rfl hH ⟨0, ⟨by omega, by intros; omega⟩, rfl, rfl⟩) ?_
  rintro μ i ⟨hi, hno⟩ nx
  simp only [go_sem, Nat.reduceAdd, Nat.reduceSub, Nat.reduceMul, Nat.reduceLeDiff, Nat.reduceLT, Nat.reduceEqDiff, ↓reduceIte, Nat.reducePow, reduceCtorEq, Int.reduceLE, Int.reduceLT, Int.reduceToNat, ← List.map_take, ← List.map_drop, Int.reduceBEq, Int.reduceBNe, Int.ofNat_lt, Int.natCast_nonneg, List.getElem?_map]
  refine ⟨fun hlt => ?_, fun hge => ?_⟩
  · have hx : l[i]? = some l[i] := List.getElem?_eq_getElem hlt
    simp only [go_sem, Nat.reduceAdd, Nat.reduceSub, Nat.reduceMul, Nat.reduceLeDiff, Nat.reduceLT, Nat.reduceEqDiff, ↓reduceIte, Nat.reducePow, reduceCtorEq, Int.reduceLE, Int.reduceLT, Int.reduceToNat, ← List.map_take, ← List.map_drop, Int.reduceBEq, Int.reduceBNe, hx, vTeam]
    refine ⟨by omega, ?_⟩
    refine pCall_me (by simp only [V.wfs, hc]; rfl) hH ((ht l[i] (List.getElem_mem hlt)).mono ?_)
    rintro v H' ⟨rfl, rfl⟩
    simp only [go_sem, Nat.reduceAdd, Nat.reduceSub, Nat.reduceMul, Nat.reduceLeDiff, Nat.reduceLT, Nat.reduceEqDiff, ↓reduceIte, Nat.reducePow, reduceCtorEq, Int.reduceLE, Int.reduceLT, Int.reduceToNat, ← List.map_take, ← List.map_drop, Int.reduceBEq, Int.reduceBNe]
    refine ⟨fun hp => pWk_me rfl hH ⟨?_, rfl⟩, fun hp => ?_⟩
    · rw [idxI_hit hlt hp hno]; rfl
    · rw [wrapN (by omega)]
      refine pWk_me rfl hH (nx (i + 1) ⟨by omega, fun j hj hji => ?_⟩ (by omega))
      rcases Nat.lt_succ_iff_lt_or_eq.1 hji with h | h
      · exact hno j hj h
      · subst h; exact hp
  · refine pWk_me rfl hH ⟨?_, rfl⟩
    rw [idxI_miss fun j hj => hno j hj (by omega)]; rfl

theorem ct280 {nn : Bool} {l : List Game} {k : FuncId} {caps : List V} {Hs : Heap} {p : Game → Bool} (hl : l.length < 4611686018427387904) (hc : V.wfs Hs.length caps = true) (hH : okH Hs = true) (ht : Tells k caps Hs vGame l p) :
    Ct Try.prog 280 [.sl nn 5 (l.map vGame), .fn k caps] Hs (fun v H => v = .i (idxI p l) ∧ H = Hs) := by
  apply c280; unfold t280
  simp only [go_sem, Nat.reduceAdd, Nat.reduceSub, Nat.reduceMul, Nat.reduceLeDiff, Nat.reduceLT, Nat.reduceEqDiff, ↓reduceIte, Nat.reducePow, reduceCtorEq, Int.reduceLE, Int.reduceLT, Int.reduceToNat, ← List.map_take, ← List.map_drop, Int.reduceBEq, Int.reduceBNe]
  refine loop_st (fun k : Nat => ([V.i k], Hs)) (fun k => k ≤ l.length ∧ ∀ j (hj : j < l.length), j < k → p l[j] = false) (fun k => l.length - k) (pWk_me rfl hH ⟨0, ⟨by omega, by intros; omega⟩, rfl, rfl⟩) ?_
  rintro μ i ⟨hi, hno⟩ nx
  simp only [go_sem, Nat.reduceAdd, Nat.reduceSub, Nat.reduceMul, Nat.reduceLeDiff, Nat.reduceLT, Nat.reduceEqDiff, ↓reduceIte, Nat.reducePow, reduceCtorEq, Int.reduceLE, Int.reduceLT, Int.reduceToNat, ← List.map_take, ← List.map_drop, Int.reduceBEq, Int.reduceBNe, Int.ofNat_lt, Int.natCast_nonneg, List.getElem?_map]
  refine ⟨fun hlt => ?_, fun hge => ?_⟩
  · have hx : l[i]? = some l[i] := List.getElem?_eq_getElem hlt
    simp only [go_sem, Nat.reduceAdd, Nat.reduceSub, Nat.reduceMul, Nat.reduceLeDiff, Nat.reduceLT, Nat.reduceEqDiff, ↓reduceIte, Nat.reducePow, reduceCtorEq, Int.reduceLE, Int.reduceLT, Int.reduceToNat, ← List.map_take, ← List.map_drop, Int.reduceBEq, Int.reduceBNe, hx, vGame]
    refine ⟨by omega, ?_⟩
    refine pCall_me (by simp only [V.wfs, hc]; rfl) hH ((ht l[i] (List.getElem_mem hlt)).mono ?_)
    rintro v H' ⟨rfl, rfl⟩
    simp only [go_sem, Nat.reduceAdd, Nat.reduceSub, Nat.reduceMul, Nat.reduceLeDiff, Nat.reduceLT, Nat.reduceEqDiff, ↓reduceIte, Nat.reducePow, reduceCtorEq, Int.reduceLE, Int.reduceLT, Int.reduceToNat, ← List.map_take, ← List.map_drop, Int.reduceBEq, Int.reduceBNe]
    refine ⟨fun hp => pWk_me rfl hH ⟨?_, rfl⟩, fun hp => ?_⟩
    · rw [idxI_hit hlt hp hno]; rfl
    · rw [wrapN (by omega)]
      refine pWk_me rfl hH (nx (i + 1) ⟨by omega, fun j hj hji => ?_⟩ (by omega))
      rcases Nat.lt_succ_iff_lt_or_eq.1 hji with h | h
      · exact hno j hj h
      · subst h; exact hp
  · refine pWk_me rfl hH ⟨?_, rfl⟩
    rw [idxI_miss fun j hj => hno j hj (by omega)]; rfl

theorem ct242 {nn : Bool} {l : List Int} {k : FuncId} {caps : List V} {Hs : Heap} {p : Int → Bool} (hl : l.length < 4611686018427387904) (hc : V.wfs Hs.length caps = true) (hH : okH Hs = true) (ht : Tells k caps Hs V.i l p) :
    Ct Try.prog 242 [.sl nn 1 (l.map V.i), .fn k caps] Hs (fun v H => v = .i (idxI p l) ∧ H = Hs) := by
  apply c242; unfold t242
  simp only [go_sem, Nat.reduceAdd, Nat.reduceSub, Nat.reduceMul, Nat.reduceLeDiff, Nat.reduceLT, Nat.reduceEqDiff, ↓reduceIte, Nat.reducePow, reduceCtorEq, Int.reduceLE, Int.reduceLT, Int.reduceToNat, ← List.map_take, ← List.map_drop, Int.reduceBEq, Int.reduceBNe]
  refine loop_st (fun k : Nat => ([V.i k], Hs)) (fun k => k ≤ l.length ∧ ∀ j (hj : j < l.length), j < k → p l[j] = false) (fun k => l.length - k) (pWk_me rfl hH ⟨0, ⟨by omega, by intros; omega⟩, rfl, rfl⟩) ?_
  rintro μ i ⟨hi, hno⟩ nx
  simp only [go_sem, Nat.reduceAdd, Nat.reduceSub, Nat.reduceMul, Nat.reduceLeDiff, Nat.reduceLT, Nat.reduceEqDiff, ↓reduceIte, Nat.reducePow, reduceCtorEq, Int.reduceLE, Int.reduceLT, Int.reduceToNat, ← List.map_take, ← List.map_drop, Int.reduceBEq, Int.reduceBNe, Int.ofNat_lt, Int.natCast_nonneg, List.getElem?_map]
  refine ⟨fun hlt => ?_, fun hge => ?_⟩
  · have hx : l[i]? = some l[i] := List.getElem?_eq_getElem hlt
    simp only [go_sem, Nat.reduceAdd, Nat.reduceSub, Nat.reduceMul, Nat.reduceLeDiff, Nat.reduceLT, Nat.reduceEqDiff, ↓reduceIte, Nat.reducePow, reduceCtorEq, Int.reduceLE, Int.reduceLT, Int.reduceToNat, ← List.map_take, ← List.map_drop, Int.reduceBEq, Int.reduceBNe, hx, V.i]
    refine ⟨by omega, ?_⟩
    refine pCall_me (by simp only [V.wfs, hc]; rfl) hH ((ht l[i] (List.getElem_mem hlt)).mono ?_)
    rintro v H' ⟨rfl, rfl⟩
    simp only [go_sem, Nat.reduceAdd, Nat.reduceSub, Nat.reduceMul, Nat.reduceLeDiff, Nat.reduceLT, Nat.reduceEqDiff, ↓reduceIte, Nat.reducePow, reduceCtorEq, Int.reduceLE, Int.reduceLT, Int.reduceToNat, ← List.map_take, ← List.map_drop, Int.reduceBEq, Int.reduceBNe]
    refine ⟨fun hp => pWk_me rfl hH ⟨?_, rfl⟩, fun hp => ?_⟩
    · rw [idxI_hit hlt hp hno]; rfl
    · rw [wrapN (by omega)]
      refine pWk_me rfl hH (nx (i + 1) ⟨by omega, fun j hj hji => ?_⟩ (by omega))
      rcases Nat.lt_succ_iff_lt_or_eq.1 hji with h | h
      · exact hno j hj h
      · subst h; exact hp
  · refine pWk_me rfl hH ⟨?_, rfl⟩
    rw [idxI_miss fun j hj => hno j hj (by omega)]; rfl


theorem ct235 {nn : Bool} {l : List Team} {k : FuncId} {caps : List V} {Hs : Heap} {p : Team → Bool} (hl : l.length < 4611686018427387904) (hc : V.wfs Hs.length caps = true) (hH : okH Hs = true) (ht : Tells k caps Hs vTeam l p) :
    Ct Try.prog 235 [.sl nn 3 (l.map vTeam), .fn k caps] Hs (fun v H => v = .bool (l.any p) ∧ H = Hs) := by
  apply c235; unfold t235
  refine pCall_me (by simp only [V.wfs, V.wf, hc]; rfl) hH ((ct279 hl hc hH ht).mono ?_)
  rintro v H' ⟨rfl, rfl⟩
  simp only [go_sem, Nat.reduceAdd, Nat.reduceSub, Nat.reduceMul, Nat.reduceLeDiff, Nat.reduceLT, Nat.reduceEqDiff, ↓reduceIte, Nat.reducePow, reduceCtorEq, Int.reduceLE, Int.reduceLT, Int.reduceToNat, ← List.map_take, ← List.map_drop, Int.reduceBEq, Int.reduceBNe]
  rw [idxI_ge]
  exact pWk_me rfl hH ⟨rfl, rfl⟩

theorem ct240 {nn : Bool} {l : List Int} {k : FuncId} {caps : List V} {Hs : Heap} {p : Int → Bool} (hl : l.length < 4611686018427387904) (hc : V.wfs Hs.length caps = true) (hH : okH Hs = true) (ht : Tells k caps Hs V.i l p) :
    Ct Try.prog 240 [.sl nn 1 (l.map V.i), .fn k caps] Hs (fun v H => v = .bool (l.any p) ∧ H = Hs) := by
  apply c240; unfold t240
  refine pCall_me (by simp only [V.wfs, V.wf, hc]; rfl) hH ((ct242 hl hc hH ht).mono ?_)
  rintro v H' ⟨rfl, rfl⟩
  simp only [go_sem, Nat.reduceAdd, Nat.reduceSub, Nat.reduceMul, Nat.reduceLeDiff, Nat.reduceLT, Nat.reduceEqDiff, ↓reduceIte, Nat.reducePow, reduceCtorEq, Int.reduceLE, Int.reduceLT, Int.reduceToNat, ← List.map_take, ← List.map_drop, Int.reduceBEq, Int.reduceBNe]
  rw [idxI_ge]
  exact pWk_me rfl hH ⟨rfl, rfl⟩


end Go.Sim

set_option maxRecDepth 100000
set_option linter.unusedSimpArgs false
set_option linter.unusedVariables false
namespace Go.Sim
open Go.Proofs

def isNameAt (s : ByteArray) (i : Nat) : Bool := match s[i]? with
  | some b => decide (97 ≤ (b.toNat : Int)) && decide ((b.toNat : Int) ≤ 122) || !((i : Int) == 0) && decide (48 ≤ (b.toNat : Int)) && decide ((b.toNat : Int) ≤ 57)
  | none => false
def isName (s : ByteArray) : Bool := (List.range s.size).all (isNameAt s) && within s.size 1 8

theorem bytes_some {s : ByteArray} {i : Nat} (h : i < s.size) : s[i]? = some s[i] := by simp [h]

theorem ct278 {s : ByteArray} (hs : s.size < 4611686018427387904) : Pu Try.prog 278 [.str s] (.bool (isName s)) := by
  apply c278; unfold t278
  simp only [go_sem, Nat.reduceAdd, Nat.reduceSub, Nat.reduceMul, Nat.reduceLeDiff, Nat.reduceLT, Nat.reduceEqDiff, ↓reduceIte, Nat.reducePow, reduceCtorEq, Int.reduceLE, Int.reduceLT, Int.reduceToNat, ← List.map_take, ← List.map_drop, Int.reduceBEq, Int.reduceBNe]
  refine loop_st (fun k : Nat => ([V.i k], [])) (fun k => k ≤ s.size ∧ ∀ j, j < k → isNameAt s j = true) (fun k => s.size - k) (pWk_done rfl ⟨0, ⟨by omega, by intros; omega⟩, rfl, rfl⟩) ?_
  rintro μ k ⟨hk, hno⟩ nx
  simp only [go_sem, Nat.reduceAdd, Nat.reduceSub, Nat.reduceMul, Nat.reduceLeDiff, Nat.reduceLT, Nat.reduceEqDiff, ↓reduceIte, Nat.reducePow, reduceCtorEq, Int.reduceLE, Int.reduceLT, Int.reduceToNat, ← List.map_take, ← List.map_drop, Int.reduceBEq, Int.reduceBNe, Int.ofNat_lt, Int.natCast_nonneg]
  refine ⟨fun hlt => ?_, fun hge => ?_⟩
  · have hx := bytes_some hlt
    have hat : isNameAt s k = (decide (97 ≤ (s[k].toNat : Int)) && decide ((s[k].toNat : Int) ≤ 122) || !((k : Int) == 0) && decide (48 ≤ (s[k].toNat : Int)) && decide ((s[k].toNat : Int) ≤ 57)) := by unfold isNameAt; rw [hx]
    have bad : isNameAt s k = false → isName s = false := fun h => by
      unfold isName
      rw [List.all_eq_false.2 ⟨k, List.mem_range.2 hlt, by simp [h]⟩]; rfl
    have good : isNameAt s k = true → ∀ j, j < k + 1 → isNameAt s j = true := fun h j hj => by
      rcases Nat.lt_succ_iff_lt_or_eq.1 hj with h' | h'
      · exact hno j h'
      · subst h'; exact h
    simp only [go_sem, Nat.reduceAdd, Nat.reduceSub, Nat.reduceMul, Nat.reduceLeDiff, Nat.reduceLT, Nat.reduceEqDiff, ↓reduceIte, Nat.reducePow, reduceCtorEq, Int.reduceLE, Int.reduceLT, Int.reduceToNat, ← List.map_take, ← List.map_drop, Int.reduceBEq, Int.reduceBNe, hx, wrapN (show k < 4611686018427387904 by omega)]
    repeat' first | refine And.intro (fun h => ?_) (fun h => ?_) | refine pWk_done rfl (nx (k + 1) ⟨by omega, good ?_⟩ (by omega)) | refine pWk_done rfl ⟨congrArg V.bool (bad ?_).symm, rfl⟩ | refine And.intro (by omega) ?_
    all_goals simp_all
    all_goals omega
  · refine k139 ?_
    refine pWk_done rfl ⟨congrArg V.bool ?_, rfl⟩
    unfold isName
    rw [List.all_eq_true.2 fun j hj => hno j (by have := List.mem_range.1 hj; omega)]; rfl
theorem k278 {s : ByteArray} (hs : s.size < 4611686018427387904) {H : Heap} {K : V → Heap → Prop} (h : K (.bool (isName s)) H) : pCall Try.prog 278 [.str s] H K := pCall_pv rfl rfl (ct278 hs) h

def teamOk (t : Team) : Bool := isName t.name && within t.club 0 5 && within t.seed 1 8
theorem ct234 {t : Team} (hs : t.name.size < 4611686018427387904) : Pu Try.prog 234 [vTeam t] (.bool (teamOk t)) := by
  apply c234; unfold t234
  simp only [go_sem, Nat.reduceAdd, Nat.reduceSub, Nat.reduceMul, Nat.reduceLeDiff, Nat.reduceLT, Nat.reduceEqDiff, ↓reduceIte, Nat.reducePow, reduceCtorEq, Int.reduceLE, Int.reduceLT, Int.reduceToNat, ← List.map_take, ← List.map_drop, Int.reduceBEq, Int.reduceBNe, vTeam]
  (repeat' first | refine pWk_done rfl ⟨?_, rfl⟩ | (refine k278 hs ?_; try simp only [go_sem, Nat.reduceAdd, Nat.reduceSub, Nat.reduceMul, Nat.reduceLeDiff, Nat.reduceLT, Nat.reduceEqDiff, ↓reduceIte, Nat.reducePow, reduceCtorEq, Int.reduceLE, Int.reduceLT, Int.reduceToNat, ← List.map_take, ← List.map_drop, Int.reduceBEq, Int.reduceBNe]) | (refine k139 ?_; try simp only [go_sem, Nat.reduceAdd, Nat.reduceSub, Nat.reduceMul, Nat.reduceLeDiff, Nat.reduceLT, Nat.reduceEqDiff, ↓reduceIte, Nat.reducePow, reduceCtorEq, Int.reduceLE, Int.reduceLT, Int.reduceToNat, ← List.map_take, ← List.map_drop, Int.reduceBEq, Int.reduceBNe]) | refine And.intro (fun h => ?_) (fun h => ?_))
  all_goals ((try simp only [nthV]); (try simp_all [teamOk]); (try omega))
theorem k234 {t : Team} (hs : t.name.size < 4611686018427387904) {H : Heap} {K : V → Heap → Prop} (h : K (.bool (teamOk t)) H) : pCall Try.prog 234 [vTeam t] H K :=
  pCall_pv rfl rfl (ct234 hs) h

/-- Two teams of a name or a seed. -/
def clash (t x : Team) : Bool := x.name == t.name || x.seed == t.seed
theorem ct236 {x t : Team} : Ct Try.prog 236 [vTeam x, .ptr 0 0 0] [.box 178 (vTeam t)] (fun v H => v = .bool (clash t x) ∧ H = [.box 178 (vTeam t)]) := by
  apply c236; unfold t236
  simp only [go_sem, Nat.reduceAdd, Nat.reduceSub, Nat.reduceMul, Nat.reduceLeDiff, Nat.reduceLT, Nat.reduceEqDiff, ↓reduceIte, Nat.reducePow, reduceCtorEq, Int.reduceLE, Int.reduceLT, Int.reduceToNat, ← List.map_take, ← List.map_drop, Int.reduceBEq, Int.reduceBNe, vTeam]
  refine ⟨fun h => ?_, fun h => ?_⟩
  · exact pWk_take rfl ⟨by simp [clash, nthV, h], rfl⟩
  · exact pWk_take rfl ⟨by simp [clash, nthV, h], rfl⟩

def fieldOk (l : List Team) : Bool := allPre (fun pre t => teamOk t && !(pre.any (clash t))) l && within l.length 2 8

theorem ct122 {nn : Bool} {l : List Team} (hl : l.length < 2000000) (hs : ∀ t ∈ l, t.name.size < 4611686018427387904) : Pu Try.prog 122 [vTeams nn l] (.bool (fieldOk l)) := by
  apply c122; unfold t122
  simp only [go_sem, Nat.reduceAdd, Nat.reduceSub, Nat.reduceMul, Nat.reduceLeDiff, Nat.reduceLT, Nat.reduceEqDiff, ↓reduceIte, Nat.reducePow, reduceCtorEq, Int.reduceLE, Int.reduceLT, Int.reduceToNat, ← List.map_take, ← List.map_drop, Int.reduceBEq, Int.reduceBNe]
  refine loop_st (fun k : Nat => ([V.i k], [])) (fun k => k ≤ l.length ∧ ∀ j (hj : j < l.length), j < k → (teamOk l[j] && !((l.take j).any (clash l[j]))) = true) (fun k => l.length - k) (pWk_done rfl ⟨0, ⟨by omega, by intros; omega⟩, rfl, rfl⟩) ?_
  rintro μ k ⟨hk, hno⟩ nx
  simp only [go_sem, Nat.reduceAdd, Nat.reduceSub, Nat.reduceMul, Nat.reduceLeDiff, Nat.reduceLT, Nat.reduceEqDiff, ↓reduceIte, Nat.reducePow, reduceCtorEq, Int.reduceLE, Int.reduceLT, Int.reduceToNat, ← List.map_take, ← List.map_drop, Int.reduceBEq, Int.reduceBNe, Int.ofNat_lt, Int.ofNat_le, Int.natCast_nonneg, List.getElem?_map]
  refine ⟨fun hlt => ?_, fun hge => ?_⟩
  · have hx : l[k]? = some l[k] := List.getElem?_eq_getElem hlt
    have bad : (teamOk l[k] && !((l.take k).any (clash l[k]))) = false → fieldOk l = false := fun h => by
      unfold fieldOk
      rw [allPre_false hlt h]; rfl
    simp only [go_sem, Nat.reduceAdd, Nat.reduceSub, Nat.reduceMul, Nat.reduceLeDiff, Nat.reduceLT, Nat.reduceEqDiff, ↓reduceIte, Nat.reducePow, reduceCtorEq, Int.reduceLE, Int.reduceLT, Int.reduceToNat, ← List.map_take, ← List.map_drop, Int.reduceBEq, Int.reduceBNe, hx, vTeam]
    refine ⟨by omega, ?_⟩
    refine k234 (t := l[k]) (hs _ (List.getElem_mem hlt)) ?_
    simp only [go_sem, Nat.reduceAdd, Nat.reduceSub, Nat.reduceMul, Nat.reduceLeDiff, Nat.reduceLT, Nat.reduceEqDiff, ↓reduceIte, Nat.reducePow, reduceCtorEq, Int.reduceLE, Int.reduceLT, Int.reduceToNat, ← List.map_take, ← List.map_drop, Int.reduceBEq, Int.reduceBNe, Int.ofNat_le, Int.natCast_nonneg]
    refine ⟨fun h => pWk_done rfl ⟨congrArg V.bool (bad (by simp at h; simp [h])).symm, rfl⟩, fun h => ⟨by omega, ?_⟩⟩
    refine pCall_look [0] (ct235 (nn := nn) (l := l.take k) (Hs := [.box 178 (vTeam l[k])]) (p := clash l[k]) (by simp; omega) rfl rfl (fun x _ => ct236)) rfl rfl rfl rfl ?_
    simp only [go_sem, Nat.reduceAdd, Nat.reduceSub, Nat.reduceMul, Nat.reduceLeDiff, Nat.reduceLT, Nat.reduceEqDiff, ↓reduceIte, Nat.reducePow, reduceCtorEq, Int.reduceLE, Int.reduceLT, Int.reduceToNat, ← List.map_take, ← List.map_drop, Int.reduceBEq, Int.reduceBNe, wrapN (show k < 4611686018427387904 by omega)]
    refine ⟨fun h2 => pWk_done rfl ⟨congrArg V.bool (bad (by simp only [h2]; simp)).symm, rfl⟩, fun h2 => pWk_done rfl (nx (k + 1) ⟨by omega, fun j hj hji => ?_⟩ (by omega))⟩
    rcases Nat.lt_succ_iff_lt_or_eq.1 hji with h' | h'
    · exact hno j hj h'
    · subst h'; simp only [h2]; simpa using h
  · refine k139 ?_
    refine pWk_done rfl ⟨congrArg V.bool ?_, rfl⟩
    unfold fieldOk
    rw [allPre_iff.2 fun j hj => hno j hj (by omega)]; rfl
theorem k122 {nn : Bool} {l : List Team} (hl : l.length < 2000000) (hs : ∀ t ∈ l, t.name.size < 4611686018427387904) {H : Heap} {K : V → Heap → Prop} (h : K (.bool (fieldOk l)) H) : pCall Try.prog 122 [vTeams nn l] H K := pCall_pv rfl rfl (ct122 hl hs) h

end Go.Sim

set_option maxRecDepth 100000
set_option linter.unusedSimpArgs false
set_option linter.unusedVariables false
namespace Go.Sim
open Go.Proofs

theorem ct248 {nn : Bool} {l : List Int} {n : Int} (hl : l.length < 4611686018427387904) : Pu Try.prog 248 [.ints nn l, .i n] (.i (idxI (fun x => n == x) l)) := by
  apply c248; unfold t248
  simp only [go_sem, Nat.reduceAdd, Nat.reduceSub, Nat.reduceMul, Nat.reduceLeDiff, Nat.reduceLT, Nat.reduceEqDiff, ↓reduceIte, Nat.reducePow, reduceCtorEq, Int.reduceLE, Int.reduceLT, Int.reduceToNat, ← List.map_take, ← List.map_drop, Int.reduceBEq, Int.reduceBNe]
  refine loop_st (fun k : Nat => ([V.i k], [])) (fun k => k ≤ l.length ∧ ∀ j (hj : j < l.length), j < k → (n == l[j]) = false) (fun k => l.length - k) (pWk_done rfl ⟨0, ⟨by omega, by intros; omega⟩, rfl, rfl⟩) ?_
  rintro μ i ⟨hi, hno⟩ nx
  simp only [go_sem, Nat.reduceAdd, Nat.reduceSub, Nat.reduceMul, Nat.reduceLeDiff, Nat.reduceLT, Nat.reduceEqDiff, ↓reduceIte, Nat.reducePow, reduceCtorEq, Int.reduceLE, Int.reduceLT, Int.reduceToNat, ← List.map_take, ← List.map_drop, Int.reduceBEq, Int.reduceBNe, Int.ofNat_lt, Int.natCast_nonneg, List.getElem?_map]
  refine ⟨fun hlt => ?_, fun hge => ?_⟩
  · have hx : l[i]? = some l[i] := List.getElem?_eq_getElem hlt
    simp only [go_sem, Nat.reduceAdd, Nat.reduceSub, Nat.reduceMul, Nat.reduceLeDiff, Nat.reduceLT, Nat.reduceEqDiff, ↓reduceIte, Nat.reducePow, reduceCtorEq, Int.reduceLE, Int.reduceLT, Int.reduceToNat, ← List.map_take, ← List.map_drop, Int.reduceBEq, Int.reduceBNe, hx, wrapN (show i < 4611686018427387904 by omega)]
    refine ⟨by omega, fun hp => pWk_done rfl ⟨?_, rfl⟩, fun hp => ?_⟩
    · rw [idxI_hit hlt hp hno]; rfl
    · refine pWk_done rfl (nx (i + 1) ⟨by omega, fun j hj hji => ?_⟩ (by omega))
      rcases Nat.lt_succ_iff_lt_or_eq.1 hji with h | h
      · exact hno j hj h
      · subst h; exact hp
  · refine pWk_done rfl ⟨?_, rfl⟩
    rw [idxI_miss fun j hj => hno j hj (by omega)]; rfl
theorem any_contains {l : List Int} {n : Int} : l.any (fun x => n == x) = l.contains n := by
  rw [List.contains_eq_any_beq]
theorem ct140 {nn : Bool} {l : List Int} {n : Int} (hl : l.length < 4611686018427387904) : Pu Try.prog 140 [.ints nn l, .i n] (.bool (l.contains n)) := by
  apply c140; unfold t140
  refine pCall_pv rfl rfl (ct248 hl) ?_
  simp only [go_sem, Nat.reduceAdd, Nat.reduceSub, Nat.reduceMul, Nat.reduceLeDiff, Nat.reduceLT, Nat.reduceEqDiff, ↓reduceIte, Nat.reducePow, reduceCtorEq, Int.reduceLE, Int.reduceLT, Int.reduceToNat, ← List.map_take, ← List.map_drop, Int.reduceBEq, Int.reduceBNe]
  rw [idxI_ge, any_contains]
  exact pWk_done rfl ⟨rfl, rfl⟩
theorem k140 {nn : Bool} {l : List Int} {n : Int} (hl : l.length < 4611686018427387904) {H : Heap} {K : V → Heap → Prop} (h : K (.bool (l.contains n)) H) : pCall Try.prog 140 [.ints nn l, .i n] H K := pCall_pv rfl rfl (ct140 hl) h

def rulesOk (u : Rules) : Bool := allPre (fun pre k => within k 1 8 && !(pre.contains k)) u.ladder && (decide (0 ≤ u.loss) && decide (u.loss ≤ u.draw) && decide (u.draw ≤ u.win) && decide (u.win ≤ 10)) && within u.ladder.length 1 8
theorem ct123 {u : Rules} (hl : u.ladder.length < 2000000) : Pu Try.prog 123 [vRules u] (.bool (rulesOk u)) := by
  apply c123; unfold t123
  simp only [go_sem, Nat.reduceAdd, Nat.reduceSub, Nat.reduceMul, Nat.reduceLeDiff, Nat.reduceLT, Nat.reduceEqDiff, ↓reduceIte, Nat.reducePow, reduceCtorEq, Int.reduceLE, Int.reduceLT, Int.reduceToNat, ← List.map_take, ← List.map_drop, Int.reduceBEq, Int.reduceBNe, vRules]
  refine loop_st (fun k : Nat => ([V.i k], [Blk.box 26 (vRules u)])) (fun k => k ≤ u.ladder.length ∧ ∀ j (hj : j < u.ladder.length), j < k → (within u.ladder[j] 1 8 && !((u.ladder.take j).contains u.ladder[j])) = true) (fun k => u.ladder.length - k) (pWk_take rfl ⟨0, ⟨by omega, by intros; omega⟩, rfl, rfl⟩) ?_
  rintro μ k ⟨hk, hno⟩ nx
  simp only [go_sem, Nat.reduceAdd, Nat.reduceSub, Nat.reduceMul, Nat.reduceLeDiff, Nat.reduceLT, Nat.reduceEqDiff, ↓reduceIte, Nat.reducePow, reduceCtorEq, Int.reduceLE, Int.reduceLT, Int.reduceToNat, ← List.map_take, ← List.map_drop, Int.reduceBEq, Int.reduceBNe, vRules, Int.ofNat_lt, Int.ofNat_le, Int.natCast_nonneg, List.getElem?_map]
  refine ⟨fun hlt => ?_, fun hge => ?_⟩
  · have hx : u.ladder[k]? = some u.ladder[k] := List.getElem?_eq_getElem hlt
    have bad : (within u.ladder[k] 1 8 && !((u.ladder.take k).contains u.ladder[k])) = false → rulesOk u = false := fun h => by
      unfold rulesOk
      rw [allPre_false hlt h]; rfl
    simp only [go_sem, Nat.reduceAdd, Nat.reduceSub, Nat.reduceMul, Nat.reduceLeDiff, Nat.reduceLT, Nat.reduceEqDiff, ↓reduceIte, Nat.reducePow, reduceCtorEq, Int.reduceLE, Int.reduceLT, Int.reduceToNat, ← List.map_take, ← List.map_drop, Int.reduceBEq, Int.reduceBNe, hx]
    refine ⟨by omega, ?_⟩
    refine k237 ?_
    simp only [go_sem, Nat.reduceAdd, Nat.reduceSub, Nat.reduceMul, Nat.reduceLeDiff, Nat.reduceLT, Nat.reduceEqDiff, ↓reduceIte, Nat.reducePow, reduceCtorEq, Int.reduceLE, Int.reduceLT, Int.reduceToNat, ← List.map_take, ← List.map_drop, Int.reduceBEq, Int.reduceBNe, Int.ofNat_le, Int.natCast_nonneg]
    refine ⟨fun h => pWk_done rfl ⟨congrArg V.bool (bad (by simp at h; simp [h])).symm, rfl⟩, fun h => ⟨by omega, ?_⟩⟩
    refine k140 (l := u.ladder.take k) (by simp; omega) ?_
    simp only [go_sem, Nat.reduceAdd, Nat.reduceSub, Nat.reduceMul, Nat.reduceLeDiff, Nat.reduceLT, Nat.reduceEqDiff, ↓reduceIte, Nat.reducePow, reduceCtorEq, Int.reduceLE, Int.reduceLT, Int.reduceToNat, ← List.map_take, ← List.map_drop, Int.reduceBEq, Int.reduceBNe, wrapN (show k < 4611686018427387904 by omega)]
    refine ⟨fun h2 => pWk_done rfl ⟨congrArg V.bool (bad (by simp only [h2]; simp)).symm, rfl⟩, fun h2 => pWk_take rfl (nx (k + 1) ⟨by omega, fun j hj hji => ?_⟩ (by omega))⟩
    rcases Nat.lt_succ_iff_lt_or_eq.1 hji with h' | h'
    · exact hno j hj h'
    · subst h'; simp only [h2]; simpa using h
  · have ha : allPre (fun pre k => within k 1 8 && !(pre.contains k)) u.ladder = true := allPre_iff.2 fun j hj => hno j hj (by omega)
    repeat' first | refine pWk_done rfl ⟨congrArg V.bool ?_, rfl⟩ | (refine k139 ?_; try simp only [go_sem, Nat.reduceAdd, Nat.reduceSub, Nat.reduceMul, Nat.reduceLeDiff, Nat.reduceLT, Nat.reduceEqDiff, ↓reduceIte, Nat.reducePow, reduceCtorEq, Int.reduceLE, Int.reduceLT, Int.reduceToNat, ← List.map_take, ← List.map_drop, Int.reduceBEq, Int.reduceBNe]) | refine And.intro (fun h => ?_) (fun h => ?_)
    all_goals (unfold rulesOk; simp_all)
    all_goals (intros; omega)
theorem k123 {u : Rules} (hl : u.ladder.length < 2000000) {H : Heap} {K : V → Heap → Prop} (h : K (.bool (rulesOk u)) H) : pCall Try.prog 123 [vRules u] H K := pCall_pv rfl rfl (ct123 hl) h

def gameOk (n : Int) (g : Game) : Bool := within n 2 8 && (g.home != g.away) && within g.home 0 (n - 1) && within g.away 0 (n - 1) && within g.st 0 4 && within g.hg 0 (if g.st == 1 then 99 else 0) && within g.ag 0 (if g.st == 1 then 99 else 0)
theorem ct238 {n : Int} {g : Game} (hn : -2000000 < n) (hn2 : n < 2000000) : Pu Try.prog 238 [.i n, vGame g] (.bool (gameOk n g)) := by
  apply c238; unfold t238
  simp only [go_sem, Nat.reduceAdd, Nat.reduceSub, Nat.reduceMul, Nat.reduceLeDiff, Nat.reduceLT, Nat.reduceEqDiff, ↓reduceIte, Nat.reducePow, reduceCtorEq, Int.reduceLE, Int.reduceLT, Int.reduceToNat, ← List.map_take, ← List.map_drop, Int.reduceBEq, Int.reduceBNe, vGame, wrap64 (n := n - 1) (by omega) (by omega)]
  repeat' first | refine pWk_done rfl ⟨congrArg V.bool ?_, rfl⟩ | (refine k139 ?_; try simp only [go_sem, Nat.reduceAdd, Nat.reduceSub, Nat.reduceMul, Nat.reduceLeDiff, Nat.reduceLT, Nat.reduceEqDiff, ↓reduceIte, Nat.reducePow, reduceCtorEq, Int.reduceLE, Int.reduceLT, Int.reduceToNat, ← List.map_take, ← List.map_drop, Int.reduceBEq, Int.reduceBNe, wrap64 (n := n - 1) (by omega) (by omega)]) | refine And.intro (fun h => ?_) (fun h => ?_)
  all_goals simp_all [gameOk]
theorem k238 {n : Int} {g : Game} (hn : -2000000 < n) (hn2 : n < 2000000) {H : Heap} {K : V → Heap → Prop} (h : K (.bool (gameOk n g)) H) : pCall Try.prog 238 [.i n, vGame g] H K :=
  pCall_pv rfl rfl (ct238 hn hn2) h

def samePair (a b : Int) (x : Game) : Bool := x.home == a && x.away == b
theorem ct281 {x : Game} {a b : Int} : Ct Try.prog 281 [vGame x, .ptr 0 0 0, .ptr 1 0 0] [.box 3 (.i a), .box 3 (.i b)] (fun v H => v = .bool (samePair a b x) ∧ H = [.box 3 (.i a), .box 3 (.i b)]) := by
  apply c281; unfold t281
  simp only [go_sem, Nat.reduceAdd, Nat.reduceSub, Nat.reduceMul, Nat.reduceLeDiff, Nat.reduceLT, Nat.reduceEqDiff, ↓reduceIte, Nat.reducePow, reduceCtorEq, Int.reduceLE, Int.reduceLT, Int.reduceToNat, ← List.map_take, ← List.map_drop, Int.reduceBEq, Int.reduceBNe, vGame]
  refine ⟨fun h => ?_, fun h => ?_⟩
  · exact pWk_take rfl ⟨by simp [samePair, nthV, h], rfl⟩
  · exact pWk_take rfl ⟨by simp [samePair, nthV, h], rfl⟩
theorem ct239 {nn : Bool} {l : List Game} {a b : Int} (hl : l.length < 4611686018427387904) : Pu Try.prog 239 [vGames nn l, .i a, .i b] (.i (idxI (samePair a b) l)) := by
  apply c239; unfold t239
  simp only [go_sem, Nat.reduceAdd, Nat.reduceSub, Nat.reduceMul, Nat.reduceLeDiff, Nat.reduceLT, Nat.reduceEqDiff, ↓reduceIte, Nat.reducePow, reduceCtorEq, Int.reduceLE, Int.reduceLT, Int.reduceToNat, ← List.map_take, ← List.map_drop, Int.reduceBEq, Int.reduceBNe]
  refine pCall_look [0, 1] (ct280 (nn := nn) (l := l) (Hs := [.box 3 (.i a), .box 3 (.i b)]) (p := samePair a b) hl rfl rfl (fun x _ => ct281)) rfl rfl rfl rfl ?_
  exact pWk_done rfl ⟨rfl, rfl⟩
theorem k239 {nn : Bool} {l : List Game} {a b : Int} (hl : l.length < 4611686018427387904) {H : Heap} {K : V → Heap → Prop} (h : K (.i (idxI (samePair a b) l)) H) : pCall Try.prog 239 [vGames nn l, .i a, .i b] H K :=
  pCall_pv rfl rfl (ct239 hl) h

def seasonOk (n : Int) (l : List Game) : Bool := allPre (fun pre g => gameOk n g && !(pre.any (samePair g.home g.away))) l && decide (l.length ≤ 60)
theorem ct124 {n : Int} {nn : Bool} {l : List Game} (hn : -2000000 < n) (hn2 : n < 2000000) (hl : l.length < 4000000) : Pu Try.prog 124 [.i n, vGames nn l] (.bool (seasonOk n l)) := by
  apply c124; unfold t124
  simp only [go_sem, Nat.reduceAdd, Nat.reduceSub, Nat.reduceMul, Nat.reduceLeDiff, Nat.reduceLT, Nat.reduceEqDiff, ↓reduceIte, Nat.reducePow, reduceCtorEq, Int.reduceLE, Int.reduceLT, Int.reduceToNat, ← List.map_take, ← List.map_drop, Int.reduceBEq, Int.reduceBNe]
  refine loop_st (fun k : Nat => ([V.i k], [])) (fun k => k ≤ l.length ∧ ∀ j (hj : j < l.length), j < k → (gameOk n l[j] && !((l.take j).any (samePair l[j].home l[j].away))) = true) (fun k => l.length - k) (pWk_done rfl ⟨0, ⟨by omega, by intros; omega⟩, rfl, rfl⟩) ?_
  rintro μ k ⟨hk, hno⟩ nx
  simp only [go_sem, Nat.reduceAdd, Nat.reduceSub, Nat.reduceMul, Nat.reduceLeDiff, Nat.reduceLT, Nat.reduceEqDiff, ↓reduceIte, Nat.reducePow, reduceCtorEq, Int.reduceLE, Int.reduceLT, Int.reduceToNat, ← List.map_take, ← List.map_drop, Int.reduceBEq, Int.reduceBNe, Int.ofNat_lt, Int.ofNat_le, Int.natCast_nonneg, List.getElem?_map]
  refine ⟨fun hlt => ?_, fun hge => ?_⟩
  · have hx : l[k]? = some l[k] := List.getElem?_eq_getElem hlt
    have bad : (gameOk n l[k] && !((l.take k).any (samePair l[k].home l[k].away))) = false → seasonOk n l = false := fun h => by
      unfold seasonOk
      rw [allPre_false hlt h]; rfl
    simp only [go_sem, Nat.reduceAdd, Nat.reduceSub, Nat.reduceMul, Nat.reduceLeDiff, Nat.reduceLT, Nat.reduceEqDiff, ↓reduceIte, Nat.reducePow, reduceCtorEq, Int.reduceLE, Int.reduceLT, Int.reduceToNat, ← List.map_take, ← List.map_drop, Int.reduceBEq, Int.reduceBNe, hx, vGame]
    refine ⟨by omega, ?_⟩
    refine k238 (g := l[k]) hn hn2 ?_
    simp only [go_sem, Nat.reduceAdd, Nat.reduceSub, Nat.reduceMul, Nat.reduceLeDiff, Nat.reduceLT, Nat.reduceEqDiff, ↓reduceIte, Nat.reducePow, reduceCtorEq, Int.reduceLE, Int.reduceLT, Int.reduceToNat, ← List.map_take, ← List.map_drop, Int.reduceBEq, Int.reduceBNe, Int.ofNat_le, Int.natCast_nonneg]
    refine ⟨fun h => pWk_done rfl ⟨congrArg V.bool (bad (by simp at h; simp [h])).symm, rfl⟩, fun h => ⟨by omega, ?_⟩⟩
    refine k239 (l := l.take k) (by simp; omega) ?_
    simp only [go_sem, Nat.reduceAdd, Nat.reduceSub, Nat.reduceMul, Nat.reduceLeDiff, Nat.reduceLT, Nat.reduceEqDiff, ↓reduceIte, Nat.reducePow, reduceCtorEq, Int.reduceLE, Int.reduceLT, Int.reduceToNat, ← List.map_take, ← List.map_drop, Int.reduceBEq, Int.reduceBNe, wrapN (show k < 4611686018427387904 by omega)]
    simp only [idxI_nn, Bool.not_eq_true]
    refine ⟨fun h2 => pWk_done rfl ⟨congrArg V.bool (bad (by simp only [h2]; simp)).symm, rfl⟩, fun h2 => pWk_done rfl (nx (k + 1) ⟨by omega, fun j hj hji => ?_⟩ (by omega))⟩
    rcases Nat.lt_succ_iff_lt_or_eq.1 hji with h' | h'
    · exact hno j hj h'
    · subst h'; simp only [h2]; simpa using h
  · refine pWk_done rfl ⟨congrArg V.bool ?_, rfl⟩
    unfold seasonOk
    rw [allPre_iff.2 fun j hj => hno j hj (by omega)]; simp; omega
theorem k124 {n : Int} {nn : Bool} {l : List Game} (hn : -2000000 < n) (hn2 : n < 2000000) (hl : l.length < 4000000) {H : Heap} {K : V → Heap → Prop} (h : K (.bool (seasonOk n l)) H) : pCall Try.prog 124 [.i n, vGames nn l] H K := pCall_pv rfl rfl (ct124 hn hn2 hl) h

theorem ct241 {n : Int} : Pu Try.prog 241 [.i n] (.bool (!(within n 0 1000))) := by
  apply c241; unfold t241
  refine k139 ?_
  simp only [go_sem, Nat.reduceAdd, Nat.reduceSub, Nat.reduceMul, Nat.reduceLeDiff, Nat.reduceLT, Nat.reduceEqDiff, ↓reduceIte, Nat.reducePow, reduceCtorEq, Int.reduceLE, Int.reduceLT, Int.reduceToNat, ← List.map_take, ← List.map_drop, Int.reduceBEq, Int.reduceBNe]
  exact pWk_done rfl ⟨rfl, rfl⟩
theorem k241 {n : Int} {H : Heap} {K : V → Heap → Prop} (h : K (.bool (!(within n 0 1000))) H) : pCall Try.prog 241 [.i n] H K :=
  pCall_pv rfl rfl (ct241) h

def pensOk (l : List Int) (n : Int) : Bool := (l.length : Int) == n && !(l.any fun x => !(within x 0 1000))
theorem ct125 {nn : Bool} {l : List Int} {n : Int} (hl : l.length < 4611686018427387904) : Pu Try.prog 125 [.ints nn l, .i n] (.bool (pensOk l n)) := by
  apply c125; unfold t125
  simp only [go_sem, Nat.reduceAdd, Nat.reduceSub, Nat.reduceMul, Nat.reduceLeDiff, Nat.reduceLT, Nat.reduceEqDiff, ↓reduceIte, Nat.reducePow, reduceCtorEq, Int.reduceLE, Int.reduceLT, Int.reduceToNat, ← List.map_take, ← List.map_drop, Int.reduceBEq, Int.reduceBNe]
  refine ⟨fun h => ?_, fun h => ?_⟩
  · refine pCall_look [] (ct240 (nn := nn) (l := l) (Hs := []) (p := fun x => !(within x 0 1000)) hl rfl rfl (fun x _ => ct241)) rfl rfl rfl rfl ?_
    simp only [go_sem, Nat.reduceAdd, Nat.reduceSub, Nat.reduceMul, Nat.reduceLeDiff, Nat.reduceLT, Nat.reduceEqDiff, ↓reduceIte, Nat.reducePow, reduceCtorEq, Int.reduceLE, Int.reduceLT, Int.reduceToNat, ← List.map_take, ← List.map_drop, Int.reduceBEq, Int.reduceBNe]
    exact pWk_done rfl ⟨by simp [nthV, pensOk, h], rfl⟩
  · exact pWk_done rfl ⟨by simp [nthV, pensOk, h], rfl⟩
theorem k125 {nn : Bool} {l : List Int} {n : Int} (hl : l.length < 4611686018427387904) {H : Heap} {K : V → Heap → Prop} (h : K (.bool (pensOk l n)) H) : pCall Try.prog 125 [.ints nn l, .i n] H K :=
  pCall_pv rfl rfl (ct125 hl) h

def bookOk (b : Book) : Bool := fieldOk b.field && rulesOk b.rules && seasonOk b.field.length b.games && pensOk b.fair b.field.length && pensOk b.taken b.field.length
structure Sized (b : Book) : Prop where
  field : b.field.length < 2000000
  names : ∀ t ∈ b.field, t.name.size < 4611686018427387904
  ladder : b.rules.ladder.length < 2000000
  games : b.games.length < 4000000
  fair : b.fair.length < 4000000
  taken : b.taken.length < 4000000
theorem ct22 {b : Book} (hb : Sized b) : Pu Try.prog 22 [vBook b] (.bool (bookOk b)) := by
  apply c22; unfold t22
  have := hb.field
  have := hb.ladder
  have := hb.games
  have := hb.fair
  have := hb.taken
  simp only [go_sem, Nat.reduceAdd, Nat.reduceSub, Nat.reduceMul, Nat.reduceLeDiff, Nat.reduceLT, Nat.reduceEqDiff, ↓reduceIte, Nat.reducePow, reduceCtorEq, Int.reduceLE, Int.reduceLT, Int.reduceToNat, ← List.map_take, ← List.map_drop, Int.reduceBEq, Int.reduceBNe, vBook]
  refine k122 hb.field hb.names ?_
  simp only [go_sem, Nat.reduceAdd, Nat.reduceSub, Nat.reduceMul, Nat.reduceLeDiff, Nat.reduceLT, Nat.reduceEqDiff, ↓reduceIte, Nat.reducePow, reduceCtorEq, Int.reduceLE, Int.reduceLT, Int.reduceToNat, ← List.map_take, ← List.map_drop, Int.reduceBEq, Int.reduceBNe]
  refine ⟨fun h1 => ?_, fun h => pWk_done rfl ⟨by simp [nthV, bookOk, h], rfl⟩⟩
  refine k123 (u := b.rules) hb.ladder ?_
  simp only [go_sem, Nat.reduceAdd, Nat.reduceSub, Nat.reduceMul, Nat.reduceLeDiff, Nat.reduceLT, Nat.reduceEqDiff, ↓reduceIte, Nat.reducePow, reduceCtorEq, Int.reduceLE, Int.reduceLT, Int.reduceToNat, ← List.map_take, ← List.map_drop, Int.reduceBEq, Int.reduceBNe]
  refine ⟨fun h2 => ?_, fun h => pWk_done rfl ⟨by simp [nthV, bookOk, h], rfl⟩⟩
  refine k124 (by omega) (by omega) hb.games ?_
  simp only [go_sem, Nat.reduceAdd, Nat.reduceSub, Nat.reduceMul, Nat.reduceLeDiff, Nat.reduceLT, Nat.reduceEqDiff, ↓reduceIte, Nat.reducePow, reduceCtorEq, Int.reduceLE, Int.reduceLT, Int.reduceToNat, ← List.map_take, ← List.map_drop, Int.reduceBEq, Int.reduceBNe]
  refine ⟨fun h3 => ?_, fun h => pWk_done rfl ⟨by simp [nthV, bookOk, h], rfl⟩⟩
  refine k125 (by omega) ?_
  simp only [go_sem, Nat.reduceAdd, Nat.reduceSub, Nat.reduceMul, Nat.reduceLeDiff, Nat.reduceLT, Nat.reduceEqDiff, ↓reduceIte, Nat.reducePow, reduceCtorEq, Int.reduceLE, Int.reduceLT, Int.reduceToNat, ← List.map_take, ← List.map_drop, Int.reduceBEq, Int.reduceBNe]
  refine ⟨fun h4 => ?_, fun h => pWk_done rfl ⟨by simp [nthV, bookOk, h], rfl⟩⟩
  refine k125 (by omega) ?_
  exact pWk_done rfl ⟨by simp [nthV, bookOk, h1, h2, h3, h4], rfl⟩
theorem k22 {b : Book} (hb : Sized b) {H : Heap} {K : V → Heap → Prop} (h : K (.bool (bookOk b)) H) : pCall Try.prog 22 [vBook b] H K :=
  pCall_pv rfl rfl (ct22 hb) h

end Go.Sim

set_option maxRecDepth 100000
set_option linter.unusedSimpArgs false
set_option linter.unusedVariables false
namespace Go.Sim
open Go.Proofs

theorem ct137 {nn : Bool} {l : List Int} (hl : l.length < 4000000) (hn : nn = false → l = []) : Ct Try.prog 137 [.sl nn 1 (l.map V.i)] [] (fun v H => v = .ref 0 0 l.length ∧ H = [.sl nn 3 1 (l.map V.i)]) := by
  apply c137; unfold t137
  simp only [go_sem, Nat.reduceAdd, Nat.reduceSub, Nat.reduceMul, Nat.reduceLeDiff, Nat.reduceLT, Nat.reduceEqDiff, ↓reduceIte, Nat.reducePow, reduceCtorEq, Int.reduceLE, Int.reduceLT, Int.reduceToNat, ← List.map_take, ← List.map_drop, Int.reduceBEq, Int.reduceBNe]
  refine ⟨fun h => ?_, fun h => ?_⟩
  · have hnn : nn = false := by simpa using h
    subst hnn
    rw [hn rfl]
    exact pWk_nilref 3 (by omega) ⟨rfl, rfl⟩
  · have hnn : nn = true := by simpa using h
    subst hnn
    exact ⟨by omega, pWk_kp [] [1] rfl ⟨rfl, rfl⟩⟩

theorem ct232 {nn : Bool} {l : List Team} (hl : l.length < 4000000) (hn : nn = false → l = []) : Ct Try.prog 232 [.sl nn 3 (l.map vTeam)] [] (fun v H => v = .ref 0 0 l.length ∧ H = [.sl nn 178 3 (l.map vTeam)]) := by
  apply c232; unfold t232
  simp only [go_sem, Nat.reduceAdd, Nat.reduceSub, Nat.reduceMul, Nat.reduceLeDiff, Nat.reduceLT, Nat.reduceEqDiff, ↓reduceIte, Nat.reducePow, reduceCtorEq, Int.reduceLE, Int.reduceLT, Int.reduceToNat, ← List.map_take, ← List.map_drop, Int.reduceBEq, Int.reduceBNe]
  refine ⟨fun h => ?_, fun h => ?_⟩
  · have hnn : nn = false := by simpa using h
    subst hnn
    rw [hn rfl]
    exact pWk_nilref 178 (by omega) ⟨rfl, rfl⟩
  · have hnn : nn = true := by simpa using h
    subst hnn
    exact ⟨by omega, pWk_kp [] [1] rfl ⟨rfl, rfl⟩⟩

theorem ct233 {nn : Bool} {l : List Game} (hl : l.length < 4000000) (hn : nn = false → l = []) : Ct Try.prog 233 [.sl nn 5 (l.map vGame)] [] (fun v H => v = .ref 0 0 l.length ∧ H = [.sl nn 40 5 (l.map vGame)]) := by
  apply c233; unfold t233
  simp only [go_sem, Nat.reduceAdd, Nat.reduceSub, Nat.reduceMul, Nat.reduceLeDiff, Nat.reduceLT, Nat.reduceEqDiff, ↓reduceIte, Nat.reducePow, reduceCtorEq, Int.reduceLE, Int.reduceLT, Int.reduceToNat, ← List.map_take, ← List.map_drop, Int.reduceBEq, Int.reduceBNe]
  refine ⟨fun h => ?_, fun h => ?_⟩
  · have hnn : nn = false := by simpa using h
    subst hnn
    rw [hn rfl]
    exact pWk_nilref 40 (by omega) ⟨rfl, rfl⟩
  · have hnn : nn = true := by simpa using h
    subst hnn
    exact ⟨by omega, pWk_kp [] [1] rfl ⟨rfl, rfl⟩⟩


/-- The nil slices are empty. -/
structure Nils (b : Book) : Prop where
  field : b.fnn = false → b.field = []
  ladder : b.rules.lnn = false → b.rules.ladder = []
  games : b.gnn = false → b.games = []
  fair : b.pnn = false → b.fair = []
  taken : b.tnn = false → b.taken = []

/-- A book whose slices are blocks from `n` on. -/
def rBook (n : Nat) (b : Book) : V := .agg [.ref n 0 b.field.length, .i b.rules.win, .i b.rules.draw, .i b.rules.loss, .ref (n + 4) 0 b.rules.ladder.length, .bool b.rules.again,
  .ref (n + 1) 0 b.games.length, .ref (n + 2) 0 b.fair.length, .ref (n + 3) 0 b.taken.length]
def hBook (b : Book) : Heap := [.sl b.fnn 178 3 (b.field.map vTeam), .sl b.gnn 40 5 (b.games.map vGame), .sl b.pnn 3 1 (b.fair.map V.i), .sl b.tnn 3 1 (b.taken.map V.i), .sl b.rules.lnn 3 1 (b.rules.ladder.map V.i)]

theorem ct119 {b : Book} (hb : Sized b) (hn : Nils b) : Ct Try.prog 119 [vBook b] [] (fun v H => v = rBook 0 b ∧ H = hBook b) := by
  apply c119; unfold t119
  simp only [go_sem, Nat.reduceAdd, Nat.reduceSub, Nat.reduceMul, Nat.reduceLeDiff, Nat.reduceLT, Nat.reduceEqDiff, ↓reduceIte, Nat.reducePow, reduceCtorEq, Int.reduceLE, Int.reduceLT, Int.reduceToNat, ← List.map_take, ← List.map_drop, Int.reduceBEq, Int.reduceBNe, vBook]
  refine pCall_new (ct232 (by have := hb.field; omega) hn.field) rfl ?_
  rintro _ _ ⟨rfl, rfl⟩
  simp only [go_sem, Nat.reduceAdd, Nat.reduceSub, Nat.reduceMul, Nat.reduceLeDiff, Nat.reduceLT, Nat.reduceEqDiff, ↓reduceIte, Nat.reducePow, reduceCtorEq, Int.reduceLE, Int.reduceLT, Int.reduceToNat, ← List.map_take, ← List.map_drop, Int.reduceBEq, Int.reduceBNe]
  refine pCall_new (ct233 hb.games hn.games) rfl ?_
  rintro _ _ ⟨rfl, rfl⟩
  simp only [go_sem, Nat.reduceAdd, Nat.reduceSub, Nat.reduceMul, Nat.reduceLeDiff, Nat.reduceLT, Nat.reduceEqDiff, ↓reduceIte, Nat.reducePow, reduceCtorEq, Int.reduceLE, Int.reduceLT, Int.reduceToNat, ← List.map_take, ← List.map_drop, Int.reduceBEq, Int.reduceBNe]
  refine pCall_new (ct137 hb.fair hn.fair) rfl ?_
  rintro _ _ ⟨rfl, rfl⟩
  simp only [go_sem, Nat.reduceAdd, Nat.reduceSub, Nat.reduceMul, Nat.reduceLeDiff, Nat.reduceLT, Nat.reduceEqDiff, ↓reduceIte, Nat.reducePow, reduceCtorEq, Int.reduceLE, Int.reduceLT, Int.reduceToNat, ← List.map_take, ← List.map_drop, Int.reduceBEq, Int.reduceBNe]
  refine pCall_new (ct137 hb.taken hn.taken) rfl ?_
  rintro _ _ ⟨rfl, rfl⟩
  simp only [go_sem, Nat.reduceAdd, Nat.reduceSub, Nat.reduceMul, Nat.reduceLeDiff, Nat.reduceLT, Nat.reduceEqDiff, ↓reduceIte, Nat.reducePow, reduceCtorEq, Int.reduceLE, Int.reduceLT, Int.reduceToNat, ← List.map_take, ← List.map_drop, Int.reduceBEq, Int.reduceBNe]
  refine pCall_new (ct137 (by have := hb.ladder; omega) hn.ladder) rfl ?_
  rintro _ _ ⟨rfl, rfl⟩
  simp only [go_sem, Nat.reduceAdd, Nat.reduceSub, Nat.reduceMul, Nat.reduceLeDiff, Nat.reduceLT, Nat.reduceEqDiff, ↓reduceIte, Nat.reducePow, reduceCtorEq, Int.reduceLE, Int.reduceLT, Int.reduceToNat, ← List.map_take, ← List.map_drop, Int.reduceBEq, Int.reduceBNe]
  exact pWk_kp [] [2, 3, 4, 5, 6] rfl ⟨rfl, rfl⟩


theorem k119 {b : Book} {H : Heap} {K : V → Heap → Prop} (hb : Sized b) (hn : Nils b) (hK : K (rBook H.length b) (H ++ hBook b)) : pCall Try.prog 119 [vBook b] H K := by
  refine pCall_new (ct119 hb hn) rfl ?_
  rintro _ _ ⟨rfl, rfl⟩
  have e1 : V.ren (backF [] H.length) (rBook 0 b) = rBook H.length b := by simp [rBook, V.ren, V.rens, backF]
  have e2 : (hBook b).map (Blk.ren (backF [] H.length)) = hBook b := rfl
  rw [e1, e2]; exact hK

/-- A team plays in a game. -/
def plays (t : Int) (g : Game) : Bool := g.home == t || g.away == t
def wdGame (t rule : Int) (g : Game) : Game := if plays t g then (if rule == 1 then ⟨g.home, g.away, 0, 0, 4⟩ else if g.st == 0 then awardedG g (g.home + g.away - t) else g) else g
def withdrawB (b : Book) (t rule : Int) : Book := { b with games := b.games.map (wdGame t rule) }
def wdOk (b : Book) (t rule : Int) : Bool := bookOk b && within t 0 (b.field.length - 1) && !(ruleName rule == { data := #[] })

theorem game_bounds {b : Book} (h : bookOk b = true) {g : Game} (hg : g ∈ b.games) : gameOk b.field.length g = true := by
  simp only [bookOk, Bool.and_eq_true] at h
  have hs := h.1.1.2
  simp only [seasonOk, Bool.and_eq_true] at hs
  obtain ⟨i, hi, rfl⟩ := List.getElem_of_mem hg
  have := allPre_iff.1 hs.1 i hi
  simp only [Bool.and_eq_true] at this
  exact this.1
theorem gameOk_bounds {n : Int} {g : Game} (h : gameOk n g = true) : 2 ≤ n ∧ n ≤ 8 ∧ 0 ≤ g.home ∧ g.home < n ∧ 0 ≤ g.away ∧ g.away < n ∧ g.home ≠ g.away ∧ 0 ≤ g.st ∧ g.st ≤ 4 ∧ 0 ≤ g.hg ∧ g.hg ≤ (if g.st = 1 then 99 else 0) ∧ 0 ≤ g.ag ∧ g.ag ≤ (if g.st = 1 then 99 else 0) := by
  simp only [gameOk, within, Bool.and_eq_true, decide_eq_true_eq, bne_iff_ne, beq_iff_eq] at h
  omega

def wdH (b : Book) (gs : List Game) : Heap := [.box 29 (.agg [vTeams b.fnn b.field, V.i b.rules.win, V.i b.rules.draw, V.i b.rules.loss, V.ints b.rules.lnn b.rules.ladder, V.bool b.rules.again, vGames b.gnn b.games, V.ints b.pnn b.fair, V.ints b.tnn b.taken]),
    .box 29 (.agg [V.sl false 3 [], V.int IntKind.i64 0, V.int IntKind.i64 0, V.int IntKind.i64 0, V.sl false 1 [], V.bool false, V.sl false 5 [], V.sl false 1 [], V.sl false 1 []]),
    .sl b.fnn 178 3 (b.field.map vTeam), .sl b.gnn 40 5 (gs.map vGame), .sl b.pnn 3 1 (b.fair.map V.i), .sl b.tnn 3 1 (b.taken.map V.i), .sl b.rules.lnn 3 1 (b.rules.ladder.map V.i),
    .box 29 (.agg [V.ref 2 0 b.field.length, V.i b.rules.win, V.i b.rules.draw, V.i b.rules.loss, V.ref 6 0 b.rules.ladder.length, V.bool b.rules.again, V.ref 3 0 b.games.length, V.ref 4 0 b.fair.length, V.ref 5 0 b.taken.length])]

theorem ct21 {b : Book} {t rule : Int} (hb : Sized b) (hn : Nils b) : Ct Try.prog 21 [vBook b, .i t, .i rule] [] (fun v H => if wdOk b t rule = true then v = .tup [rBook 0 b, .bool true] ∧ H = hBook (withdrawB b t rule) else v = .tup [.agg [(V.sl false 3 []), (V.int .i64 0), (V.int .i64 0), (V.int .i64 0), (V.sl false 1 []), (V.bool false), (V.sl false 5 []), (V.sl false 1 []), (V.sl false 1 [])], .bool false] ∧ H = []) := by
  apply c21; unfold t21
  have hbx : vBook b = .agg [vTeams b.fnn b.field, .i b.rules.win, .i b.rules.draw, .i b.rules.loss, .ints b.rules.lnn b.rules.ladder, .bool b.rules.again,
  vGames b.gnn b.games, .ints b.pnn b.fair, .ints b.tnn b.taken] := rfl
  simp only [go_sem, Nat.reduceAdd, Nat.reduceSub, Nat.reduceMul, Nat.reduceLeDiff, Nat.reduceLT, Nat.reduceEqDiff, ↓reduceIte, Nat.reducePow, reduceCtorEq, Int.reduceLE, Int.reduceLT, Int.reduceToNat, ← List.map_take, ← List.map_drop, Int.reduceBEq, Int.reduceBNe, hbx]
  refine k22 hb ?_
  simp only [go_sem, Nat.reduceAdd, Nat.reduceSub, Nat.reduceMul, Nat.reduceLeDiff, Nat.reduceLT, Nat.reduceEqDiff, ↓reduceIte, Nat.reducePow, reduceCtorEq, Int.reduceLE, Int.reduceLT, Int.reduceToNat, ← List.map_take, ← List.map_drop, Int.reduceBEq, Int.reduceBNe]
  refine ⟨fun h => pWk_done rfl ?_, fun hok => ?_⟩
  · have : wdOk b t rule = false := by simp at h; simp [wdOk, h]
    rw [if_neg (by simp [this])]; exact ⟨rfl, rfl⟩
  refine k118 (b := b) hb.field ?_
  simp only [go_sem, Nat.reduceAdd, Nat.reduceSub, Nat.reduceMul, Nat.reduceLeDiff, Nat.reduceLT, Nat.reduceEqDiff, ↓reduceIte, Nat.reducePow, reduceCtorEq, Int.reduceLE, Int.reduceLT, Int.reduceToNat, ← List.map_take, ← List.map_drop, Int.reduceBEq, Int.reduceBNe]
  refine ⟨fun h => pWk_done rfl ?_, fun hteam => ?_⟩
  · have : wdOk b t rule = false := by simp at h; simp [wdOk, h]
    rw [if_neg (by simp [this])]; exact ⟨rfl, rfl⟩
  refine k29 ?_
  simp only [go_sem, Nat.reduceAdd, Nat.reduceSub, Nat.reduceMul, Nat.reduceLeDiff, Nat.reduceLT, Nat.reduceEqDiff, ↓reduceIte, Nat.reducePow, reduceCtorEq, Int.reduceLE, Int.reduceLT, Int.reduceToNat, ← List.map_take, ← List.map_drop, Int.reduceBEq, Int.reduceBNe]
  refine ⟨fun h => pWk_done rfl ?_, fun hrule => ?_⟩
  · have : wdOk b t rule = false := by simp [wdOk, h]
    rw [if_neg (by simp [this])]; exact ⟨rfl, rfl⟩
  have hyes : wdOk b t rule = true := by simp at hok hteam; simp [wdOk, hok, hteam, hrule]
  have hok' : bookOk b = true := by simpa using hok
  refine k119 hb hn ?_
  simp only [go_sem, Nat.reduceAdd, Nat.reduceSub, Nat.reduceMul, Nat.reduceLeDiff, Nat.reduceLT, Nat.reduceEqDiff, ↓reduceIte, Nat.reducePow, reduceCtorEq, Int.reduceLE, Int.reduceLT, Int.reduceToNat, ← List.map_take, ← List.map_drop, Int.reduceBEq, Int.reduceBNe, rBook, hBook]
  refine loop_st (fun k : Nat => ([V.i k], wdH b (mapTo (wdGame t rule) k b.games))) (fun k => k ≤ b.games.length) (fun k => b.games.length - k) (pWk_take rfl ⟨0, by omega, rfl, by simp only [mapTo_zero]; rfl⟩) ?_
  rintro μ k hk nx
  have hgl := hb.games
  simp only [go_sem, Nat.reduceAdd, Nat.reduceSub, Nat.reduceMul, Nat.reduceLeDiff, Nat.reduceLT, Nat.reduceEqDiff, ↓reduceIte, Nat.reducePow, reduceCtorEq, Int.reduceLE, Int.reduceLT, Int.reduceToNat, ← List.map_take, ← List.map_drop, Int.reduceBEq, Int.reduceBNe, wdH, Int.ofNat_lt, Int.ofNat_le, Int.natCast_nonneg, mapTo_map]
  refine ⟨fun hlt => ?_, fun hge => ?_⟩
  · have hx := mapTo_get (f := wdGame t rule) hlt
    have hgb := gameOk_bounds (game_bounds hok' (List.getElem_mem hlt))
    have ht : 0 ≤ t ∧ t < b.field.length := by simp [within] at hteam; omega
    generalize hg : b.games[k] = g at hx hgb
    have hset : ∀ x, wdGame t rule g = x → (mapTo (wdGame t rule) k b.games).set k x = mapTo (wdGame t rule) (k + 1) b.games := fun x e => by rw [← e, ← hg]; exact mapTo_set hlt
    have hskip : wdGame t rule g = g → mapTo (wdGame t rule) (k + 1) b.games = mapTo (wdGame t rule) k b.games := fun e => mapTo_skip hlt (by rw [hg]; exact e)
    have next := nx (k + 1) (by omega) (by omega)
    clear nx
    simp only [go_sem, Nat.reduceAdd, Nat.reduceSub, Nat.reduceMul, Nat.reduceLeDiff, Nat.reduceLT, Nat.reduceEqDiff, ↓reduceIte, Nat.reducePow, reduceCtorEq, Int.reduceLE, Int.reduceLT, Int.reduceToNat, ← List.map_take, ← List.map_drop, Int.reduceBEq, Int.reduceBNe, hx, vGame]
    refine ⟨by omega, ?_⟩
    refine k120 (g := g) ?_
    simp only [go_sem, Nat.reduceAdd, Nat.reduceSub, Nat.reduceMul, Nat.reduceLeDiff, Nat.reduceLT, Nat.reduceEqDiff, ↓reduceIte, Nat.reducePow, reduceCtorEq, Int.reduceLE, Int.reduceLT, Int.reduceToNat, ← List.map_take, ← List.map_drop, Int.reduceBEq, Int.reduceBNe, wrapN (show k < 4611686018427387904 by omega)]
    refine ⟨fun hp => ?_, fun hp => ⟨fun hr => ?_, fun hr => ?_⟩⟩
    · rw [hskip (by simp at hp; simp [wdGame, plays, hp])] at next
      exact pWk_take rfl next
    · have hpp : plays t g = true := by simpa only [plays, Bool.not_eq_false'] using hp
      have hgw : wdGame t rule g = ⟨g.home, g.away, 0, 0, 4⟩ := by simp [wdGame, hpp, hr]
      simp only [go_sem, Nat.reduceAdd, Nat.reduceSub, Nat.reduceMul, Nat.reduceLeDiff, Nat.reduceLT, Nat.reduceEqDiff, ↓reduceIte, Nat.reducePow, reduceCtorEq, Int.reduceLE, Int.reduceLT, Int.reduceToNat, ← List.map_take, ← List.map_drop, Int.reduceBEq, Int.reduceBNe, Int.ofNat_lt, Int.natCast_nonneg, hx, mapTo_map, vGame]
      refine ⟨by omega, ?_⟩
      rw [← hset _ hgw, wdH, List.map_set] at next
      exact pWk_take rfl next
    · have hpp : plays t g = true := by simpa only [plays, Bool.not_eq_false'] using hp
      refine k27 (g := g) ?_
      simp only [go_sem, Nat.reduceAdd, Nat.reduceSub, Nat.reduceMul, Nat.reduceLeDiff, Nat.reduceLT, Nat.reduceEqDiff, ↓reduceIte, Nat.reducePow, reduceCtorEq, Int.reduceLE, Int.reduceLT, Int.reduceToNat, ← List.map_take, ← List.map_drop, Int.reduceBEq, Int.reduceBNe, wrapN (show k < 4611686018427387904 by omega), wrap64 (n := g.home + g.away) (by omega) (by omega), wrap64 (n := g.home + g.away - t) (by omega) (by omega)]
      refine ⟨fun ho => ?_, fun ho => ?_⟩
      · have hgw : wdGame t rule g = awardedG g (g.home + g.away - t) := by simp [wdGame, hpp, hr, ho]
        refine k121 (g := g) ?_
        simp only [go_sem, Nat.reduceAdd, Nat.reduceSub, Nat.reduceMul, Nat.reduceLeDiff, Nat.reduceLT, Nat.reduceEqDiff, ↓reduceIte, Nat.reducePow, reduceCtorEq, Int.reduceLE, Int.reduceLT, Int.reduceToNat, ← List.map_take, ← List.map_drop, Int.reduceBEq, Int.reduceBNe, Int.ofNat_lt, Int.natCast_nonneg, hx, mapTo_map, vGame]
        refine ⟨by omega, ?_⟩
        rw [← hset _ hgw, wdH, List.map_set] at next
        exact pWk_take rfl next
      · have hgw : wdGame t rule g = g := by simp [wdGame, hpp, hr, ho]
        rw [hskip hgw] at next
        exact pWk_take rfl next
  · refine pWk_kp [] [2, 3, 4, 5, 6] rfl ?_
    rw [if_pos hyes]
    rw [mapTo_all (by omega)]
    refine ⟨rfl, rfl⟩

end Go.Sim

set_option maxRecDepth 100000
set_option linter.unusedSimpArgs false
set_option linter.unusedVariables false
namespace Go.Sim
open Go.Proofs

/-! ### the numbers up to n -/
def upTo (n : Nat) : List Int := (List.range n).map fun (i : Nat) => (i : Int)
theorem upTo_succ {n : Nat} : upTo (n + 1) = upTo n ++ [(n : Int)] := by simp [upTo, List.range_succ]
theorem upTo_len {n : Nat} : (upTo n).length = n := by simp [upTo]
theorem ct127 {n : Nat} (hn : n < 4000000) : Ct Try.prog 127 [.i n] [] (fun v H => v = .ref 0 0 n ∧ H = [.sl true 3 1 ((upTo n).map V.i)]) := by
  apply c127; unfold t127
  simp only [go_sem, Nat.reduceAdd, Nat.reduceSub, Nat.reduceMul, Nat.reduceLeDiff, Nat.reduceLT, Nat.reduceEqDiff, ↓reduceIte, Nat.reducePow, reduceCtorEq, Int.reduceLE, Int.reduceLT, Int.reduceToNat, ← List.map_take, ← List.map_drop, Int.reduceBEq, Int.reduceBNe]
  have hmax : (if (n : Int) < 0 then (0 : Int) else n) = n := by rw [if_neg (by omega)]
  have hmax2 : (if (0 : Int) > n then (0 : Int) else n) = n := by rw [if_neg (by omega)]
  refine loop_st (fun k : Nat => ([V.ref 1 0 k, V.i k], [Blk.dead, Blk.sl true 3 1 ((upTo k).map V.i)])) (fun k => k ≤ n) (fun k => n - k) (pWk_mv [0] rfl ⟨0, by omega, rfl, rfl⟩) ?_
  rintro μ k hk nx
  simp only [go_sem, Nat.reduceAdd, Nat.reduceSub, Nat.reduceMul, Nat.reduceLeDiff, Nat.reduceLT, Nat.reduceEqDiff, ↓reduceIte, Nat.reducePow, reduceCtorEq, Int.reduceLE, Int.reduceLT, Int.reduceToNat, ← List.map_take, ← List.map_drop, Int.reduceBEq, Int.reduceBNe, Int.ofNat_lt, Int.ofNat_le, Int.natCast_nonneg, hmax, hmax2]
  refine ⟨fun hlt => ?_, fun hge => ?_⟩
  · simp only [go_sem, Nat.reduceAdd, Nat.reduceSub, Nat.reduceMul, Nat.reduceLeDiff, Nat.reduceLT, Nat.reduceEqDiff, ↓reduceIte, Nat.reducePow, reduceCtorEq, Int.reduceLE, Int.reduceLT, Int.reduceToNat, ← List.map_take, ← List.map_drop, Int.reduceBEq, Int.reduceBNe, wrapN (show k < 4611686018427387904 by omega), upTo_len]
    refine ⟨by omega, ?_⟩
    have next := nx (k + 1) (by omega) (by omega)
    rw [upTo_succ, List.map_append] at next
    exact pWk_mv [3] rfl next
  · have : k = n := by omega
    subst this
    exact pWk_kp [] [1] rfl ⟨rfl, rfl⟩
theorem k127 {n : Nat} {H : Heap} {K : V → Heap → Prop} (hn : n < 4000000) (hK : K (.ref H.length 0 n) (H ++ [.sl true 3 1 ((upTo n).map V.i)])) : pCall Try.prog 127 [.i n] H K := by
  refine pCall_new (ct127 hn) rfl ?_
  rintro _ _ ⟨rfl, rfl⟩
  have e1 : V.ren (backF [] H.length) (.ref 0 0 n) = .ref H.length 0 n := by simp [V.ren, backF]
  rw [e1]; exact hK


/-! ### slices.DeleteFunc -/
/-- A closure that only looks tells `p`, whatever lies in the first block. -/
def Looks (k : FuncId) (caps : List V) (Bs : Heap) (l : List Int) (p : Int → Bool) : Prop :=
  ∀ rows x, x ∈ l → Ct Try.prog k (V.i x :: caps) (.sl true 3 1 rows :: Bs) (fun v H => v = .bool (p x) ∧ H = .sl true 3 1 rows :: Bs)

theorem ct242r {l : List Int} {k : FuncId} {caps : List V} {Bs : Heap} {p : Int → Bool} (hl : l.length < 4000000) (hc : V.wfs (Bs.length + 1) caps = true) (hH : okH (.sl true 3 1 (l.map V.i) :: Bs) = true) (ht : Looks k caps Bs l p) :
    Ct Try.prog 242 [.ref 0 0 l.length, .fn k caps] (.sl true 3 1 (l.map V.i) :: Bs) (fun v H => v = .i (idxI p l) ∧ H = .sl true 3 1 (l.map V.i) :: Bs) := by
  apply c242; unfold t242
  simp only [go_sem, Nat.reduceAdd, Nat.reduceSub, Nat.reduceMul, Nat.reduceLeDiff, Nat.reduceLT, Nat.reduceEqDiff, ↓reduceIte, Nat.reducePow, reduceCtorEq, Int.reduceLE, Int.reduceLT, Int.reduceToNat, ← List.map_take, ← List.map_drop, Int.reduceBEq, Int.reduceBNe]
  refine loop_st (fun k : Nat => ([V.i k], .sl true 3 1 (l.map V.i) :: Bs)) (fun k => k ≤ l.length ∧ ∀ j (hj : j < l.length), j < k → p l[j] = false) (fun k => l.length - k) (pWk_me (H := .sl true 3 1 (l.map V.i) :: Bs) rfl hH ⟨0, ⟨by omega, by intros; omega⟩, rfl, rfl⟩) ?_
  rintro μ i ⟨hi, hno⟩ nx
  simp only [go_sem, Nat.reduceAdd, Nat.reduceSub, Nat.reduceMul, Nat.reduceLeDiff, Nat.reduceLT, Nat.reduceEqDiff, ↓reduceIte, Nat.reducePow, reduceCtorEq, Int.reduceLE, Int.reduceLT, Int.reduceToNat, ← List.map_take, ← List.map_drop, Int.reduceBEq, Int.reduceBNe, Int.ofNat_lt, Int.natCast_nonneg, List.getElem?_map]
  refine ⟨fun hlt => ?_, fun hge => ?_⟩
  · have hx : l[i]? = some l[i] := List.getElem?_eq_getElem hlt
    simp only [go_sem, Nat.reduceAdd, Nat.reduceSub, Nat.reduceMul, Nat.reduceLeDiff, Nat.reduceLT, Nat.reduceEqDiff, ↓reduceIte, Nat.reducePow, reduceCtorEq, Int.reduceLE, Int.reduceLT, Int.reduceToNat, ← List.map_take, ← List.map_drop, Int.reduceBEq, Int.reduceBNe, hx]
    refine ⟨by omega, ?_⟩
    refine pCall_me (by simp only [V.wfs, List.length_cons, hc]; rfl) hH ((ht _ l[i] (List.getElem_mem hlt)).mono ?_)
    rintro v H' ⟨rfl, rfl⟩
    simp only [go_sem, Nat.reduceAdd, Nat.reduceSub, Nat.reduceMul, Nat.reduceLeDiff, Nat.reduceLT, Nat.reduceEqDiff, ↓reduceIte, Nat.reducePow, reduceCtorEq, Int.reduceLE, Int.reduceLT, Int.reduceToNat, ← List.map_take, ← List.map_drop, Int.reduceBEq, Int.reduceBNe]
    refine ⟨fun hp => pWk_me (H := .sl true 3 1 (l.map V.i) :: Bs) rfl hH ⟨?_, rfl⟩, fun hp => ?_⟩
    · rw [idxI_hit hlt hp hno]; rfl
    · rw [wrapN (by omega)]
      refine pWk_me (H := .sl true 3 1 (l.map V.i) :: Bs) rfl hH (nx (i + 1) ⟨by omega, fun j hj hji => ?_⟩ (by omega))
      rcases Nat.lt_succ_iff_lt_or_eq.1 hji with h | h
      · exact hno j hj h
      · subst h; exact hp
  · refine pWk_me (H := .sl true 3 1 (l.map V.i) :: Bs) rfl hH ⟨?_, rfl⟩
    rw [idxI_miss fun j hj => hno j hj (by omega)]; rfl

theorem filter_take_succ {α : Type} {q : α → Bool} {l : List α} {j : Nat} (h : j < l.length) : (l.take (j + 1)).filter q = (l.take j).filter q ++ (if q l[j] = true then [l[j]] else []) := by
  rw [List.take_succ_eq_append_getElem h, List.filter_append]
  congr 1
  by_cases hq : q l[j] = true
  · simp [hq]
  · simp [hq]

theorem ct126 {l : List Int} {k : FuncId} {caps : List V} {Bs : Heap} {p : Int → Bool} (hl : l.length < 4000000) (hc : V.wfs (Bs.length + 1) caps = true) (hH : ∀ rows, okH (.sl true 3 1 rows :: Bs) = true) (ht : Looks k caps Bs l p) :
    Ct Try.prog 126 [.ref 0 0 l.length, .fn k caps] (.sl true 3 1 (l.map V.i) :: Bs) (fun v H => v = .ref 0 0 (l.filter fun x => !p x).length ∧ H = .sl true 3 1 ((l.filter fun x => !p x).map V.i) :: Bs) := by
  apply c126; unfold t126
  refine pCall_me (by simp only [V.wfs, V.wf, List.length_cons, hc]; simp) (hH _) ((ct242r hl hc (hH _) ht).mono ?_)
  rintro v H' ⟨rfl, rfl⟩
  simp only [go_sem, Nat.reduceAdd, Nat.reduceSub, Nat.reduceMul, Nat.reduceLeDiff, Nat.reduceLT, Nat.reduceEqDiff, ↓reduceIte, Nat.reducePow, reduceCtorEq, Int.reduceLE, Int.reduceLT, Int.reduceToNat, ← List.map_take, ← List.map_drop, Int.reduceBEq, Int.reduceBNe]
  refine ⟨fun h => ?_, fun h => ?_⟩
  · have hall : l.any p = false := by
      cases ha : l.any p with
      | false => rfl
      | true => unfold idxI at h; rw [if_pos ha] at h; simp at h
    have hf : l.filter (fun x => !p x) = l := List.filter_eq_self.2 fun x hx => by
      have := List.any_eq_false.1 hall x hx; simpa using this
    rw [hf]
    exact pWk_me (H := .sl true 3 1 (l.map V.i) :: Bs) (by simp [V.wfs, V.wf]) (hH _) ⟨rfl, rfl⟩
  · have ha : l.any p = true := by
      cases ha : l.any p with
      | true => rfl
      | false => unfold idxI at h; rw [if_neg (by simp [ha])] at h; simp at h
    obtain ⟨a, hav⟩ : ∃ a, l.findIdx p = a := ⟨_, rfl⟩
    have hal : a < l.length := by rw [← hav]; exact List.findIdx_lt_length.2 (List.any_eq_true.1 ha)
    have hid : idxI p l = (a : Int) := by unfold idxI; rw [if_pos ha, hav]
    obtain ⟨hpa, hno⟩ := (List.findIdx_eq hal).1 hav
    rw [hid, wrapN (by omega)]
    have hpre : (l.take a).filter (fun x => !p x) = l.take a := List.filter_eq_self.2 fun x hx => by
      obtain ⟨i, hi, rfl⟩ := List.getElem_of_mem hx
      have hi' : i < a := by simp at hi; omega
      rw [List.getElem_take]; simp [hno i hi']
    let F : Nat → List Int := fun j => (l.take j).filter fun x => !p x
    have hFa : F (a + 1) = l.take a := by
      simp only [F]; rw [filter_take_succ hal, hpre]; simp [hpa]
    refine loop_st (σ := Nat × List Int) (fun s => ([V.i (F s.1).length, V.i s.1], .sl true 3 1 ((F s.1 ++ s.2 ++ l.drop s.1).map V.i) :: Bs)) (fun s => s.1 ≤ l.length ∧ (F s.1).length + s.2.length = s.1 ∧ 0 < s.2.length) (fun s => l.length - s.1)
      (pWk_me (H := .sl true 3 1 (l.map V.i) :: Bs) rfl (hH _) ⟨(a + 1, [l[a]]), ⟨by omega, by simp only [hFa]; simp; omega, by simp⟩, by simp only [hFa]; simp; omega, by
        simp only [hFa]; rw [List.append_assoc, List.singleton_append, List.getElem_cons_drop, List.take_append_drop]⟩) ?_
    rintro μ ⟨j, M⟩ ⟨hj, hFM, hM⟩ nx
    simp only at hj hFM hM nx ⊢
    have hFl : (F j).length ≤ j := by omega
    have hrl : (F j ++ M ++ l.drop j).length = l.length := by simp; omega
    simp only [go_sem, Nat.reduceAdd, Nat.reduceSub, Nat.reduceMul, Nat.reduceLeDiff, Nat.reduceLT, Nat.reduceEqDiff, ↓reduceIte, Nat.reducePow, reduceCtorEq, Int.reduceLE, Int.reduceLT, Int.reduceToNat, ← List.map_take, ← List.map_drop, Int.reduceBEq, Int.reduceBNe, Int.ofNat_lt, Int.ofNat_le, Int.natCast_nonneg, List.getElem?_map]
    refine ⟨fun hlt => ?_, fun hge => ?_⟩
    · have hx : (F j ++ M ++ l.drop j)[j]? = some l[j] := by
        rw [List.getElem?_append_right (by simp; omega), List.length_append, hFM, Nat.sub_self, List.getElem?_drop]; simp [hlt]
      simp only [go_sem, Nat.reduceAdd, Nat.reduceSub, Nat.reduceMul, Nat.reduceLeDiff, Nat.reduceLT, Nat.reduceEqDiff, ↓reduceIte, Nat.reducePow, reduceCtorEq, Int.reduceLE, Int.reduceLT, Int.reduceToNat, ← List.map_take, ← List.map_drop, Int.reduceBEq, Int.reduceBNe, hx]
      refine ⟨by omega, ?_⟩
      refine pCall_me (by simp only [V.wfs, List.length_cons, hc]; rfl) (hH _) ((ht _ l[j] (List.getElem_mem hlt)).mono ?_)
      rintro v H' ⟨rfl, rfl⟩
      simp only [go_sem, Nat.reduceAdd, Nat.reduceSub, Nat.reduceMul, Nat.reduceLeDiff, Nat.reduceLT, Nat.reduceEqDiff, ↓reduceIte, Nat.reducePow, reduceCtorEq, Int.reduceLE, Int.reduceLT, Int.reduceToNat, ← List.map_take, ← List.map_drop, Int.reduceBEq, Int.reduceBNe]
      refine ⟨fun hp => ?_, fun hp => ?_⟩
      · obtain ⟨m, M', rfl⟩ : ∃ m M', M = m :: M' := by cases M with | nil => simp at hM | cons m M' => exact ⟨m, M', rfl⟩
        have hFs : F (j + 1) = F j ++ [l[j]] := by simp only [F]; rw [filter_take_succ hlt]; simp [hp]
        have hi : (F j ++ m :: M' ++ l.drop j)[(F j).length]? = some m := by
          rw [List.append_assoc, List.getElem?_append_right (Nat.le_refl _), Nat.sub_self]; rfl
        have hset : (F j ++ m :: M' ++ l.drop j).set (F j).length l[j] = F (j + 1) ++ (M' ++ [l[j]]) ++ l.drop (j + 1) := by
          rw [hFs, List.append_assoc, List.set_append_right _ _ (Nat.le_refl _), Nat.sub_self, List.drop_eq_getElem_cons hlt]; simp
        have next := nx (j + 1, M' ++ [l[j]]) ⟨by omega, by simp only [hFs]; simp at hFM ⊢; omega, by simp⟩ (by simp only; omega)
        simp only at next
        rw [← hset, List.map_set] at next
        have hlen : (F (j + 1)).length = (F j).length + 1 := by rw [hFs]; simp
        rw [hlen] at next
        simp only [go_sem, Nat.reduceAdd, Nat.reduceSub, Nat.reduceMul, Nat.reduceLeDiff, Nat.reduceLT, Nat.reduceEqDiff, ↓reduceIte, Nat.reducePow, reduceCtorEq, Int.reduceLE, Int.reduceLT, Int.reduceToNat, ← List.map_take, ← List.map_drop, Int.reduceBEq, Int.reduceBNe, Int.ofNat_lt, Int.natCast_nonneg, List.getElem?_map, hi, wrapN (show j < 4611686018427387904 by omega), wrapN (show (F j).length < 4611686018427387904 by omega)]
        refine ⟨by omega, ?_⟩
        exact pWk_me (H := .sl true 3 1 ((List.map V.i (F j ++ m :: M' ++ l.drop j)).set (F j).length (V.i l[j])) :: Bs) rfl (hH _) next
      · have hFs : F (j + 1) = F j := by simp only [F]; rw [filter_take_succ hlt]; simp at hp; simp [hp]
        have next := nx (j + 1, M ++ [l[j]]) ⟨by omega, by simp only [hFs]; simp; omega, by simp⟩ (by simp only; omega)
        simp only at next
        have e : F (j + 1) ++ (M ++ [l[j]]) ++ l.drop (j + 1) = F j ++ M ++ l.drop j := by
          rw [hFs, List.drop_eq_getElem_cons hlt]; simp
        rw [e, hFs] at next
        rw [wrapN (by omega)]
        exact pWk_me (H := .sl true 3 1 ((F j ++ M ++ l.drop j).map V.i) :: Bs) rfl (hH _) next
    · have hjl : j = l.length := by omega
      subst hjl
      have hFall : F l.length = l.filter fun x => !p x := by simp only [F, List.take_length]
      simp only [go_sem, Nat.reduceAdd, Nat.reduceSub, Nat.reduceMul, Nat.reduceLeDiff, Nat.reduceLT, Nat.reduceEqDiff, ↓reduceIte, Nat.reducePow, reduceCtorEq, Int.reduceLE, Int.reduceLT, Int.reduceToNat, ← List.map_take, ← List.map_drop, Int.reduceBEq, Int.reduceBNe, Int.ofNat_le, Int.natCast_nonneg, List.drop_length, Nat.sub_zero]
      refine ⟨by omega, by rw [List.length_append]; omega, by omega, ?_⟩
      rw [List.take_left, hFall]
      exact pWk_me (H := .sl true 3 1 ((l.filter fun x => !p x).map V.i) :: Bs) (by simp [V.wfs, V.wf]) (hH _) ⟨rfl, rfl⟩
end Go.Sim

set_option maxRecDepth 100000
set_option linter.unusedSimpArgs false
set_option linter.unusedVariables false
namespace Go.Sim
open Go.Proofs

theorem any_take_succ {α : Type} {q : α → Bool} {l : List α} {j : Nat} (h : j < l.length) : (l.take (j + 1)).any q = ((l.take j).any q || q l[j]) := by
  rw [List.take_succ_eq_append_getElem h, List.any_append]; simp
theorem all_take_succ {α : Type} {q : α → Bool} {l : List α} {j : Nat} (h : j < l.length) : (l.take (j + 1)).all q = ((l.take j).all q && q l[j]) := by
  rw [List.take_succ_eq_append_getElem h, List.all_append]; simp
theorem all_false_at {α : Type} {q : α → Bool} {l : List α} {j : Nat} (h : j < l.length) (hq : q l[j] = false) : l.all q = false := by
  rw [List.all_eq_false]; exact ⟨l[j], List.getElem_mem h, by simp [hq]⟩

theorem vBook_eq (b : Book) : vBook b = .agg [vTeams b.fnn b.field, .i b.rules.win, .i b.rules.draw, .i b.rules.loss, .ints b.rules.lnn b.rules.ladder, .bool b.rules.again,
  vGames b.gnn b.games, .ints b.pnn b.fair, .ints b.tnn b.taken] := rfl

def hasWd (b : Book) (t : Int) : Bool := bookOk b && within t 0 (b.field.length - 1) && b.games.any (plays t) && b.games.all (fun g => !plays t g || g.st == 4)
theorem ct23 {b : Book} {t : Int} (hb : Sized b) : Pu Try.prog 23 [vBook b, .i t] (.bool (hasWd b t)) := by
  apply c23; unfold t23
  have hgl := hb.games
  have hbx := vBook_eq b
  simp only [go_sem, Nat.reduceAdd, Nat.reduceSub, Nat.reduceMul, Nat.reduceLeDiff, Nat.reduceLT, Nat.reduceEqDiff, ↓reduceIte, Nat.reducePow, reduceCtorEq, Int.reduceLE, Int.reduceLT, Int.reduceToNat, ← List.map_take, ← List.map_drop, Int.reduceBEq, Int.reduceBNe, hbx]
  refine k22 hb ?_
  simp only [go_sem, Nat.reduceAdd, Nat.reduceSub, Nat.reduceMul, Nat.reduceLeDiff, Nat.reduceLT, Nat.reduceEqDiff, ↓reduceIte, Nat.reducePow, reduceCtorEq, Int.reduceLE, Int.reduceLT, Int.reduceToNat, ← List.map_take, ← List.map_drop, Int.reduceBEq, Int.reduceBNe]
  refine ⟨fun h => pWk_done rfl ⟨by simp at h; simp [nthV, hasWd, h], rfl⟩, fun hok => ?_⟩
  refine k118 (b := b) hb.field ?_
  simp only [go_sem, Nat.reduceAdd, Nat.reduceSub, Nat.reduceMul, Nat.reduceLeDiff, Nat.reduceLT, Nat.reduceEqDiff, ↓reduceIte, Nat.reducePow, reduceCtorEq, Int.reduceLE, Int.reduceLT, Int.reduceToNat, ← List.map_take, ← List.map_drop, Int.reduceBEq, Int.reduceBNe]
  refine ⟨fun h => pWk_done rfl ⟨by simp at h; simp [nthV, hasWd, h], rfl⟩, fun hteam => ?_⟩
  refine loop_st (σ := Nat × Nat) (fun s => ([V.i s.2, V.i s.1], [Blk.box 29 (vBook b)])) (fun s => s.1 ≤ b.games.length ∧ s.2 ≤ s.1 ∧ decide (0 < s.2) = (b.games.take s.1).any (plays t) ∧ (b.games.take s.1).all (fun g => !plays t g || g.st == 4) = true) (fun s => b.games.length - s.1)
    (pWk_take rfl ⟨(0, 0), by simp, rfl, rfl⟩) ?_
  rintro μ ⟨k, c⟩ ⟨hk, hc, hany, hall⟩ nx
  simp only at hk hc hany hall nx ⊢
  simp only [go_sem, Nat.reduceAdd, Nat.reduceSub, Nat.reduceMul, Nat.reduceLeDiff, Nat.reduceLT, Nat.reduceEqDiff, ↓reduceIte, Nat.reducePow, reduceCtorEq, Int.reduceLE, Int.reduceLT, Int.reduceToNat, ← List.map_take, ← List.map_drop, Int.reduceBEq, Int.reduceBNe, hbx, Int.ofNat_lt, Int.ofNat_le, Int.natCast_nonneg, List.getElem?_map]
  refine ⟨fun hlt => ?_, fun hge => ?_⟩
  · have hx : b.games[k]? = some b.games[k] := List.getElem?_eq_getElem hlt
    simp only [go_sem, Nat.reduceAdd, Nat.reduceSub, Nat.reduceMul, Nat.reduceLeDiff, Nat.reduceLT, Nat.reduceEqDiff, ↓reduceIte, Nat.reducePow, reduceCtorEq, Int.reduceLE, Int.reduceLT, Int.reduceToNat, ← List.map_take, ← List.map_drop, Int.reduceBEq, Int.reduceBNe, hx, vGame]
    refine ⟨by omega, ?_⟩
    refine k120 (g := b.games[k]) ?_
    simp only [go_sem, Nat.reduceAdd, Nat.reduceSub, Nat.reduceMul, Nat.reduceLeDiff, Nat.reduceLT, Nat.reduceEqDiff, ↓reduceIte, Nat.reducePow, reduceCtorEq, Int.reduceLE, Int.reduceLT, Int.reduceToNat, ← List.map_take, ← List.map_drop, Int.reduceBEq, Int.reduceBNe, wrapN (show k < 4611686018427387904 by omega), wrapN (show c < 4611686018427387904 by omega)]
    refine ⟨fun hp => ⟨fun hs => ?_, fun hs => ?_⟩, fun hp => ?_⟩
    · refine pWk_done rfl ⟨congrArg V.bool ?_, rfl⟩
      have : b.games.all (fun g => !plays t g || g.st == 4) = false := all_false_at hlt (by simp only [plays, hp]; simpa using hs)
      simp [hasWd, this]
    · refine pWk_take rfl (nx (k + 1, c + 1) ⟨by omega, by omega, ?_, ?_⟩ (by omega))
      · rw [any_take_succ hlt]; simp [plays, hp]
      · rw [all_take_succ hlt, hall]; simp only [plays, hp]; simpa using hs
    · refine pWk_take rfl (nx (k + 1, c) ⟨by omega, by omega, ?_, ?_⟩ (by omega))
      · rw [any_take_succ hlt, hany]; simp only [plays, hp]; simp
      · rw [all_take_succ hlt, hall]; simp only [plays, hp]; simp
  · have : k = b.games.length := by omega
    subst this
    rw [List.take_length] at hany hall
    refine pWk_done rfl ⟨congrArg V.bool ?_, rfl⟩
    simp at hok hteam
    simp only [hasWd, hok, hteam, ← hany, hall]; simp
theorem k23 {b : Book} {t : Int} (hb : Sized b) {H : Heap} {K : V → Heap → Prop} (h : K (.bool (hasWd b t)) H) : pCall Try.prog 23 [vBook b, .i t] H K := pCall_pv rfl rfl (ct23 hb) h

theorem ct128 {b : Book} {x : Int} (hb : Sized b) : Ct Try.prog 128 [.i x, .ptr 0 0 0] [.box 29 (vBook b)] (fun v H => v = .bool (hasWd b x) ∧ H = [.box 29 (vBook b)]) := by
  apply c128; unfold t128
  have hbx := vBook_eq b
  simp only [go_sem, Nat.reduceAdd, Nat.reduceSub, Nat.reduceMul, Nat.reduceLeDiff, Nat.reduceLT, Nat.reduceEqDiff, ↓reduceIte, Nat.reducePow, reduceCtorEq, Int.reduceLE, Int.reduceLT, Int.reduceToNat, ← List.map_take, ← List.map_drop, Int.reduceBEq, Int.reduceBNe, hbx]
  refine k23 (b := b) hb ?_
  exact pWk_take rfl ⟨rfl, rfl⟩

/-- The teams that have not withdrawn. -/
def active (b : Book) : List Int := (upTo b.field.length).filter fun t => !hasWd b t
theorem ct25 {b : Book} (hb : Sized b) (hok : bookOk b = true) : Ct Try.prog 25 [vBook b] [] (fun v H => v = .ref 0 0 (active b).length ∧ H = [.sl true 3 1 ((active b).map V.i)]) := by
  apply c25; unfold t25
  have hfl := hb.field
  have hbx := vBook_eq b
  simp only [go_sem, Nat.reduceAdd, Nat.reduceSub, Nat.reduceMul, Nat.reduceLeDiff, Nat.reduceLT, Nat.reduceEqDiff, ↓reduceIte, Nat.reducePow, reduceCtorEq, Int.reduceLE, Int.reduceLT, Int.reduceToNat, ← List.map_take, ← List.map_drop, Int.reduceBEq, Int.reduceBNe, hbx]
  refine k22 hb ?_
  simp only [go_sem, Nat.reduceAdd, Nat.reduceSub, Nat.reduceMul, Nat.reduceLeDiff, Nat.reduceLT, Nat.reduceEqDiff, ↓reduceIte, Nat.reducePow, reduceCtorEq, Int.reduceLE, Int.reduceLT, Int.reduceToNat, ← List.map_take, ← List.map_drop, Int.reduceBEq, Int.reduceBNe, hok]
  refine k127 (by omega) ?_
  simp only [go_sem, Nat.reduceAdd, Nat.reduceSub, Nat.reduceMul, Nat.reduceLeDiff, Nat.reduceLT, Nat.reduceEqDiff, ↓reduceIte, Nat.reducePow, reduceCtorEq, Int.reduceLE, Int.reduceLT, Int.reduceToNat, ← List.map_take, ← List.map_drop, Int.reduceBEq, Int.reduceBNe]
  refine pCall_with false [] [] [1, 0] (ct126 (l := upTo b.field.length) (k := 128) (caps := [.ptr 1 0 0]) (Bs := [.box 29 (vBook b)]) (p := hasWd b) (by rw [upTo_len]; omega) rfl (fun _ => rfl) ?_) (by rw [upTo_len]; rfl) rfl rfl ?_
  · intro rows x hx
    exact Ct_of_pCall (pCall_look [1] (ct128 (x := x) hb) rfl rfl rfl rfl ⟨rfl, rfl⟩)
  · rintro _ _ ⟨rfl, rfl⟩
    refine ⟨fun h => (by cases h), ?_⟩
    exact pWk_kp [] [1] rfl ⟨rfl, rfl⟩

def sameGame (a b : Game) : Bool := a.home == b.home && (a.away == b.away && (a.hg == b.hg && (a.ag == b.ag && a.st == b.st)))
theorem ct129 {a b : Book} {x : Int} (ha : Sized a) (hx0 : 0 ≤ x) {ga gb : Game} (h1 : a.games[x.toNat]? = some ga) (h2 : b.games[x.toNat]? = some gb) :
    Ct Try.prog 129 [.i x, .ptr 0 0 0, .ptr 1 0 0] [.box 29 (vBook a), .box 29 (vBook b)] (fun v H => v = .bool (sameGame ga gb) ∧ H = [.box 29 (vBook a), .box 29 (vBook b)]) := by
  apply c129; unfold t129
  have l1 := (List.getElem?_eq_some_iff.1 h1).1
  have l2 := (List.getElem?_eq_some_iff.1 h2).1
  simp only [go_sem, Nat.reduceAdd, Nat.reduceSub, Nat.reduceMul, Nat.reduceLeDiff, Nat.reduceLT, Nat.reduceEqDiff, ↓reduceIte, Nat.reducePow, reduceCtorEq, Int.reduceLE, Int.reduceLT, Int.reduceToNat, ← List.map_take, ← List.map_drop, Int.reduceBEq, Int.reduceBNe, vBook_eq, List.getElem?_map, h1, h2, vGame, eqCells, eqLeaf]
  refine ⟨hx0, by omega, hx0, by omega, ?_⟩
  exact pWk_take rfl ⟨rfl, rfl⟩

/-- The places at which the games differ. -/
def changed (a b : Book) : List Int := (upTo (min a.games.length b.games.length)).filter fun x => !(match a.games[x.toNat]?, b.games[x.toNat]? with
  | some g, some h => sameGame g h
  | _, _ => false)
theorem mem_upTo {n : Nat} {x : Int} : x ∈ upTo n ↔ 0 ≤ x ∧ x < n := by
  simp only [upTo, List.mem_map, List.mem_range]
  constructor
  · rintro ⟨i, hi, rfl⟩; omega
  · intro h; exact ⟨x.toNat, by omega, by omega⟩
theorem ct26 {a b : Book} (ha : Sized a) (hb : Sized b) : Ct Try.prog 26 [vBook a, vBook b] [] (fun v H => v = .ref 0 0 (changed a b).length ∧ H = [.sl true 3 1 ((changed a b).map V.i)]) := by
  apply c26; unfold t26
  have h1 := ha.games
  have h2 := hb.games
  simp only [go_sem, Nat.reduceAdd, Nat.reduceSub, Nat.reduceMul, Nat.reduceLeDiff, Nat.reduceLT, Nat.reduceEqDiff, ↓reduceIte, Nat.reducePow, reduceCtorEq, Int.reduceLE, Int.reduceLT, Int.reduceToNat, ← List.map_take, ← List.map_drop, Int.reduceBEq, Int.reduceBNe, vBook_eq]
  have hmin : (if (b.games.length : Int) < a.games.length then (b.games.length : Int) else a.games.length) = ((min a.games.length b.games.length : Nat) : Int) := by split <;> omega
  rw [hmin]
  refine k127 (by omega) ?_
  simp only [go_sem, Nat.reduceAdd, Nat.reduceSub, Nat.reduceMul, Nat.reduceLeDiff, Nat.reduceLT, Nat.reduceEqDiff, ↓reduceIte, Nat.reducePow, reduceCtorEq, Int.reduceLE, Int.reduceLT, Int.reduceToNat, ← List.map_take, ← List.map_drop, Int.reduceBEq, Int.reduceBNe]
  refine pCall_with false [] [] [2, 0, 1] (ct126 (l := upTo (min a.games.length b.games.length)) (k := 129) (caps := [.ptr 1 0 0, .ptr 2 0 0]) (Bs := [.box 29 (vBook a), .box 29 (vBook b)]) (p := fun x => match a.games[x.toNat]?, b.games[x.toNat]? with
  | some g, some h => sameGame g h
  | _, _ => false) (by rw [upTo_len]; omega) rfl (fun _ => rfl) ?_) (by rw [upTo_len]; rfl) rfl rfl ?_
  · intro rows x hx
    have hx := mem_upTo.1 hx
    have g1 : a.games[x.toNat]? = some (a.games[x.toNat]'(by omega)) := List.getElem?_eq_getElem _
    have g2 : b.games[x.toNat]? = some (b.games[x.toNat]'(by omega)) := List.getElem?_eq_getElem _
    refine Ct_of_pCall (pCall_look [1, 2] (ct129 (x := x) ha hx.1 g1 g2) rfl rfl rfl rfl ⟨?_, rfl⟩)
    simp only [g1, g2]
  · rintro _ _ ⟨rfl, rfl⟩
    refine ⟨fun h => (by cases h), ?_⟩
    exact pWk_kp [] [2] rfl ⟨rfl, rfl⟩

theorem ct30 {b : Book} {t : Int} (hb : Sized b) (hok : bookOk b = true) (ht : within t 0 (b.field.length - 1) = true) : Ct Try.prog 30 [vBook b, .i t] [] (fun v H => ∃ r : Int, (r = 1 ∨ r = 2) ∧ v = .i r ∧ H = []) := by
  apply c30; unfold t30
  have hgl := hb.games
  have hbx := vBook_eq b
  simp only [go_sem, Nat.reduceAdd, Nat.reduceSub, Nat.reduceMul, Nat.reduceLeDiff, Nat.reduceLT, Nat.reduceEqDiff, ↓reduceIte, Nat.reducePow, reduceCtorEq, Int.reduceLE, Int.reduceLT, Int.reduceToNat, ← List.map_take, ← List.map_drop, Int.reduceBEq, Int.reduceBNe, hbx]
  refine k22 hb ?_
  simp only [go_sem, Nat.reduceAdd, Nat.reduceSub, Nat.reduceMul, Nat.reduceLeDiff, Nat.reduceLT, Nat.reduceEqDiff, ↓reduceIte, Nat.reducePow, reduceCtorEq, Int.reduceLE, Int.reduceLT, Int.reduceToNat, ← List.map_take, ← List.map_drop, Int.reduceBEq, Int.reduceBNe, hok]
  refine k118 (b := b) hb.field ?_
  simp only [go_sem, Nat.reduceAdd, Nat.reduceSub, Nat.reduceMul, Nat.reduceLeDiff, Nat.reduceLT, Nat.reduceEqDiff, ↓reduceIte, Nat.reducePow, reduceCtorEq, Int.reduceLE, Int.reduceLT, Int.reduceToNat, ← List.map_take, ← List.map_drop, Int.reduceBEq, Int.reduceBNe, ht]
  refine loop_st (σ := Nat × Nat × Nat) (fun s => ([V.i s.2.1, V.i s.2.2, V.i s.1], [Blk.box 29 (vBook b)])) (fun s => s.1 ≤ b.games.length ∧ s.2.1 ≤ s.1 ∧ s.2.2 ≤ s.1) (fun s => b.games.length - s.1)
    (pWk_take rfl ⟨(0, 0, 0), by simp, rfl, rfl⟩) ?_
  rintro μ ⟨k, c, d⟩ ⟨hk, hc, hd⟩ nx
  simp only at hk hc hd nx ⊢
  simp only [go_sem, Nat.reduceAdd, Nat.reduceSub, Nat.reduceMul, Nat.reduceLeDiff, Nat.reduceLT, Nat.reduceEqDiff, ↓reduceIte, Nat.reducePow, reduceCtorEq, Int.reduceLE, Int.reduceLT, Int.reduceToNat, ← List.map_take, ← List.map_drop, Int.reduceBEq, Int.reduceBNe, hbx, Int.ofNat_lt, Int.ofNat_le, Int.natCast_nonneg, List.getElem?_map]
  refine ⟨fun hlt => ?_, fun hge => ?_⟩
  · have hx : b.games[k]? = some b.games[k] := List.getElem?_eq_getElem hlt
    simp only [go_sem, Nat.reduceAdd, Nat.reduceSub, Nat.reduceMul, Nat.reduceLeDiff, Nat.reduceLT, Nat.reduceEqDiff, ↓reduceIte, Nat.reducePow, reduceCtorEq, Int.reduceLE, Int.reduceLT, Int.reduceToNat, ← List.map_take, ← List.map_drop, Int.reduceBEq, Int.reduceBNe, hx, vGame]
    refine ⟨by omega, ?_⟩
    refine k120 (g := b.games[k]) ?_
    simp only [go_sem, Nat.reduceAdd, Nat.reduceSub, Nat.reduceMul, Nat.reduceLeDiff, Nat.reduceLT, Nat.reduceEqDiff, ↓reduceIte, Nat.reducePow, reduceCtorEq, Int.reduceLE, Int.reduceLT, Int.reduceToNat, ← List.map_take, ← List.map_drop, Int.reduceBEq, Int.reduceBNe, wrapN (show k < 4611686018427387904 by omega), wrapN (show c < 4611686018427387904 by omega)]
    refine ⟨fun hp => ?_, fun hp => ⟨fun hs => ?_, fun hs => ?_⟩⟩
    · exact pWk_take rfl (nx (k + 1, c, d) ⟨by omega, by simp only; omega, by simp only; omega⟩ (by simp only; omega))
    · exact pWk_take rfl (nx (k + 1, c, d) ⟨by omega, by simp only; omega, by simp only; omega⟩ (by simp only; omega))
    · refine k27 (g := b.games[k]) ?_
      simp only [go_sem, Nat.reduceAdd, Nat.reduceSub, Nat.reduceMul, Nat.reduceLeDiff, Nat.reduceLT, Nat.reduceEqDiff, ↓reduceIte, Nat.reducePow, reduceCtorEq, Int.reduceLE, Int.reduceLT, Int.reduceToNat, ← List.map_take, ← List.map_drop, Int.reduceBEq, Int.reduceBNe, wrapN (show k < 4611686018427387904 by omega), wrapN (show d < 4611686018427387904 by omega)]
      refine ⟨fun ho => ?_, fun ho => ?_⟩
      · exact pWk_take rfl (nx (k + 1, c + 1, d + 1) ⟨by omega, by simp only; omega, by simp only; omega⟩ (by simp only; omega))
      · exact pWk_take rfl (nx (k + 1, c + 1, d) ⟨by omega, by simp only; omega, by simp only; omega⟩ (by simp only; omega))
  · exact ⟨fun _ => pWk_done rfl ⟨2, .inr rfl, rfl, rfl⟩, fun _ => pWk_done rfl ⟨1, .inl rfl, rfl, rfl⟩⟩

end Go.Sim

set_option maxRecDepth 100000
set_option linter.unusedSimpArgs false
set_option linter.unusedVariables false
namespace Go.Sim
open Go.Proofs

/-! ### tables -/
def zeroRow : Row := ⟨0, 0, 0, 0, 0, 0, 0⟩
/-- What a game with `x : y` goals adds to a team's row. -/
def rowAdd (u : Rules) (r : Row) (x y : Int) : Row :=
  if x > y then ⟨r.played + 1, r.wins + 1, r.draws, r.losses, r.scored + x, r.against + y, r.points + u.win⟩
  else if x < y then ⟨r.played + 1, r.wins, r.draws, r.losses + 1, r.scored + x, r.against + y, r.points + u.loss⟩
  else ⟨r.played + 1, r.wins, r.draws + 1, r.losses, r.scored + x, r.against + y, r.points + u.draw⟩
def addGame (u : Rules) (rows : List Row) (g : Game) : List Row :=
  match rows[g.home.toNat]?, rows[g.away.toNat]? with
  | some r, some q => (rows.set g.home.toNat (rowAdd u r (goalsOf g).1 (goalsOf g).2.1)).set g.away.toNat (rowAdd u q (goalsOf g).2.1 (goalsOf g).1)
  | _, _ => rows
def tabStep (u : Rules) (p : Game → Bool) (rows : List Row) (g : Game) : List Row := if (goalsOf g).2.2 && p g then addGame u rows g else rows
def tab (u : Rules) (n : Nat) (games : List Game) (p : Game → Bool) : List Row := games.foldl (tabStep u p) (List.replicate n zeroRow)

/-- The numbers of a row lie between 0 and `m`. -/
structure RowB (m : Int) (r : Row) : Prop where
  a : 0 ≤ r.played ∧ r.played ≤ m
  b : 0 ≤ r.wins ∧ r.wins ≤ m
  c : 0 ≤ r.draws ∧ r.draws ≤ m
  d : 0 ≤ r.losses ∧ r.losses ≤ m
  e : 0 ≤ r.scored ∧ r.scored ≤ m
  f : 0 ≤ r.against ∧ r.against ≤ m
  g : 0 ≤ r.points ∧ r.points ≤ m
theorem RowB.mono {m m' : Int} {r : Row} (h : RowB m r) (hm : m ≤ m') : RowB m' r := by
  obtain ⟨a, b, c, d, e, f, g⟩ := h
  constructor <;> omega

structure RulesB (u : Rules) : Prop where
  win : 0 ≤ u.win ∧ u.win ≤ 10
  draw : 0 ≤ u.draw ∧ u.draw ≤ 10
  loss : 0 ≤ u.loss ∧ u.loss ≤ 10

theorem goals_bounds {n : Int} {g : Game} (h : gameOk n g = true) : 0 ≤ (goalsOf g).1 ∧ (goalsOf g).1 ≤ 99 ∧ 0 ≤ (goalsOf g).2.1 ∧ (goalsOf g).2.1 ≤ 99 := by
  have hb := gameOk_bounds h
  unfold goalsOf
  by_cases h1 : g.st = 1
  · rw [if_pos h1] at hb; simp [h1]; omega
  · by_cases h2 : g.st = 2
    · simp [h2]
    · by_cases h3 : g.st = 3
      · simp [h3]
      · simp [h1, h2, h3]

theorem rowAdd_b {u : Rules} {m : Int} {r : Row} {x y : Int} (hu : RulesB u) (hr : RowB m r) (hx : 0 ≤ x ∧ x ≤ 99) (hy : 0 ≤ y ∧ y ≤ 99) : RowB (m + 100) (rowAdd u r x y) := by
  obtain ⟨a, b, c, d, e, f, g⟩ := hr
  obtain ⟨w, v, l⟩ := hu
  unfold rowAdd
  split
  · constructor <;> simp only <;> omega
  · split
    · constructor <;> simp only <;> omega
    · constructor <;> simp only <;> omega

theorem tabStep_len {u p rows g} : (tabStep u p rows g).length = rows.length := by
  unfold tabStep addGame
  split
  · split <;> simp
  · rfl
theorem tab_len {u n games p} : (tab u n games p).length = n := by
  unfold tab
  have : ∀ (games : List Game) (rows : List Row), (games.foldl (tabStep u p) rows).length = rows.length := by
    intro games
    induction games with
    | nil => intro rows; rfl
    | cons g r ih => intro rows; rw [List.foldl_cons, ih, tabStep_len]
  rw [this]; simp

/-- Two different places of a list. -/
theorem set_two {α : Type} {l : List α} {i j : Nat} (h : i ≠ j) (x y x' : α) : ((l.set i x).set j y).set i x' = (l.set i x').set j y := by
  rw [List.set_comm _ _ (Ne.symm h), List.set_set]
theorem get_two1 {α : Type} {l : List α} {i j : Nat} (h : i ≠ j) (hi : i < l.length) (x y : α) : ((l.set i x).set j y)[i]? = some x := by
  rw [List.getElem?_set_ne (Ne.symm h), List.getElem?_set_self hi]
theorem get_two2 {α : Type} {l : List α} {i j : Nat} (hj : j < l.length) (x y : α) : ((l.set i x).set j y)[j]? = some y := by
  rw [List.getElem?_set_self (by simpa using hj)]
theorem set_self {α : Type} {l : List α} {i : Nat} {x : α} (h : l[i]? = some x) : l.set i x = l := by
  apply List.ext_getElem?
  intro j
  by_cases e : i = j
  · subst e; rw [List.getElem?_set_self (List.getElem?_eq_some_iff.1 h).1, h]
  · rw [List.getElem?_set_ne e]

structure TabOk (u : Rules) (n : Nat) (games : List Game) : Prop where
  rules : RulesB u
  small : n < 2000000
  few : games.length < 4000000
  ok : ∀ g ∈ games, gameOk n g = true

theorem ct243 {u : Rules} {n : Nat} {nn : Bool} {games : List Game} {k : FuncId} {caps : List V} {p : Game → Bool} (hT : TabOk u n games) (hc : V.inKs [] caps = true)
    (ht : ∀ g ∈ games, Pu Try.prog k (vGame g :: caps) (.bool (p g))) :
    Ct Try.prog 243 [vRules u, .i n, vGames nn games, .fn k caps] [] (fun v H => v = .ref 0 0 n ∧ H = [.sl true 158 7 ((tab u n games p).map vRow)]) := by
  apply c243; unfold t243
  have hn := hT.small
  have hgl := hT.few
  simp only [go_sem, Nat.reduceAdd, Nat.reduceSub, Nat.reduceMul, Nat.reduceLeDiff, Nat.reduceLT, Nat.reduceEqDiff, ↓reduceIte, Nat.reducePow, reduceCtorEq, Int.reduceLE, Int.reduceLT, Int.reduceToNat, ← List.map_take, ← List.map_drop, Int.reduceBEq, Int.reduceBNe, vRules]
  refine ⟨by omega, by omega, by omega, ?_⟩
  refine loop_st (fun k : Nat => ([V.i k], [Blk.box 26 (vRules u), Blk.sl true 158 7 ((tab u n (games.take k) p).map vRow)])) (fun k => k ≤ games.length ∧ ∀ r ∈ tab u n (games.take k) p, RowB (100 * k) r) (fun k => games.length - k)
    (pWk_take rfl ⟨0, ⟨by omega, ?_⟩, rfl, ?_⟩) ?_
  · intro r hr
    simp only [tab, List.take_zero, List.foldl_nil] at hr
    rw [(List.mem_replicate.1 hr).2]
    constructor <;> simp [zeroRow]
  · simp [tab, vRules, vRow, zeroRow]
  rintro μ k' ⟨hk, hrows⟩ nx
  simp only [go_sem, Nat.reduceAdd, Nat.reduceSub, Nat.reduceMul, Nat.reduceLeDiff, Nat.reduceLT, Nat.reduceEqDiff, ↓reduceIte, Nat.reducePow, reduceCtorEq, Int.reduceLE, Int.reduceLT, Int.reduceToNat, ← List.map_take, ← List.map_drop, Int.reduceBEq, Int.reduceBNe, vRules, Int.ofNat_lt, Int.ofNat_le, Int.natCast_nonneg, List.getElem?_map]
  refine ⟨fun hlt => ?_, fun hge => ?_⟩
  · have hx : games[k']? = some games[k'] := List.getElem?_eq_getElem hlt
    have hgm := hT.ok _ (List.getElem_mem hlt)
    have htk : tab u n (games.take (k' + 1)) p = tabStep u p (tab u n (games.take k') p) games[k'] := by
      unfold tab
      rw [List.take_succ_eq_append_getElem hlt, List.foldl_append]; rfl
    have hpu := ht games[k'] (List.getElem_mem hlt)
    generalize games[k'] = g at hx hgm htk hpu
    have hgb := gameOk_bounds hgm
    have hgo := goals_bounds hgm
    generalize hR : tab u n (games.take k') p = R at htk hrows
    have hRl : R.length = n := by rw [← hR, tab_len]
    have hw := wrapN (show k' < 4611686018427387904 by omega)
    simp only [go_sem, Nat.reduceAdd, Nat.reduceSub, Nat.reduceMul, Nat.reduceLeDiff, Nat.reduceLT, Nat.reduceEqDiff, ↓reduceIte, Nat.reducePow, reduceCtorEq, Int.reduceLE, Int.reduceLT, Int.reduceToNat, ← List.map_take, ← List.map_drop, Int.reduceBEq, Int.reduceBNe, hx, vGame]
    refine ⟨by omega, ?_⟩
    refine k187 (g := g) ?_
    simp only [go_sem, Nat.reduceAdd, Nat.reduceSub, Nat.reduceMul, Nat.reduceLeDiff, Nat.reduceLT, Nat.reduceEqDiff, ↓reduceIte, Nat.reducePow, reduceCtorEq, Int.reduceLE, Int.reduceLT, Int.reduceToNat, ← List.map_take, ← List.map_drop, Int.reduceBEq, Int.reduceBNe, hw]
    refine ⟨fun hno => ?_, fun hyes => ?_⟩
    · have hs : tabStep u p R g = R := by simp at hno; simp [tabStep, hno]
      have next := nx (k' + 1) ⟨by omega, by rw [htk, hs]; exact fun r hr => (hrows r hr).mono (by omega)⟩ (by omega)
      rw [htk, hs, hR] at next
      exact pWk_take rfl next
    refine pCall_pv (by simp only [V.inKs, List.cons_append, List.nil_append, hc]; rfl) rfl hpu ?_
    simp only [go_sem, Nat.reduceAdd, Nat.reduceSub, Nat.reduceMul, Nat.reduceLeDiff, Nat.reduceLT, Nat.reduceEqDiff, ↓reduceIte, Nat.reducePow, reduceCtorEq, Int.reduceLE, Int.reduceLT, Int.reduceToNat, ← List.map_take, ← List.map_drop, Int.reduceBEq, Int.reduceBNe, hw]
    refine ⟨fun hno => ?_, fun hp => ?_⟩
    · have hs : tabStep u p R g = R := by simp at hno; simp [tabStep, hno]
      have next := nx (k' + 1) ⟨by omega, by rw [htk, hs]; exact fun r hr => (hrows r hr).mono (by omega)⟩ (by omega)
      rw [htk, hs, hR] at next
      exact pWk_take rfl next
    obtain ⟨h, hh⟩ : ∃ h, g.home.toNat = h := ⟨_, rfl⟩
    obtain ⟨a, hha⟩ : ∃ a, g.away.toNat = a := ⟨_, rfl⟩
    have hne : h ≠ a := by omega
    have hhl : h < R.length := by omega
    have hal : a < R.length := by omega
    have hr : R[h]? = some R[h] := List.getElem?_eq_getElem hhl
    have hq : R[a]? = some R[a] := List.getElem?_eq_getElem hal
    have hs : tabStep u p R g = (R.set h (rowAdd u R[h] (goalsOf g).1 (goalsOf g).2.1)).set a (rowAdd u R[a] (goalsOf g).2.1 (goalsOf g).1) := by
      simp at hyes hp
      simp [tabStep, hyes, hp, addGame, hh, hha, hr, hq]
    have hrb := hrows _ (List.getElem_mem hhl)
    have hqb := hrows _ (List.getElem_mem hal)
    have hub := hT.rules
    have hrB : ∀ r ∈ tabStep u p R g, RowB (100 * ((k' + 1 : Nat) : Int)) r := by
      intro r hr
      rw [hs] at hr
      have e : (100 * ((k' + 1 : Nat) : Int)) = 100 * (k' : Int) + 100 := by omega
      rw [e]
      rcases List.mem_or_eq_of_mem_set hr with hr | rfl
      · rcases List.mem_or_eq_of_mem_set hr with hr | rfl
        · exact (hrows r hr).mono (by omega)
        · exact rowAdd_b hub hrb (by omega) (by omega)
      · exact rowAdd_b hub hqb (by omega) (by omega)
    have next := nx (k' + 1) ⟨by omega, by rw [htk]; exact hrB⟩ (by omega)
    rw [htk, hs, hR, List.map_set, List.map_set] at next
    clear nx hrB hs htk
    have hRm : R.map vRow = ((R.map vRow).set h (vRow R[h])).set a (vRow R[a]) := by
      rw [set_self (i := h) (by rw [List.getElem?_map, hr]; rfl), set_self (by rw [List.getElem?_map, hq]; rfl)]
    generalize R[h] = r at hr hrb next hRm
    generalize R[a] = q at hq hqb next hRm
    generalize hLL : R.map vRow = L at next hRm
    have hLl : L.length = n := by rw [← hLL, List.length_map, hRl]
    generalize goalsOf g = xy at hgo next
    obtain ⟨x, y, z⟩ := xy
    simp only at hgo next ⊢
    obtain ⟨r1, r2, r3, r4, r5, r6, r7⟩ := hrb
    obtain ⟨q1, q2, q3, q4, q5, q6, q7⟩ := hqb
    obtain ⟨u1, u2, u3⟩ := hub
    have w1 := wrap64 (n := r.played + 1) (by omega) (by omega)
    have w2 := wrap64 (n := r.wins + 1) (by omega) (by omega)
    have w3 := wrap64 (n := r.draws + 1) (by omega) (by omega)
    have w4 := wrap64 (n := r.losses + 1) (by omega) (by omega)
    have w5 := wrap64 (n := r.scored + x) (by omega) (by omega)
    have w6 := wrap64 (n := r.against + y) (by omega) (by omega)
    have w7 := wrap64 (n := r.points + u.win) (by omega) (by omega)
    have w8 := wrap64 (n := r.points + u.draw) (by omega) (by omega)
    have w9 := wrap64 (n := r.points + u.loss) (by omega) (by omega)
    have w10 := wrap64 (n := q.played + 1) (by omega) (by omega)
    have w11 := wrap64 (n := q.wins + 1) (by omega) (by omega)
    have w12 := wrap64 (n := q.draws + 1) (by omega) (by omega)
    have w13 := wrap64 (n := q.losses + 1) (by omega) (by omega)
    have w14 := wrap64 (n := q.scored + y) (by omega) (by omega)
    have w15 := wrap64 (n := q.against + x) (by omega) (by omega)
    have w16 := wrap64 (n := q.points + u.win) (by omega) (by omega)
    have w17 := wrap64 (n := q.points + u.draw) (by omega) (by omega)
    have w18 := wrap64 (n := q.points + u.loss) (by omega) (by omega)
    rw [hRm]
    have g1 := fun (X Y : V) => get_two1 (l := L) hne (by omega) X Y
    have g2 := fun (X Y : V) => get_two2 (l := L) (i := h) (show a < L.length by omega) X Y
    have g3 := fun (X Y X' : V) => set_two (l := L) hne X Y X'
    have g4 := fun (X Y X' : V) => (List.set_set Y : ((L.set h X).set a Y).set a X' = (L.set h X).set a X')
    have c1 : g.home < (n : Int) := by omega
    have c2 : g.away < (n : Int) := by omega
    simp only [go_sem, Nat.reduceAdd, Nat.reduceSub, Nat.reduceMul, Nat.reduceLeDiff, Nat.reduceLT, Nat.reduceEqDiff, ↓reduceIte, Nat.reducePow, reduceCtorEq, Int.reduceLE, Int.reduceLT, Int.reduceToNat, ← List.map_take, ← List.map_drop, Int.reduceBEq, Int.reduceBNe, Int.ofNat_lt, Int.natCast_nonneg, hh, hha, g1, g2, g3, g4, vRow, vRules, w1, w2, w3, w4, w5, w6, w7, w8, w9, w10, w11, w12, w13, w14, w15, w16, w17, w18, hw]
    have hback : (L.set h (V.agg [V.i r.played, V.i r.wins, V.i r.draws, V.i r.losses, V.i r.scored, V.i r.against, V.i r.points])).set a
        (V.agg [V.i q.played, V.i q.wins, V.i q.draws, V.i q.losses, V.i q.scored, V.i q.against, V.i q.points]) = L := hRm.symm
    rw [hback]
    refine ⟨by omega, by omega, by omega, by omega, fun hlt => ?_, fun hnl => ⟨fun hlt => ?_, fun hnl2 => ?_⟩⟩
    · have e1 : rowAdd u r x y = ⟨r.played + 1, r.wins + 1, r.draws, r.losses, r.scored + x, r.against + y, r.points + u.win⟩ := by unfold rowAdd; rw [if_pos hlt]
      have e2 : rowAdd u q y x = ⟨q.played + 1, q.wins, q.draws, q.losses + 1, q.scored + y, q.against + x, q.points + u.loss⟩ := by unfold rowAdd; rw [if_neg (by omega), if_pos hlt]
      rw [e1, e2] at next
      exact pWk_take rfl next
    · have e1 : rowAdd u r x y = ⟨r.played + 1, r.wins, r.draws, r.losses + 1, r.scored + x, r.against + y, r.points + u.loss⟩ := by unfold rowAdd; rw [if_neg (by omega), if_pos hlt]
      have e2 : rowAdd u q y x = ⟨q.played + 1, q.wins + 1, q.draws, q.losses, q.scored + y, q.against + x, q.points + u.win⟩ := by unfold rowAdd; rw [if_pos hlt]
      rw [e1, e2] at next
      exact pWk_take rfl next
    · have e1 : rowAdd u r x y = ⟨r.played + 1, r.wins, r.draws + 1, r.losses, r.scored + x, r.against + y, r.points + u.draw⟩ := by unfold rowAdd; rw [if_neg (by omega), if_neg (by omega)]
      have e2 : rowAdd u q y x = ⟨q.played + 1, q.wins, q.draws + 1, q.losses, q.scored + y, q.against + x, q.points + u.draw⟩ := by unfold rowAdd; rw [if_neg (by omega), if_neg (by omega)]
      rw [e1, e2] at next
      exact pWk_take rfl next
  · rw [List.take_of_length_le (by omega)]
    exact pWk_kp [] [1] rfl ⟨rfl, rfl⟩

theorem ct244 {g : Game} : Pu Try.prog 244 [vGame g] (.bool true) := by
  apply c244; unfold t244
  simp only [go_sem, Nat.reduceAdd, Nat.reduceSub, Nat.reduceMul, Nat.reduceLeDiff, Nat.reduceLT, Nat.reduceEqDiff, ↓reduceIte, Nat.reducePow, reduceCtorEq, Int.reduceLE, Int.reduceLT, Int.reduceToNat, ← List.map_take, ← List.map_drop, Int.reduceBEq, Int.reduceBNe]
  exact ⟨rfl, pWk_done rfl ⟨rfl, rfl⟩⟩
theorem k244 {g : Game} {H : Heap} {K : V → Heap → Prop} (h : K (.bool true) H) : pCall Try.prog 244 [vGame g] H K :=
  pCall_pv rfl rfl (ct244) h

theorem bookOk_tab {b : Book} (hb : Sized b) (hok : bookOk b = true) : TabOk b.rules b.field.length b.games := by
  have hr : rulesOk b.rules = true := by simp [bookOk] at hok; exact hok.1.1.1.2
  refine ⟨?_, hb.field, hb.games, fun g hg => game_bounds hok hg⟩
  simp only [rulesOk, Bool.and_eq_true, decide_eq_true_eq] at hr
  constructor <;> omega

/-- The table of all games. -/
def tabAll (b : Book) : List Row := tab b.rules b.field.length b.games (fun _ => true)
def vRanker (b : Book) (rows : V) : V := .agg [vTeams b.fnn b.field, .i b.rules.win, .i b.rules.draw, .i b.rules.loss, .ints b.rules.lnn b.rules.ladder, .bool b.rules.again,
  vGames b.gnn b.games, .ints b.pnn b.fair, .ints b.tnn b.taken, rows]
theorem ct130 {b : Book} (hb : Sized b) (hok : bookOk b = true) : Pu Try.prog 130 [vBook b] (vRanker b (.sl true 7 ((tabAll b).map vRow))) := by
  apply c130; unfold t130
  simp only [go_sem, Nat.reduceAdd, Nat.reduceSub, Nat.reduceMul, Nat.reduceLeDiff, Nat.reduceLT, Nat.reduceEqDiff, ↓reduceIte, Nat.reducePow, reduceCtorEq, Int.reduceLE, Int.reduceLT, Int.reduceToNat, ← List.map_take, ← List.map_drop, Int.reduceBEq, Int.reduceBNe, vBook_eq]
  refine pCall_new (ct243 (u := b.rules) (n := b.field.length) (nn := b.gnn) (games := b.games) (k := 244) (caps := []) (p := fun _ => true) (bookOk_tab hb hok) rfl (fun g _ => ct244)) rfl ?_
  rintro _ _ ⟨rfl, rfl⟩
  simp only [go_sem, Nat.reduceAdd, Nat.reduceSub, Nat.reduceMul, Nat.reduceLeDiff, Nat.reduceLT, Nat.reduceEqDiff, ↓reduceIte, Nat.reducePow, reduceCtorEq, Int.reduceLE, Int.reduceLT, Int.reduceToNat, ← List.map_take, ← List.map_drop, Int.reduceBEq, Int.reduceBNe]
  refine pWk_all [2] (vs' := [vRanker b (.sl true 7 ((tabAll b).map vRow))]) ?_ rfl ⟨rfl, rfl⟩
  simp [frzL, frz1, vwOf, V.view, V.views, vRanker, tabAll, tab_len]
  rw [List.take_of_length_le (by rw [List.length_map, tab_len]; exact Nat.le_refl _)]

end Go.Sim

set_option maxRecDepth 100000
set_option linter.unusedSimpArgs false
set_option linter.unusedVariables false
namespace Go.Sim
open Go.Proofs

theorem tabStep_b {u : Rules} {n m : Int} {p : Game → Bool} {rows : List Row} {g : Game} (hu : RulesB u) (hg : gameOk n g = true) (hr : ∀ r ∈ rows, RowB m r) : ∀ r ∈ tabStep u p rows g, RowB (m + 100) r := by
  have hgo := goals_bounds hg
  intro r h
  unfold tabStep addGame at h
  split at h
  · split at h
    · rename_i r1 r2 e1 e2
      rcases List.mem_or_eq_of_mem_set h with h | rfl
      · rcases List.mem_or_eq_of_mem_set h with h | rfl
        · exact (hr r h).mono (by omega)
        · exact rowAdd_b hu (hr _ (List.mem_of_getElem? e1)) (by omega) (by omega)
      · exact rowAdd_b hu (hr _ (List.mem_of_getElem? e2)) (by omega) (by omega)
    · exact (hr r h).mono (by omega)
  · exact (hr r h).mono (by omega)

theorem tab_b {u : Rules} {n : Nat} {games : List Game} {p : Game → Bool} (hu : RulesB u) (hg : ∀ g ∈ games, gameOk n g = true) : ∀ r ∈ tab u n games p, RowB (100 * games.length) r := by
  have key : ∀ (games : List Game) (rows : List Row) (m : Int), (∀ g ∈ games, gameOk n g = true) → (∀ r ∈ rows, RowB m r) → ∀ r ∈ games.foldl (tabStep u p) rows, RowB (m + 100 * games.length) r := by
    intro games
    induction games with
    | nil => intro rows m _ h r hr; simpa using h r hr
    | cons g l ih =>
      intro rows m hg h r hr
      have := ih _ (m + 100) (fun g hg' => hg g (List.mem_cons_of_mem _ hg')) (tabStep_b hu (hg g List.mem_cons_self) h) r hr
      exact this.mono (by simp; omega)
  intro r hr
  have := key games _ 0 hg (fun r hr => by
    rw [(List.mem_replicate.1 hr).2]
    constructor <;> simp [zeroRow]) r hr
  exact this.mono (by omega)

theorem wdGame_ok {n : Nat} {t rule : Int} {g : Game} (ht : 0 ≤ t) (ht2 : t < n) (h : gameOk n g = true) : gameOk n (wdGame t rule g) = true := by
  have hb := gameOk_bounds h
  unfold wdGame
  split
  · split
    · simp only [gameOk, within, Bool.and_eq_true, decide_eq_true_eq, bne_iff_ne]; simp; omega
    · split
      · unfold awardedG
        simp only [gameOk, within, Bool.and_eq_true, decide_eq_true_eq, bne_iff_ne]
        split <;> simp <;> omega
      · exact h
  · exact h

theorem wd_sized {b : Book} {t rule : Int} (hb : Sized b) : Sized (withdrawB b t rule) := ⟨hb.field, hb.names, hb.ladder, by simp [withdrawB]; exact hb.games, hb.fair, hb.taken⟩
theorem wdOk_iff {b : Book} {t rule : Int} (h : wdOk b t rule = true) : bookOk b = true ∧ 0 ≤ t ∧ t < b.field.length ∧ (ruleName rule == { data := #[] }) = false := by
  simp only [wdOk, within, Bool.and_eq_true, decide_eq_true_eq, Bool.not_eq_true'] at h
  exact ⟨h.1.1, h.1.2.1, by omega, h.2⟩
theorem wdGame_pair {t rule : Int} {g : Game} : (wdGame t rule g).home = g.home ∧ (wdGame t rule g).away = g.away := by
  unfold wdGame
  split
  · split
    · exact ⟨rfl, rfl⟩
    · split
      · exact ⟨rfl, rfl⟩
      · exact ⟨rfl, rfl⟩
  · exact ⟨rfl, rfl⟩
theorem wd_bookOk {b : Book} {t rule : Int} (h : wdOk b t rule = true) : bookOk (withdrawB b t rule) = true := by
  obtain ⟨h1, h2, h3, h4⟩ := wdOk_iff h
  have h1' := h1
  simp only [bookOk, Bool.and_eq_true] at h1 ⊢
  obtain ⟨⟨⟨⟨a, b1⟩, c⟩, d⟩, e⟩ := h1
  refine ⟨⟨⟨⟨a, b1⟩, ?_⟩, d⟩, e⟩
  simp only [seasonOk, Bool.and_eq_true] at c ⊢
  refine ⟨allPre_iff.2 fun k hk => ?_, by simpa [withdrawB] using c.2⟩
  have hk' : k < b.games.length := by simpa [withdrawB] using hk
  have hc := allPre_iff.1 c.1 k hk'
  simp only [Bool.and_eq_true, Bool.not_eq_true'] at hc ⊢
  simp only [withdrawB, List.getElem_map]
  refine ⟨wdGame_ok h2 h3 hc.1, ?_⟩
  rw [← List.map_take, List.any_map]
  have : (samePair (wdGame t rule b.games[k]).home (wdGame t rule b.games[k]).away ∘ wdGame t rule) = samePair b.games[k].home b.games[k].away := by
    funext x
    simp only [Function.comp, samePair, wdGame_pair.1, wdGame_pair.2]
  rw [this]; exact hc.2

theorem view_len {s n : Nat} {nn : Bool} {rows : List V} {id : Nat} {H : Heap} {fl : List Nat} (hv : vwOf H fl id = some (nn, s, rows)) (hn : n = rows.length) : V.view (vwOf H fl) (.ref id 0 n) = .sl nn s rows := by
  subst hn
  rw [vw_ref, hv]; simp

theorem pu21 {b : Book} {t rule : Int} (hb : Sized b) (hn : Nils b) (hok : wdOk b t rule = true) : Pu Try.prog 21 [vBook b, .i t, .i rule] (.tup [vBook (withdrawB b t rule), .bool true]) := by
  refine Ct_wk ((ct21 hb hn).mono ?_)
  intro v H' h
  rw [if_pos hok] at h
  obtain ⟨rfl, rfl⟩ := h
  have hv : ([V.tup [rBook 0 b, .bool true]].map (·.view (vwOf (frzL (hBook (withdrawB b t rule)) [0, 1, 2, 3, 4]) [0, 1, 2, 3, 4]))) = [.tup [vBook (withdrawB b t rule), .bool true]] := by
    simp only [List.map_cons, List.map_nil, view_tup, views_cons, rBook, view_agg, view_int, view_bool, views_nil]
    rw [view_len (nn := b.fnn) (s := 3) (rows := b.field.map vTeam) rfl (by simp), view_len (nn := b.rules.lnn) (s := 1) (rows := b.rules.ladder.map V.i) rfl (by simp), view_len (nn := b.gnn) (s := 5) (rows := (withdrawB b t rule).games.map vGame) rfl (by simp [withdrawB]), view_len (nn := b.pnn) (s := 1) (rows := b.fair.map V.i) rfl (by simp),
      view_len (nn := b.tnn) (s := 1) (rows := b.taken.map V.i) rfl (by simp)]
    simp only [vBook_eq, withdrawB]
  refine pWk_keep [0, 1, 2, 3, 4] [] (vs' := [.tup [vBook (withdrawB b t rule), .bool true]]) (Hs := []) ?_ rfl ?_ ⟨rfl, rfl⟩
  · rw [hv]; rfl
  · simp only [heldB, hv]; rfl
theorem k21 {b : Book} {t rule : Int} (hb : Sized b) (hn : Nils b) (hok : wdOk b t rule = true) {H : Heap} {K : V → Heap → Prop} (h : K (.tup [vBook (withdrawB b t rule), .bool true]) H) : pCall Try.prog 21 [vBook b, .i t, .i rule] H K :=
  pCall_pv rfl rfl (pu21 hb hn hok) h

theorem k130 {b : Book} (hb : Sized b) (hok : bookOk b = true) {H : Heap} {K : V → Heap → Prop} (h : K (vRanker b (.sl true 7 ((tabAll b).map vRow))) H) : pCall Try.prog 130 [vBook b] H K := pCall_pv rfl rfl (ct130 hb hok) h

/-- The points that are lost. -/
def lost (b : Book) (t rule : Int) : List Int := (List.zipWith (fun r q : Row => r.points - q.points) (tabAll b) (tabAll (withdrawB b t rule)))
theorem tabAll_len {b : Book} : (tabAll b).length = b.field.length := tab_len
theorem lost_len {b : Book} {t rule : Int} : (lost b t rule).length = b.field.length := by
  unfold lost; rw [List.length_zipWith, tabAll_len, tabAll_len]; simp [withdrawB]
theorem ct28 {b : Book} {t rule : Int} (hb : Sized b) (hn : Nils b) (hok : wdOk b t rule = true) : Ct Try.prog 28 [vBook b, .i t, .i rule] [] (fun v H => v = .ref 0 0 b.field.length ∧ H = [.sl true 3 1 ((lost b t rule).map V.i)]) := by
  apply c28; unfold t28
  obtain ⟨h1, h2, h3, h4⟩ := wdOk_iff hok
  have hw := wd_sized (t := t) (rule := rule) hb
  have hwok := wd_bookOk hok
  have hfl := hb.field
  have hgl := hb.games
  simp only [go_sem, Nat.reduceAdd, Nat.reduceSub, Nat.reduceMul, Nat.reduceLeDiff, Nat.reduceLT, Nat.reduceEqDiff, ↓reduceIte, Nat.reducePow, reduceCtorEq, Int.reduceLE, Int.reduceLT, Int.reduceToNat, ← List.map_take, ← List.map_drop, Int.reduceBEq, Int.reduceBNe]
  have hcell : V.cellsOk (vBook b) = true := rfl
  rw [hcell]
  simp only [go_sem, Nat.reduceAdd, Nat.reduceSub, Nat.reduceMul, Nat.reduceLeDiff, Nat.reduceLT, Nat.reduceEqDiff, ↓reduceIte, Nat.reducePow, reduceCtorEq, Int.reduceLE, Int.reduceLT, Int.reduceToNat, ← List.map_take, ← List.map_drop, Int.reduceBEq, Int.reduceBNe, show rowGet true 9 (vBook b) 0 = some (vBook b) from rfl]
  refine k21 hb hn hok ?_
  simp only [go_sem, Nat.reduceAdd, Nat.reduceSub, Nat.reduceMul, Nat.reduceLeDiff, Nat.reduceLT, Nat.reduceEqDiff, ↓reduceIte, Nat.reducePow, reduceCtorEq, Int.reduceLE, Int.reduceLT, Int.reduceToNat, ← List.map_take, ← List.map_drop, Int.reduceBEq, Int.reduceBNe, show V.cellsOk (vBook (withdrawB b t rule)) = true from rfl, show (V.cells (vBook (withdrawB b t rule))).length = 9 from rfl, vBook_eq]
  refine k130 (b := withdrawB b t rule) hw hwok ?_
  simp only [go_sem, Nat.reduceAdd, Nat.reduceSub, Nat.reduceMul, Nat.reduceLeDiff, Nat.reduceLT, Nat.reduceEqDiff, ↓reduceIte, Nat.reducePow, reduceCtorEq, Int.reduceLE, Int.reduceLT, Int.reduceToNat, ← List.map_take, ← List.map_drop, Int.reduceBEq, Int.reduceBNe, vRanker]
  refine k130 (b := b) hb h1 ?_
  simp only [go_sem, Nat.reduceAdd, Nat.reduceSub, Nat.reduceMul, Nat.reduceLeDiff, Nat.reduceLT, Nat.reduceEqDiff, ↓reduceIte, Nat.reducePow, reduceCtorEq, Int.reduceLE, Int.reduceLT, Int.reduceToNat, ← List.map_take, ← List.map_drop, Int.reduceBEq, Int.reduceBNe, vRanker]
  let boxes : Heap := [Blk.box 29 (.agg [vTeams b.fnn b.field, V.i b.rules.win, V.i b.rules.draw, V.i b.rules.loss, V.ints b.rules.lnn b.rules.ladder, V.bool b.rules.again, vGames b.gnn b.games, V.ints b.pnn b.fair, V.ints b.tnn b.taken]),
    Blk.box 29 (.agg [vTeams (withdrawB b t rule).fnn (withdrawB b t rule).field, V.i (withdrawB b t rule).rules.win, V.i (withdrawB b t rule).rules.draw, V.i (withdrawB b t rule).rules.loss, V.ints (withdrawB b t rule).rules.lnn (withdrawB b t rule).rules.ladder,
      V.bool (withdrawB b t rule).rules.again, vGames (withdrawB b t rule).gnn (withdrawB b t rule).games, V.ints (withdrawB b t rule).pnn (withdrawB b t rule).fair, V.ints (withdrawB b t rule).tnn (withdrawB b t rule).taken])]
  have hl1 : (tabAll b).length = b.field.length := tabAll_len
  have hl2 : (tabAll (withdrawB b t rule)).length = b.field.length := by rw [tabAll_len]; rfl
  refine loop_st (fun k : Nat => ([V.ref 3 0 k, V.i k], boxes ++ [.dead, Blk.sl true 3 1 (((lost b t rule).take k).map V.i)])) (fun k => k ≤ b.field.length) (fun k => b.field.length - k) (pWk_mv [2] rfl ⟨0, by omega, rfl, rfl⟩) ?_
  rintro μ k hk nx
  simp only [boxes] at nx ⊢
  simp only [go_sem, Nat.reduceAdd, Nat.reduceSub, Nat.reduceMul, Nat.reduceLeDiff, Nat.reduceLT, Nat.reduceEqDiff, ↓reduceIte, Nat.reducePow, reduceCtorEq, Int.reduceLE, Int.reduceLT, Int.reduceToNat, ← List.map_take, ← List.map_drop, Int.reduceBEq, Int.reduceBNe, Int.ofNat_lt, Int.natCast_nonneg, List.getElem?_map, hl1, hl2]
  refine ⟨fun hlt => ?_, fun hge => ?_⟩
  · have hx1 : (tabAll b)[k]? = some ((tabAll b)[k]'(by omega)) := List.getElem?_eq_getElem _
    have hx2 : (tabAll (withdrawB b t rule))[k]? = some ((tabAll (withdrawB b t rule))[k]'(by omega)) := List.getElem?_eq_getElem _
    have b1 := (tab_b (p := fun _ => true) (bookOk_tab hb h1).rules (bookOk_tab hb h1).ok) _ (List.getElem_mem (show k < (tabAll b).length by omega))
    have b2 := (tab_b (p := fun _ => true) (bookOk_tab hw hwok).rules (bookOk_tab hw hwok).ok) _ (List.getElem_mem (show k < (tabAll (withdrawB b t rule)).length by omega))
    have hgl2 : (withdrawB b t rule).games.length = b.games.length := by simp [withdrawB]
    have hd : (lost b t rule).take (k + 1) = (lost b t rule).take k ++ [((tabAll b)[k]'(by omega)).points - ((tabAll (withdrawB b t rule))[k]'(by omega)).points] := by
      rw [List.take_succ_eq_append_getElem (by rw [lost_len]; exact hlt)]
      simp [lost]
    have next := nx (k + 1) (by omega) (by omega)
    rw [hd, List.map_append] at next
    generalize (tabAll b)[k]'(by omega) = r at hx1 b1 next
    generalize (tabAll (withdrawB b t rule))[k]'(by omega) = q at hx2 b2 next
    have p1 := b1.g
    have p2 := b2.g
    have htl : ((lost b t rule).take k).length = k := by rw [List.length_take, lost_len]; omega
    simp only [go_sem, Nat.reduceAdd, Nat.reduceSub, Nat.reduceMul, Nat.reduceLeDiff, Nat.reduceLT, Nat.reduceEqDiff, ↓reduceIte, Nat.reducePow, reduceCtorEq, Int.reduceLE, Int.reduceLT, Int.reduceToNat, ← List.map_take, ← List.map_drop, Int.reduceBEq, Int.reduceBNe, hx1, hx2, vRow, wrapN (show k < 4611686018427387904 by omega), wrap64 (n := r.points - q.points) (by omega) (by omega), htl, Int.ofNat_lt]
    refine ⟨by omega, by omega, by omega, ?_⟩
    exact pWk_mv [6] rfl next
  · have : k = b.field.length := by omega
    subst this
    rw [List.take_of_length_le (by rw [lost_len]; exact Nat.le_refl _)]
    exact pWk_kp [] [3] rfl ⟨rfl, rfl⟩

end Go.Sim
