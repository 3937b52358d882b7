/- Contracts: marks, the reference for withdrawals. -/
import Derived.Test.YtahdgiaddhoaoaaLawM
import Derived.Test.YtahdgiaddhoaoaaTxtG

set_option maxRecDepth 100000
set_option linter.unusedSimpArgs false
set_option linter.unusedVariables false
namespace Go.Sim
open Go.Proofs

/-! ### marks -/
def dig : Nat → Nat → ByteArray → ByteArray
  | 0, _, acc => acc
  | f + 1, k, acc => if k = 0 then acc else dig f (k / 10) (bytesOf [((48 + k % 10 : Nat) : Int)] ++ acc)
theorem dig_fuel : ∀ (f g k : Nat) (acc : ByteArray), k < f → k < g → dig f k acc = dig g k acc
  | 0, _, _, _, h, _ => by omega
  | _ + 1, 0, _, _, _, h => by omega
  | f + 1, g + 1, k, acc, h1, h2 => by
    unfold dig
    split
    · rfl
    · exact dig_fuel f g _ _ (by omega) (by omega)
def markT (k : Nat) : ByteArray := { data := #[109] } ++ dig (k + 1) k { data := #[] }

theorem ct266 {k : Nat} (h1 : 0 < k) (h2 : k < 1000000000000) : Pu Try.prog 266 [.i k] (.str (markT k)) := by
  apply c266; unfold t266
  simp only [go_sem, Nat.reduceAdd, Nat.reduceSub, Nat.reduceMul, Nat.reduceLeDiff, Nat.reduceLT, Nat.reduceEqDiff, ↓reduceIte, Nat.reducePow, reduceCtorEq, Int.reduceLE, Int.reduceLT, Int.reduceToNat, ← List.map_take, ← List.map_drop, Int.reduceBEq, Int.reduceBNe]
  refine ⟨fun h => by omega, fun _ => ?_⟩
  refine loop_st (σ := Nat × ByteArray) (fun s => ([V.i s.1, V.str s.2], [])) (fun s => s.1 ≤ k ∧ s.2.size + s.1 ≤ k ∧ dig (s.1 + 1) s.1 s.2 = dig (k + 1) k { data := #[] }) (fun s => s.1) (pWk_done rfl ⟨(k, { data := #[] }), ⟨Nat.le_refl _, Nat.le_of_eq (Nat.zero_add k), rfl⟩, rfl, rfl⟩) ?_
  rintro μ ⟨n, acc⟩ ⟨hn, hs, hd⟩ nx
  simp only at hn hs hd nx ⊢
  have w1 : IntKind.u8.wrap (IntKind.i64.wrap (48 + (n : Int).tmod 10)) = ((48 + n % 10 : Nat) : Int) := by
    have e1 : (n : Int).tmod 10 = ((n % 10 : Nat) : Int) := by rw [Int.tmod_eq_emod_of_nonneg (by omega)]; omega
    rw [e1, wrap64 (by omega) (by omega)]
    simp [IntKind.wrap, IntKind.signed, IntKind.bits]
    omega
  have w2 : IntKind.i64.wrap ((n : Int).tdiv 10) = ((n / 10 : Nat) : Int) := by
    have e1 : (n : Int).tdiv 10 = ((n / 10 : Nat) : Int) := by rw [Int.tdiv_eq_ediv_of_nonneg (by omega)]; omega
    rw [e1, wrap64 (by omega) (by omega)]
  simp only [go_sem, Nat.reduceAdd, Nat.reduceSub, Nat.reduceMul, Nat.reduceLeDiff, Nat.reduceLT, Nat.reduceEqDiff, ↓reduceIte, Nat.reducePow, reduceCtorEq, Int.reduceLE, Int.reduceLT, Int.reduceToNat, ← List.map_take, ← List.map_drop, Int.reduceBEq, Int.reduceBNe, convB, w1, w2, bytesV]
  have hsz : (bytesOf [((48 + n % 10 : Nat) : Int)]).size = 1 := rfl
  refine ⟨fun hpos => ⟨by omega, by rw [hsz]; omega, by omega, pWk_take rfl (nx (n / 10, bytesOf [((48 + n % 10 : Nat) : Int)] ++ acc) ⟨by simp only; omega, ?_, ?_⟩ (by simp only; omega))⟩, fun hz => ⟨?_, pWk_done rfl ⟨?_, rfl⟩⟩⟩
  · simp only [ByteArray.size_append, hsz]; omega
  · simp only
    rw [← hd, dig_fuel (n / 10 + 1) n _ _ (by omega) (by omega)]
    conv => rhs; unfold dig
    rw [if_neg (by omega)]
  · show 1 + acc.size ≤ _
    omega
  · have : n = 0 := by omega
    subst this
    have : acc = dig (k + 1) k { data := #[] } := by rw [← hd]; rfl
    rw [this]; rfl
theorem k266 {k : Nat} (h1 : 0 < k) (h2 : k < 1000000000000) {H : Heap} {K : V → Heap → Prop} (h : K (.str (markT k)) H) : pCall Try.prog 266 [.i k] H K :=
  pCall_pv rfl rfl (ct266 h1 h2) h

/-- A list whose beginning is written over. -/
def ovr {α : Type} (f : Nat → α) (i : Nat) (l : List α) : List α := (List.range (min i l.length)).map f ++ l.drop i
theorem ovr_zero {α : Type} {f : Nat → α} {l : List α} : ovr f 0 l = l := by simp [ovr]
theorem ovr_len {α : Type} {f : Nat → α} {i : Nat} {l : List α} : (ovr f i l).length = l.length := by simp [ovr]; omega
theorem ovr_all {α : Type} {f : Nat → α} {i : Nat} {l : List α} (h : l.length ≤ i) : ovr f i l = (List.range l.length).map f := by
  simp [ovr, List.drop_eq_nil_of_le h, Nat.min_eq_right h]
theorem ovr_get {α : Type} {f : Nat → α} {i : Nat} {l : List α} (h : i < l.length) : (ovr f i l)[i]? = some l[i] := by
  unfold ovr
  rw [List.getElem?_append_right (by simp; omega)]
  simp
  rw [Nat.min_eq_left (by omega)]
  simp [h]
  try omega
theorem ovr_set {α : Type} {f : Nat → α} {i : Nat} {l : List α} (h : i < l.length) : (ovr f i l).set i (f i) = ovr f (i + 1) l := by
  apply List.ext_getElem?
  intro j
  rw [List.getElem?_set, ovr_len]
  unfold ovr
  rw [Nat.min_eq_left (by omega : i ≤ l.length), Nat.min_eq_left (by omega : i + 1 ≤ l.length)]
  by_cases hj : i = j
  · subst hj
    simp only [if_true, h]
    rw [List.getElem?_append_left (by simp)]
    simp
  · rw [if_neg hj]
    rcases Nat.lt_or_ge j i with hji | hji
    · rw [List.getElem?_append_left (by simp; omega), List.getElem?_append_left (by simp; omega), List.getElem?_map, List.getElem?_map, List.getElem?_range hji, List.getElem?_range (by omega)]
    · rw [List.getElem?_append_right (by simp; omega), List.getElem?_append_right (by simp; omega)]
      simp
      rw [show i + (j - i) = j by omega, show i + 1 + (j - (i + 1)) = j by omega]

def mkI (k : Nat) (i : Nat) : Int := ((k + i : Nat) : Int)
def mkG (k : Nat) (i : Nat) : Game := ⟨((k + 5 * i : Nat) : Int), ((k + 5 * i + 1 : Nat) : Int), ((k + 5 * i + 2 : Nat) : Int), ((k + 5 * i + 3 : Nat) : Int), ((k + 5 * i + 4 : Nat) : Int)⟩
def mkT (k : Nat) (i : Nat) : Team := ⟨markT (k + 3 * i), ((k + 3 * i + 1 : Nat) : Int), ((k + 3 * i + 2 : Nat) : Int)⟩

theorem ct88 {l : List Int} {k : Nat} (hl : l.length < 4000000) (hk : k < 1000000000) : Ct Try.prog 88 [.ref 0 0 l.length, .i k] [.sl true 3 1 (l.map V.i)] (fun v H => v = .i ((k + l.length : Nat) : Int) ∧ H = [.sl true 3 1 (((List.range l.length).map (mkI k)).map V.i)]) := by
  apply c88; unfold t88
  simp only [go_sem, Nat.reduceAdd, Nat.reduceSub, Nat.reduceMul, Nat.reduceLeDiff, Nat.reduceLT, Nat.reduceEqDiff, ↓reduceIte, Nat.reducePow, reduceCtorEq, Int.reduceLE, Int.reduceLT, Int.reduceToNat, ← List.map_take, ← List.map_drop, Int.reduceBEq, Int.reduceBNe]
  refine loop_st (fun i : Nat => ([V.i ((k + i : Nat) : Int), V.i i], [Blk.sl true 3 1 ((ovr (mkI k) i l).map V.i)])) (fun i => i ≤ l.length) (fun i => l.length - i) (pWk_take rfl ⟨0, by omega, rfl, by simp only [ovr_zero]; rfl⟩) ?_
  rintro μ i hi nx
  simp only [go_sem, Nat.reduceAdd, Nat.reduceSub, Nat.reduceMul, Nat.reduceLeDiff, Nat.reduceLT, Nat.reduceEqDiff, ↓reduceIte, Nat.reducePow, reduceCtorEq, Int.reduceLE, Int.reduceLT, Int.reduceToNat, ← List.map_take, ← List.map_drop, Int.reduceBEq, Int.reduceBNe, Int.ofNat_lt, Int.ofNat_le, Int.natCast_nonneg, List.getElem?_map, ovr_len, List.length_map]
  refine ⟨fun hlt => ?_, fun hge => ?_⟩
  · have hx := ovr_get (f := mkI k) hlt
    have next := nx (i + 1) (by omega) (by omega)
    rw [← ovr_set hlt, List.map_set] at next
    simp only [go_sem, Nat.reduceAdd, Nat.reduceSub, Nat.reduceMul, Nat.reduceLeDiff, Nat.reduceLT, Nat.reduceEqDiff, ↓reduceIte, Nat.reducePow, reduceCtorEq, Int.reduceLE, Int.reduceLT, Int.reduceToNat, ← List.map_take, ← List.map_drop, Int.reduceBEq, Int.reduceBNe, hx, wrapN (show i < 4611686018427387904 by omega), wrapN (show k + i < 4611686018427387904 by omega)]
    exact ⟨by omega, pWk_take rfl next⟩
  · have : i = l.length := by omega
    subst this
    rw [ovr_all (Nat.le_refl _)]
    exact pWk_kp [] [0] rfl ⟨rfl, rfl⟩

end Go.Sim

set_option maxRecDepth 100000
set_option linter.unusedSimpArgs false
set_option linter.unusedVariables false
namespace Go.Sim
open Go.Proofs

theorem ct205 {l : List Team} {k : Nat} (hl : l.length < 4000000) (hk0 : 0 < k) (hk : k < 1000000000) : Ct Try.prog 205 [.ref 0 0 l.length, .i k] [.sl true 178 3 (l.map vTeam)] (fun v H => v = .i ((k + 3 * l.length : Nat) : Int) ∧ H = [.sl true 178 3 (((List.range l.length).map (mkT k)).map vTeam)]) := by
  apply c205; unfold t205
  simp only [go_sem, Nat.reduceAdd, Nat.reduceSub, Nat.reduceMul, Nat.reduceLeDiff, Nat.reduceLT, Nat.reduceEqDiff, ↓reduceIte, Nat.reducePow, reduceCtorEq, Int.reduceLE, Int.reduceLT, Int.reduceToNat, ← List.map_take, ← List.map_drop, Int.reduceBEq, Int.reduceBNe]
  refine loop_st (fun i : Nat => ([V.i ((k + 3 * i : Nat) : Int), V.i i], [Blk.sl true 178 3 ((ovr (mkT k) i l).map vTeam)])) (fun i => i ≤ l.length) (fun i => l.length - i) (pWk_take rfl ⟨0, by omega, rfl, by simp only [ovr_zero]; rfl⟩) ?_
  rintro μ i hi nx
  simp only [go_sem, Nat.reduceAdd, Nat.reduceSub, Nat.reduceMul, Nat.reduceLeDiff, Nat.reduceLT, Nat.reduceEqDiff, ↓reduceIte, Nat.reducePow, reduceCtorEq, Int.reduceLE, Int.reduceLT, Int.reduceToNat, ← List.map_take, ← List.map_drop, Int.reduceBEq, Int.reduceBNe, Int.ofNat_lt, Int.ofNat_le, Int.natCast_nonneg, List.getElem?_map, ovr_len, List.length_map]
  refine ⟨fun hlt => ?_, fun hge => ?_⟩
  · have hx := ovr_get (f := mkT k) hlt
    have next := nx (i + 1) (by omega) (by omega)
    rw [← ovr_set hlt, List.map_set] at next
    refine k266 (by omega) (by omega) ?_
    generalize l[i] = t at hx
    have hset : ∀ (a b : V), ((List.map vTeam (ovr (mkT k) i l)).set i a).set i b = (List.map vTeam (ovr (mkT k) i l)).set i b := fun a b => List.set_set ..
    have hget : ∀ (a : V), ((List.map vTeam (ovr (mkT k) i l)).set i a)[i]? = some a := fun a => List.getElem?_set_self (by simp [ovr_len]; exact hlt)
    simp only [go_sem, Nat.reduceAdd, Nat.reduceSub, Nat.reduceMul, Nat.reduceLeDiff, Nat.reduceLT, Nat.reduceEqDiff, ↓reduceIte, Nat.reducePow, reduceCtorEq, Int.reduceLE, Int.reduceLT, Int.reduceToNat, ← List.map_take, ← List.map_drop, Int.reduceBEq, Int.reduceBNe, hx, vTeam, hset, hget, ovr_len, List.length_map, List.length_set, List.getElem?_map, Int.ofNat_lt, Int.ofNat_le, Int.natCast_nonneg, wrapN (show i < 4611686018427387904 by omega), wrapN (show k + 3 * i < 4611686018427387904 by omega), wrapN (show k + 3 * i + 1 < 4611686018427387904 by omega), wrapN (show k + 3 * i + 1 + 1 < 4611686018427387904 by omega)]
    exact ⟨hlt, hlt, hlt, pWk_take rfl next⟩
  · have : i = l.length := by omega
    subst this
    rw [ovr_all (Nat.le_refl _)]
    exact pWk_kp [] [0] rfl ⟨rfl, rfl⟩

theorem ct207 {l : List Game} {k : Nat} (hl : l.length < 4000000) (hk : k < 1000000000) : Ct Try.prog 207 [.ref 0 0 l.length, .i k] [.sl true 40 5 (l.map vGame)] (fun v H => v = .i ((k + 5 * l.length : Nat) : Int) ∧ H = [.sl true 40 5 (((List.range l.length).map (mkG k)).map vGame)]) := by
  apply c207; unfold t207
  simp only [go_sem, Nat.reduceAdd, Nat.reduceSub, Nat.reduceMul, Nat.reduceLeDiff, Nat.reduceLT, Nat.reduceEqDiff, ↓reduceIte, Nat.reducePow, reduceCtorEq, Int.reduceLE, Int.reduceLT, Int.reduceToNat, ← List.map_take, ← List.map_drop, Int.reduceBEq, Int.reduceBNe]
  refine loop_st (fun i : Nat => ([V.i ((k + 5 * i : Nat) : Int), V.i i], [Blk.sl true 40 5 ((ovr (mkG k) i l).map vGame)])) (fun i => i ≤ l.length) (fun i => l.length - i) (pWk_take rfl ⟨0, by omega, rfl, by simp only [ovr_zero]; rfl⟩) ?_
  rintro μ i hi nx
  simp only [go_sem, Nat.reduceAdd, Nat.reduceSub, Nat.reduceMul, Nat.reduceLeDiff, Nat.reduceLT, Nat.reduceEqDiff, ↓reduceIte, Nat.reducePow, reduceCtorEq, Int.reduceLE, Int.reduceLT, Int.reduceToNat, ← List.map_take, ← List.map_drop, Int.reduceBEq, Int.reduceBNe, Int.ofNat_lt, Int.ofNat_le, Int.natCast_nonneg, List.getElem?_map, ovr_len, List.length_map]
  refine ⟨fun hlt => ?_, fun hge => ?_⟩
  · have hx := ovr_get (f := mkG k) hlt
    have next := nx (i + 1) (by omega) (by omega)
    rw [← ovr_set hlt, List.map_set] at next
    generalize l[i] = t at hx
    have hset : ∀ (a b : V), ((List.map vGame (ovr (mkG k) i l)).set i a).set i b = (List.map vGame (ovr (mkG k) i l)).set i b := fun a b => List.set_set ..
    have hget : ∀ (a : V), ((List.map vGame (ovr (mkG k) i l)).set i a)[i]? = some a := fun a => List.getElem?_set_self (by simp [ovr_len]; exact hlt)
    simp only [go_sem, Nat.reduceAdd, Nat.reduceSub, Nat.reduceMul, Nat.reduceLeDiff, Nat.reduceLT, Nat.reduceEqDiff, ↓reduceIte, Nat.reducePow, reduceCtorEq, Int.reduceLE, Int.reduceLT, Int.reduceToNat, ← List.map_take, ← List.map_drop, Int.reduceBEq, Int.reduceBNe, hx, vGame, hset, hget, ovr_len, List.length_map, List.length_set, List.getElem?_map, Int.ofNat_lt, Int.ofNat_le, Int.natCast_nonneg, wrapN (show i < 4611686018427387904 by omega), wrapN (show k + 5 * i < 4611686018427387904 by omega), wrapN (show k + 5 * i + 1 < 4611686018427387904 by omega), wrapN (show k + 5 * i + 1 + 1 < 4611686018427387904 by omega), wrapN (show k + 5 * i + 1 + 1 + 1 < 4611686018427387904 by omega), wrapN (show k + 5 * i + 1 + 1 + 1 + 1 < 4611686018427387904 by omega)]
    exact ⟨hlt, hlt, hlt, hlt, hlt, pWk_take rfl next⟩
  · have : i = l.length := by omega
    subst this
    rw [ovr_all (Nat.le_refl _)]
    exact pWk_kp [] [0] rfl ⟨rfl, rfl⟩

theorem ct99 {nn : Bool} {n k : Nat} (hl : n < 4000000) (hk : k < 1000000000) : Pu Try.prog 99 [.ints nn ((List.range n).map (mkI k)), .i k] (.i ((k + n : Nat) : Int)) := by
  apply c99; unfold t99
  have hll : ((List.range n).map (mkI k)).length = n := by simp
  generalize hlst : (List.range n).map (mkI k) = l at *
  simp only [go_sem, Nat.reduceAdd, Nat.reduceSub, Nat.reduceMul, Nat.reduceLeDiff, Nat.reduceLT, Nat.reduceEqDiff, ↓reduceIte, Nat.reducePow, reduceCtorEq, Int.reduceLE, Int.reduceLT, Int.reduceToNat, ← List.map_take, ← List.map_drop, Int.reduceBEq, Int.reduceBNe]
  refine loop_st (fun i : Nat => ([V.i ((k + i : Nat) : Int), V.i i], [])) (fun i => i ≤ n) (fun i => n - i) (pWk_done rfl ⟨0, by omega, rfl, rfl⟩) ?_
  rintro μ i hi nx
  simp only [go_sem, Nat.reduceAdd, Nat.reduceSub, Nat.reduceMul, Nat.reduceLeDiff, Nat.reduceLT, Nat.reduceEqDiff, ↓reduceIte, Nat.reducePow, reduceCtorEq, Int.reduceLE, Int.reduceLT, Int.reduceToNat, ← List.map_take, ← List.map_drop, Int.reduceBEq, Int.reduceBNe, Int.ofNat_lt, Int.ofNat_le, Int.natCast_nonneg, List.getElem?_map, hll]
  refine ⟨fun hlt => ?_, fun hge => ?_⟩
  · have hx : l[i]? = some ((k + i : Nat) : Int) := by rw [← hlst]; simp [hlt, mkI]
    simp only [go_sem, Nat.reduceAdd, Nat.reduceSub, Nat.reduceMul, Nat.reduceLeDiff, Nat.reduceLT, Nat.reduceEqDiff, ↓reduceIte, Nat.reducePow, reduceCtorEq, Int.reduceLE, Int.reduceLT, Int.reduceToNat, ← List.map_take, ← List.map_drop, Int.reduceBEq, Int.reduceBNe, hx, bne_self_eq_false, wrapN (show i < 4611686018427387904 by omega), wrapN (show k + i < 4611686018427387904 by omega)]
    exact ⟨by omega, pWk_done rfl (nx (i + 1) (by omega) (by omega))⟩
  · have : i = n := by omega
    subst this
    exact pWk_done rfl ⟨rfl, rfl⟩

theorem ct208 {nn : Bool} {n k : Nat} (hl : n < 4000000) (hk0 : 0 < k) (hk : k < 1000000000) : Pu Try.prog 208 [vTeams nn ((List.range n).map (mkT k)), .i k] (.i ((k + 3 * n : Nat) : Int)) := by
  apply c208; unfold t208
  have hll : ((List.range n).map (mkT k)).length = n := by simp
  generalize hlst : (List.range n).map (mkT k) = l at *
  simp only [go_sem, Nat.reduceAdd, Nat.reduceSub, Nat.reduceMul, Nat.reduceLeDiff, Nat.reduceLT, Nat.reduceEqDiff, ↓reduceIte, Nat.reducePow, reduceCtorEq, Int.reduceLE, Int.reduceLT, Int.reduceToNat, ← List.map_take, ← List.map_drop, Int.reduceBEq, Int.reduceBNe]
  refine loop_st (fun i : Nat => ([V.i ((k + 3 * i : Nat) : Int), V.i i], [])) (fun i => i ≤ n) (fun i => n - i) (pWk_done rfl ⟨0, by omega, rfl, rfl⟩) ?_
  rintro μ i hi nx
  simp only [go_sem, Nat.reduceAdd, Nat.reduceSub, Nat.reduceMul, Nat.reduceLeDiff, Nat.reduceLT, Nat.reduceEqDiff, ↓reduceIte, Nat.reducePow, reduceCtorEq, Int.reduceLE, Int.reduceLT, Int.reduceToNat, ← List.map_take, ← List.map_drop, Int.reduceBEq, Int.reduceBNe, Int.ofNat_lt, Int.ofNat_le, Int.natCast_nonneg, List.getElem?_map, hll]
  refine ⟨fun hlt => ?_, fun hge => ?_⟩
  · have hx : l[i]? = some (mkT k i) := by rw [← hlst]; simp [hlt]
    have hm : mkT k i = ⟨markT (k + 3 * i), ((k + 3 * i + 1 : Nat) : Int), ((k + 3 * i + 1 + 1 : Nat) : Int)⟩ := rfl
    rw [hm] at hx
    have next := nx (i + 1) (by omega) (by omega)
    simp only [go_sem, Nat.reduceAdd, Nat.reduceSub, Nat.reduceMul, Nat.reduceLeDiff, Nat.reduceLT, Nat.reduceEqDiff, ↓reduceIte, Nat.reducePow, reduceCtorEq, Int.reduceLE, Int.reduceLT, Int.reduceToNat, ← List.map_take, ← List.map_drop, Int.reduceBEq, Int.reduceBNe, hx, vTeam]
    refine ⟨hlt, k266 (by omega) (by omega) ?_⟩
    simp only [go_sem, Nat.reduceAdd, Nat.reduceSub, Nat.reduceMul, Nat.reduceLeDiff, Nat.reduceLT, Nat.reduceEqDiff, ↓reduceIte, Nat.reducePow, reduceCtorEq, Int.reduceLE, Int.reduceLT, Int.reduceToNat, ← List.map_take, ← List.map_drop, Int.reduceBEq, Int.reduceBNe, bytes_bne, bne_self_eq_false, wrapN (show i < 4611686018427387904 by omega), wrapN (show k + 3 * i < 4611686018427387904 by omega), wrapN (show k + 3 * i + 1 < 4611686018427387904 by omega), wrapN (show k + 3 * i + 1 + 1 < 4611686018427387904 by omega)]
    exact ⟨hlt, hlt, pWk_done rfl next⟩
  · have : i = n := by omega
    subst this
    exact pWk_done rfl ⟨rfl, rfl⟩

theorem ct210 {nn : Bool} {n k : Nat} (hl : n < 4000000) (hk : k < 1000000000) : Pu Try.prog 210 [vGames nn ((List.range n).map (mkG k)), .i k] (.i ((k + 5 * n : Nat) : Int)) := by
  apply c210; unfold t210
  have hll : ((List.range n).map (mkG k)).length = n := by simp
  generalize hlst : (List.range n).map (mkG k) = l at *
  simp only [go_sem, Nat.reduceAdd, Nat.reduceSub, Nat.reduceMul, Nat.reduceLeDiff, Nat.reduceLT, Nat.reduceEqDiff, ↓reduceIte, Nat.reducePow, reduceCtorEq, Int.reduceLE, Int.reduceLT, Int.reduceToNat, ← List.map_take, ← List.map_drop, Int.reduceBEq, Int.reduceBNe]
  refine loop_st (fun i : Nat => ([V.i ((k + 5 * i : Nat) : Int), V.i i], [])) (fun i => i ≤ n) (fun i => n - i) (pWk_done rfl ⟨0, by omega, rfl, rfl⟩) ?_
  rintro μ i hi nx
  simp only [go_sem, Nat.reduceAdd, Nat.reduceSub, Nat.reduceMul, Nat.reduceLeDiff, Nat.reduceLT, Nat.reduceEqDiff, ↓reduceIte, Nat.reducePow, reduceCtorEq, Int.reduceLE, Int.reduceLT, Int.reduceToNat, ← List.map_take, ← List.map_drop, Int.reduceBEq, Int.reduceBNe, Int.ofNat_lt, Int.ofNat_le, Int.natCast_nonneg, List.getElem?_map, hll]
  refine ⟨fun hlt => ?_, fun hge => ?_⟩
  · have hx : l[i]? = some (mkG k i) := by rw [← hlst]; simp [hlt]
    have hm : mkG k i = ⟨((k + 5 * i : Nat) : Int), ((k + 5 * i + 1 : Nat) : Int), ((k + 5 * i + 1 + 1 : Nat) : Int), ((k + 5 * i + 1 + 1 + 1 : Nat) : Int), ((k + 5 * i + 1 + 1 + 1 + 1 : Nat) : Int)⟩ := rfl
    rw [hm] at hx
    have next := nx (i + 1) (by omega) (by omega)
    simp only [go_sem, Nat.reduceAdd, Nat.reduceSub, Nat.reduceMul, Nat.reduceLeDiff, Nat.reduceLT, Nat.reduceEqDiff, ↓reduceIte, Nat.reducePow, reduceCtorEq, Int.reduceLE, Int.reduceLT, Int.reduceToNat, ← List.map_take, ← List.map_drop, Int.reduceBEq, Int.reduceBNe, hx, vGame, bne_self_eq_false, wrapN (show i < 4611686018427387904 by omega), wrapN (show k + 5 * i < 4611686018427387904 by omega), wrapN (show k + 5 * i + 1 < 4611686018427387904 by omega), wrapN (show k + 5 * i + 1 + 1 < 4611686018427387904 by omega), wrapN (show k + 5 * i + 1 + 1 + 1 < 4611686018427387904 by omega), wrapN (show k + 5 * i + 1 + 1 + 1 + 1 < 4611686018427387904 by omega)]
    exact ⟨hlt, hlt, hlt, hlt, hlt, pWk_done rfl next⟩
  · have : i = n := by omega
    subst this
    exact pWk_done rfl ⟨rfl, rfl⟩

theorem ct209 {u : Rules} {n k : Nat} (hl : n < 4000000) (hk : k < 1000000000) (hu : u.ladder = (List.range n).map (mkI k)) : Pu Try.prog 209 [vRules u, .i k] (.i ((k + n : Nat) : Int)) := by
  apply c209; unfold t209
  simp only [go_sem, Nat.reduceAdd, Nat.reduceSub, Nat.reduceMul, Nat.reduceLeDiff, Nat.reduceLT, Nat.reduceEqDiff, ↓reduceIte, Nat.reducePow, reduceCtorEq, Int.reduceLE, Int.reduceLT, Int.reduceToNat, ← List.map_take, ← List.map_drop, Int.reduceBEq, Int.reduceBNe, vRules, hu]
  refine pCall_pv rfl rfl (ct99 hl hk) ?_
  simp only [go_sem, Nat.reduceAdd, Nat.reduceSub, Nat.reduceMul, Nat.reduceLeDiff, Nat.reduceLT, Nat.reduceEqDiff, ↓reduceIte, Nat.reducePow, reduceCtorEq, Int.reduceLE, Int.reduceLT, Int.reduceToNat, ← List.map_take, ← List.map_drop, Int.reduceBEq, Int.reduceBNe]
  exact ⟨fun h => by omega, fun _ => pWk_done rfl ⟨rfl, rfl⟩⟩

/-- The book after its slices have been written over with marks. -/
def markB (b : Book) : Book := { b with
  field := (List.range b.field.length).map (mkT 1)
  rules := { b.rules with ladder := (List.range b.rules.ladder.length).map (mkI (1 + 3 * b.field.length)) }
  games := (List.range b.games.length).map (mkG (1 + 3 * b.field.length + b.rules.ladder.length))
  fair := (List.range b.fair.length).map (mkI (1 + 3 * b.field.length + b.rules.ladder.length + 5 * b.games.length))
  taken := (List.range b.taken.length).map (mkI (1 + 3 * b.field.length + b.rules.ladder.length + 5 * b.games.length + b.fair.length)) }
def markN (b : Book) : Nat := 1 + 3 * b.field.length + b.rules.ladder.length + 5 * b.games.length + b.fair.length + b.taken.length

theorem ct92 {b : Book} (hb : Sized b) : Pu Try.prog 92 [vBook (markB b), .i 1] (.i (markN b : Int)) := by
  have h1 := hb.field
  have h2 := hb.ladder
  have h3 := hb.games
  have h4 := hb.fair
  have h5 := hb.taken
  have hbx := vBook_eq (markB b)
  apply c92; unfold t92
  simp only [go_sem, Nat.reduceAdd, Nat.reduceSub, Nat.reduceMul, Nat.reduceLeDiff, Nat.reduceLT, Nat.reduceEqDiff, ↓reduceIte, Nat.reducePow, reduceCtorEq, Int.reduceLE, Int.reduceLT, Int.reduceToNat, ← List.map_take, ← List.map_drop, Int.reduceBEq, Int.reduceBNe, hbx]
  refine pCall_pv rfl rfl (ct208 (n := b.field.length) (k := 1) (by omega) (by omega) (by omega)) ?_
  simp only [go_sem, Nat.reduceAdd, Nat.reduceSub, Nat.reduceMul, Nat.reduceLeDiff, Nat.reduceLT, Nat.reduceEqDiff, ↓reduceIte, Nat.reducePow, reduceCtorEq, Int.reduceLE, Int.reduceLT, Int.reduceToNat, ← List.map_take, ← List.map_drop, Int.reduceBEq, Int.reduceBNe]
  refine ⟨fun h => by omega, fun _ => ?_⟩
  refine pCall_pv rfl rfl (ct209 (u := (markB b).rules) (n := b.rules.ladder.length) (k := 1 + 3 * b.field.length) (by omega) (by omega) rfl) ?_
  simp only [go_sem, Nat.reduceAdd, Nat.reduceSub, Nat.reduceMul, Nat.reduceLeDiff, Nat.reduceLT, Nat.reduceEqDiff, ↓reduceIte, Nat.reducePow, reduceCtorEq, Int.reduceLE, Int.reduceLT, Int.reduceToNat, ← List.map_take, ← List.map_drop, Int.reduceBEq, Int.reduceBNe]
  refine ⟨fun h => by omega, fun _ => ?_⟩
  refine pCall_pv rfl rfl (ct210 (n := b.games.length) (k := 1 + 3 * b.field.length + b.rules.ladder.length) (by omega) (by omega)) ?_
  simp only [go_sem, Nat.reduceAdd, Nat.reduceSub, Nat.reduceMul, Nat.reduceLeDiff, Nat.reduceLT, Nat.reduceEqDiff, ↓reduceIte, Nat.reducePow, reduceCtorEq, Int.reduceLE, Int.reduceLT, Int.reduceToNat, ← List.map_take, ← List.map_drop, Int.reduceBEq, Int.reduceBNe]
  refine ⟨fun h => by omega, fun _ => ?_⟩
  refine pCall_pv rfl rfl (ct99 (n := b.fair.length) (k := 1 + 3 * b.field.length + b.rules.ladder.length + 5 * b.games.length) (by omega) (by omega)) ?_
  simp only [go_sem, Nat.reduceAdd, Nat.reduceSub, Nat.reduceMul, Nat.reduceLeDiff, Nat.reduceLT, Nat.reduceEqDiff, ↓reduceIte, Nat.reducePow, reduceCtorEq, Int.reduceLE, Int.reduceLT, Int.reduceToNat, ← List.map_take, ← List.map_drop, Int.reduceBEq, Int.reduceBNe]
  refine ⟨fun h => by omega, fun _ => ?_⟩
  refine pCall_pv rfl rfl (ct99 (n := b.taken.length) (k := 1 + 3 * b.field.length + b.rules.ladder.length + 5 * b.games.length + b.fair.length) (by omega) (by omega)) ?_
  simp only [go_sem, Nat.reduceAdd, Nat.reduceSub, Nat.reduceMul, Nat.reduceLeDiff, Nat.reduceLT, Nat.reduceEqDiff, ↓reduceIte, Nat.reducePow, reduceCtorEq, Int.reduceLE, Int.reduceLT, Int.reduceToNat, ← List.map_take, ← List.map_drop, Int.reduceBEq, Int.reduceBNe]
  exact ⟨fun h => by omega, fun _ => pWk_done rfl ⟨rfl, rfl⟩⟩

end Go.Sim

set_option maxRecDepth 100000
set_option linter.unusedSimpArgs false
set_option linter.unusedVariables false
namespace Go.Sim
open Go.Proofs

theorem ct206 {l : List Int} {k : Nat} {w d s : Int} {ag : Bool} (hl : l.length < 4000000) (hk : k < 1000000000) : Ct Try.prog 206 [.agg [.i w, .i d, .i s, .ref 0 0 l.length, .bool ag], .i k] [.sl true 3 1 (l.map V.i)] (fun v H => v = .i ((k + l.length : Nat) : Int) ∧ H = [.sl true 3 1 (((List.range l.length).map (mkI k)).map V.i)]) := by
  apply c206; unfold t206
  simp only [go_sem, Nat.reduceAdd, Nat.reduceSub, Nat.reduceMul, Nat.reduceLeDiff, Nat.reduceLT, Nat.reduceEqDiff, ↓reduceIte, Nat.reducePow, reduceCtorEq, Int.reduceLE, Int.reduceLT, Int.reduceToNat, ← List.map_take, ← List.map_drop, Int.reduceBEq, Int.reduceBNe]
  refine pCall_with false [] [] [0] (ct88 (l := l) (k := k) hl hk) rfl rfl rfl ?_
  rintro _ _ ⟨rfl, rfl⟩
  refine ⟨fun h => (by cases h), ?_⟩
  simp only [go_sem, Nat.reduceAdd, Nat.reduceSub, Nat.reduceMul, Nat.reduceLeDiff, Nat.reduceLT, Nat.reduceEqDiff, ↓reduceIte, Nat.reducePow, reduceCtorEq, Int.reduceLE, Int.reduceLT, Int.reduceToNat, ← List.map_take, ← List.map_drop, Int.reduceBEq, Int.reduceBNe]
  exact pWk_take rfl ⟨rfl, rfl⟩

theorem ct91 {b : Book} (hb : Sized b) : Ct Try.prog 91 [sBook 0 b, .i 1] (gBook b) (fun v H => v = .i (markN b : Int) ∧ H = gBook (markB b)) := by
  have h1 := hb.field
  have h2 := hb.ladder
  have h3 := hb.games
  have h4 := hb.fair
  have h5 := hb.taken
  apply c91; unfold t91
  simp only [go_sem, Nat.reduceAdd, Nat.reduceSub, Nat.reduceMul, Nat.reduceLeDiff, Nat.reduceLT, Nat.reduceEqDiff, ↓reduceIte, Nat.reducePow, reduceCtorEq, Int.reduceLE, Int.reduceLT, Int.reduceToNat, ← List.map_take, ← List.map_drop, Int.reduceBEq, Int.reduceBNe, sBook, gBook]
  refine pCall_with false [] [] [0] (ct205 (l := b.field) (k := 1) (by omega) (by omega) (by omega)) rfl rfl rfl ?_
  rintro _ _ ⟨rfl, rfl⟩
  refine ⟨fun h => (by cases h), ?_⟩
  simp only [go_sem, Nat.reduceAdd, Nat.reduceSub, Nat.reduceMul, Nat.reduceLeDiff, Nat.reduceLT, Nat.reduceEqDiff, ↓reduceIte, Nat.reducePow, reduceCtorEq, Int.reduceLE, Int.reduceLT, Int.reduceToNat, ← List.map_take, ← List.map_drop, Int.reduceBEq, Int.reduceBNe]
  refine pCall_with false [] [] [1] (ct206 (l := b.rules.ladder) (k := 1 + 3 * b.field.length) (by omega) (by omega)) rfl rfl rfl ?_
  rintro _ _ ⟨rfl, rfl⟩
  refine ⟨fun h => (by cases h), ?_⟩
  simp only [go_sem, Nat.reduceAdd, Nat.reduceSub, Nat.reduceMul, Nat.reduceLeDiff, Nat.reduceLT, Nat.reduceEqDiff, ↓reduceIte, Nat.reducePow, reduceCtorEq, Int.reduceLE, Int.reduceLT, Int.reduceToNat, ← List.map_take, ← List.map_drop, Int.reduceBEq, Int.reduceBNe]
  refine pCall_with false [] [] [2] (ct207 (l := b.games) (k := 1 + 3 * b.field.length + b.rules.ladder.length) (by omega) (by omega)) rfl rfl rfl ?_
  rintro _ _ ⟨rfl, rfl⟩
  refine ⟨fun h => (by cases h), ?_⟩
  simp only [go_sem, Nat.reduceAdd, Nat.reduceSub, Nat.reduceMul, Nat.reduceLeDiff, Nat.reduceLT, Nat.reduceEqDiff, ↓reduceIte, Nat.reducePow, reduceCtorEq, Int.reduceLE, Int.reduceLT, Int.reduceToNat, ← List.map_take, ← List.map_drop, Int.reduceBEq, Int.reduceBNe]
  refine pCall_with false [] [] [3] (ct88 (l := b.fair) (k := 1 + 3 * b.field.length + b.rules.ladder.length + 5 * b.games.length) (by omega) (by omega)) rfl rfl rfl ?_
  rintro _ _ ⟨rfl, rfl⟩
  refine ⟨fun h => (by cases h), ?_⟩
  simp only [go_sem, Nat.reduceAdd, Nat.reduceSub, Nat.reduceMul, Nat.reduceLeDiff, Nat.reduceLT, Nat.reduceEqDiff, ↓reduceIte, Nat.reducePow, reduceCtorEq, Int.reduceLE, Int.reduceLT, Int.reduceToNat, ← List.map_take, ← List.map_drop, Int.reduceBEq, Int.reduceBNe]
  refine pCall_with false [] [] [4] (ct88 (l := b.taken) (k := 1 + 3 * b.field.length + b.rules.ladder.length + 5 * b.games.length + b.fair.length) (by omega) (by omega)) rfl rfl rfl ?_
  rintro _ _ ⟨rfl, rfl⟩
  refine ⟨fun h => (by cases h), ?_⟩
  simp only [go_sem, Nat.reduceAdd, Nat.reduceSub, Nat.reduceMul, Nat.reduceLeDiff, Nat.reduceLT, Nat.reduceEqDiff, ↓reduceIte, Nat.reducePow, reduceCtorEq, Int.reduceLE, Int.reduceLT, Int.reduceToNat, ← List.map_take, ← List.map_drop, Int.reduceBEq, Int.reduceBNe]
  exact pWk_take rfl ⟨rfl, rfl⟩

end Go.Sim

set_option maxRecDepth 100000
set_option linter.unusedSimpArgs false
set_option linter.unusedVariables false
namespace Go.Sim
open Go.Proofs

theorem ct194 {g : Game} : Pu Try.prog 194 [vGame g] (.bool (g.st == 0)) := by
  apply c194; unfold t194
  simp only [go_sem, Nat.reduceAdd, Nat.reduceSub, Nat.reduceMul, Nat.reduceLeDiff, Nat.reduceLT, Nat.reduceEqDiff, ↓reduceIte, Nat.reducePow, reduceCtorEq, Int.reduceLE, Int.reduceLT, Int.reduceToNat, ← List.map_take, ← List.map_drop, Int.reduceBEq, Int.reduceBNe, vGame]
  (repeat' first | refine pWk_done rfl ⟨?_, rfl⟩ | refine And.intro (fun h => ?_) (fun h => ?_))
  all_goals ((try simp only [nthV]); (try simp_all []); (try omega))
theorem k194 {g : Game} {H : Heap} {K : V → Heap → Prop} (h : K (.bool (g.st == 0)) H) : pCall Try.prog 194 [vGame g] H K :=
  pCall_pv rfl rfl (ct194) h

def wdS (t rule : Int) (g : Game) : Game := if plays t g then (if rule == 1 then ⟨g.home, g.away, 0, 0, 4⟩ else if g.st == 0 then awardedS g (g.home + g.away - t) else g) else g
theorem wd_rule {rule : Int} : (!(ruleName rule == { data := #[] })) = within rule 1 2 := by
  unfold ruleName within
  by_cases h1 : rule = 1
  · subst h1; decide
  · by_cases h2 : rule = 2
    · subst h2; decide
    · have e1 : (rule == 1) = false := by simpa using h1
      have e2 : (rule == 2) = false := by simpa using h2
      rw [e1, e2]
      have : (decide (1 ≤ rule) && decide (rule ≤ 2)) = false := by
        simp only [Bool.and_eq_false_iff, decide_eq_false_iff_not]; omega
      rw [this]; rfl

theorem ct90 {b : Book} {t rule : Int} (hb : Sized b) : Ct Try.prog 90 [vBook b, .i t, .i rule] [] (fun v H => if wdOk b t rule = true then v = .tup [sBook 0 b, .bool true] ∧ H = gBook { b with games := b.games.map (wdS t rule) } else v = .tup [zBook, .bool false] ∧ H = []) := by
  apply c90; unfold t90
  have hbx := vBook_eq b
  have hgl := hb.games
  have hfl := hb.field
  have hdef : wdOk b t rule = (bookOk b && within t 0 (b.field.length - 1) && within rule 1 2) := by rw [← wd_rule]; rfl
  simp only [go_sem, Nat.reduceAdd, Nat.reduceSub, Nat.reduceMul, Nat.reduceLeDiff, Nat.reduceLT, Nat.reduceEqDiff, ↓reduceIte, Nat.reducePow, reduceCtorEq, Int.reduceLE, Int.reduceLT, Int.reduceToNat, ← List.map_take, ← List.map_drop, Int.reduceBEq, Int.reduceBNe, hbx]
  refine k201 hb ?_
  simp only [go_sem, Nat.reduceAdd, Nat.reduceSub, Nat.reduceMul, Nat.reduceLeDiff, Nat.reduceLT, Nat.reduceEqDiff, ↓reduceIte, Nat.reducePow, reduceCtorEq, Int.reduceLE, Int.reduceLT, Int.reduceToNat, ← List.map_take, ← List.map_drop, Int.reduceBEq, Int.reduceBNe, wrap64 (n := (b.field.length : Int) - 1) (by omega) (by omega)]
  refine ⟨fun h => pWk_done rfl ?_, fun hok => ?_⟩
  · rw [if_neg (by rw [hdef]; simp at h; simp [h])]; exact ⟨rfl, rfl⟩
  refine k202 ?_
  simp only [go_sem, Nat.reduceAdd, Nat.reduceSub, Nat.reduceMul, Nat.reduceLeDiff, Nat.reduceLT, Nat.reduceEqDiff, ↓reduceIte, Nat.reducePow, reduceCtorEq, Int.reduceLE, Int.reduceLT, Int.reduceToNat, ← List.map_take, ← List.map_drop, Int.reduceBEq, Int.reduceBNe]
  refine ⟨fun h => pWk_done rfl ?_, fun hteam => ?_⟩
  · rw [if_neg (by rw [hdef]; simp at h; simp [h])]; exact ⟨rfl, rfl⟩
  refine k202 ?_
  simp only [go_sem, Nat.reduceAdd, Nat.reduceSub, Nat.reduceMul, Nat.reduceLeDiff, Nat.reduceLT, Nat.reduceEqDiff, ↓reduceIte, Nat.reducePow, reduceCtorEq, Int.reduceLE, Int.reduceLT, Int.reduceToNat, ← List.map_take, ← List.map_drop, Int.reduceBEq, Int.reduceBNe]
  refine ⟨fun h => pWk_done rfl ?_, fun hrule => ?_⟩
  · rw [if_neg (by rw [hdef]; simp at h; simp [h])]; exact ⟨rfl, rfl⟩
  simp only [Bool.not_eq_false'] at hok hteam hrule
  have hyes : wdOk b t rule = true := by rw [hdef, hok, hteam, hrule]; rfl
  refine k203 hb ?_
  simp only [go_sem, Nat.reduceAdd, Nat.reduceSub, Nat.reduceMul, Nat.reduceLeDiff, Nat.reduceLT, Nat.reduceEqDiff, ↓reduceIte, Nat.reducePow, reduceCtorEq, Int.reduceLE, Int.reduceLT, Int.reduceToNat, ← List.map_take, ← List.map_drop, Int.reduceBEq, Int.reduceBNe, sBook, gBook]
  refine loop_st (fun k : Nat => ([V.i k], sdH b (mapTo (wdS t rule) k b.games))) (fun k => k ≤ b.games.length) (fun k => b.games.length - k) (pWk_take rfl ⟨0, by omega, rfl, by simp only [mapTo_zero]; rfl⟩) ?_
  rintro μ k hk nx
  simp only [go_sem, Nat.reduceAdd, Nat.reduceSub, Nat.reduceMul, Nat.reduceLeDiff, Nat.reduceLT, Nat.reduceEqDiff, ↓reduceIte, Nat.reducePow, reduceCtorEq, Int.reduceLE, Int.reduceLT, Int.reduceToNat, ← List.map_take, ← List.map_drop, Int.reduceBEq, Int.reduceBNe, sdH, Int.ofNat_lt, Int.ofNat_le, Int.natCast_nonneg, mapTo_map]
  refine ⟨fun hlt => ?_, fun hge => ?_⟩
  · have hx := mapTo_get (f := wdS t rule) hlt
    have hgb := gameOk_bounds (game_bounds hok (List.getElem_mem hlt))
    have ht : 0 ≤ t ∧ t < b.field.length := by simp [within] at hteam; omega
    generalize hg : b.games[k] = g at hx hgb
    have hset : ∀ x, wdS t rule g = x → (mapTo (wdS t rule) k b.games).set k x = mapTo (wdS t rule) (k + 1) b.games := fun x e => by rw [← e, ← hg]; exact mapTo_set hlt
    have hskip : wdS t rule g = g → mapTo (wdS t rule) (k + 1) b.games = mapTo (wdS t rule) k b.games := fun e => mapTo_skip hlt (by rw [hg]; exact e)
    have next := nx (k + 1) (by omega) (by omega)
    clear nx
    simp only [go_sem, Nat.reduceAdd, Nat.reduceSub, Nat.reduceMul, Nat.reduceLeDiff, Nat.reduceLT, Nat.reduceEqDiff, ↓reduceIte, Nat.reducePow, reduceCtorEq, Int.reduceLE, Int.reduceLT, Int.reduceToNat, ← List.map_take, ← List.map_drop, Int.reduceBEq, Int.reduceBNe, hx, vGame, mapTo_map, mapTo_len, List.length_map, wrapN (show k < 4611686018427387904 by omega), wrap64 (n := g.home + g.away) (by omega) (by omega), wrap64 (n := g.home + g.away - t) (by omega) (by omega)]
    have void : plays t g = true → (rule == 1) = true → wdS t rule g = ⟨g.home, g.away, 0, 0, 4⟩ := fun h1 h2 => by simp only [wdS, h1, h2]; rfl
    have open' : plays t g = true → (rule == 1) = false → (g.st == 0) = true → wdS t rule g = awardedS g (g.home + g.away - t) := fun h1 h2 h3 => by simp only [wdS, h1, h2, h3]; rfl
    have shut : plays t g = true → (rule == 1) = false → (g.st == 0) = false → wdS t rule g = g := fun h1 h2 h3 => by simp only [wdS, h1, h2, h3]; rfl
    refine ⟨by omega, fun h1 => ⟨fun h2 => ?_, fun h2 => ?_⟩, fun h1 => ?_⟩
    · rw [hskip (by have : plays t g = false := by simp only [plays]; simp at h1 h2; simp [h1, h2]
                    simp [wdS, this])] at next
      exact pWk_take rfl next
    all_goals
      have hpp : plays t g = true := by
        simp only [plays]
        first
          | (have : (g.away == t) = true := by simpa only [bne, Bool.not_eq_false'] using h2
             rw [this]; simp)
          | (have : (g.home == t) = true := by simpa only [bne, Bool.not_eq_false'] using h1
             rw [this]; simp)
      refine ⟨fun hr => ⟨by omega, ?_⟩, fun hr => ?_⟩
      · rw [← hset _ (void hpp hr), sdH, List.map_set] at next
        exact pWk_take rfl next
      · refine k194 (g := g) ?_
        simp only [go_sem, Nat.reduceAdd, Nat.reduceSub, Nat.reduceMul, Nat.reduceLeDiff, Nat.reduceLT, Nat.reduceEqDiff, ↓reduceIte, Nat.reducePow, reduceCtorEq, Int.reduceLE, Int.reduceLT, Int.reduceToNat, ← List.map_take, ← List.map_drop, Int.reduceBEq, Int.reduceBNe, hx, vGame, mapTo_map, mapTo_len, List.length_map, wrapN (show k < 4611686018427387904 by omega), wrap64 (n := g.home + g.away) (by omega) (by omega), wrap64 (n := g.home + g.away - t) (by omega) (by omega)]
        refine ⟨fun ho => ?_, fun ho => ?_⟩
        · refine k204 (g := g) ?_
          simp only [go_sem, Nat.reduceAdd, Nat.reduceSub, Nat.reduceMul, Nat.reduceLeDiff, Nat.reduceLT, Nat.reduceEqDiff, ↓reduceIte, Nat.reducePow, reduceCtorEq, Int.reduceLE, Int.reduceLT, Int.reduceToNat, ← List.map_take, ← List.map_drop, Int.reduceBEq, Int.reduceBNe, Int.ofNat_lt, Int.natCast_nonneg, hx, mapTo_map, vGame, mapTo_len, List.length_map, wrapN (show k < 4611686018427387904 by omega)]
          refine ⟨by omega, ?_⟩
          rw [← hset _ (open' hpp hr ho), sdH, List.map_set] at next
          exact pWk_take rfl next
        · rw [hskip (shut hpp hr ho)] at next
          exact pWk_take rfl next
  · refine pWk_kp [] [2, 3, 4, 5, 6] rfl ?_
    rw [if_pos hyes]
    rw [mapTo_all (by omega)]
    refine ⟨rfl, rfl⟩

theorem wdS_eq {b : Book} {t rule : Int} (h : wdOk b t rule = true) : b.games.map (wdS t rule) = b.games.map (wdGame t rule) := by
  apply List.map_congr_left
  intro g hg
  simp only [wdOk, Bool.and_eq_true] at h
  have hb := gameOk_bounds (game_bounds h.1.1 hg)
  unfold wdS wdGame
  by_cases hp : plays t g = true
  · rw [if_pos hp, if_pos hp]
    rw [awarded_eq ?_ (by omega)]
    simp only [plays, Bool.or_eq_true, beq_iff_eq] at hp ⊢
    omega
  · rw [if_neg hp, if_neg hp]

end Go.Sim
