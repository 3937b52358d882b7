/- Contracts of the drawing functions: what a drawn book is. -/
import Derived.Test.YtahdgiaddhoaoaaSimC
import Derived.Test.YtahdgiaddhoaoaaTxtA
import Derived.Test.YtahdgiaddhoaoaaConA

set_option maxRecDepth 100000
set_option linter.unusedSimpArgs false
set_option linter.unusedVariables false
namespace Go.Sim
open Go.Proofs

/-! ### the cursor of the drawn numbers -/
def vCur (nn : Bool) (bs : List Int) (i h : Int) : Blk := .box 232 (.agg [.bytes nn bs, .i i, .i h])
/-- What a drawing function leaves: the cursor, further on, and a result of which `G` holds. -/
def Drw (nn : Bool) (bs : List Int) (G : V → Prop) (v : V) (H : Heap) : Prop := ∃ i h : Int, H = [vCur nn bs i h] ∧ 0 ≤ i ∧ i ≤ bs.length ∧ G v
def DrwCt (k : FuncId) (nn : Bool) (bs : List Int) (args : List V) (G : V → Prop) : Prop :=
  ∀ i h : Int, 0 ≤ i → i ≤ bs.length → Ct Try.prog k (.ptr 0 0 0 :: args) [vCur nn bs i h] (Drw nn bs G)

theorem inK_more {c : Nat} : ∀ a : V, a.inK [] = true → a.inK [c] = true := fun v => V.rec (motive_1 := fun v => v.inK [] = true → v.inK [c] = true) (motive_2 := fun l => V.inKs [] l = true → V.inKs [c] l = true)
  (fun _ _ _ => rfl) (fun _ _ => rfl) (fun _ _ => rfl) (fun cs ih h => by rw [V.inK] at h ⊢; exact ih h) (fun cs ih h => by rw [V.inK] at h ⊢; exact ih h) (fun _ _ _ _ _ => rfl) (fun _ => rfl) (fun _ => rfl) (fun _ => rfl)
  (fun t v ih h => ih h) (fun f cs ih h => by rw [V.inK] at h ⊢; exact ih h) (fun _ _ _ _ _ => rfl) (fun _ _ _ h => by cases h) (fun _ _ _ h => by cases h) (fun _ => rfl) (fun _ => rfl)
  (fun v l ih1 ih2 h => by
    rw [V.inKs, Bool.and_eq_true] at h
    rw [V.inKs, ih1 h.1, ih2 h.2]; rfl) v
theorem inKs_more {c : Nat} : ∀ l : List V, V.inKs [] l = true → V.inKs [c] l = true
  | [], _ => rfl
  | a :: l, h => by
    rw [V.inKs, Bool.and_eq_true] at h
    rw [V.inKs, inK_more a h.1, inKs_more l h.2]; rfl

/-- A call of a drawing function; the blocks `fl` are given up first. -/
theorem pCall_curF {k : FuncId} {nn : Bool} {bs : List Int} {args args' : List V} {G : V → Prop} {H : Heap} {c : Nat} {i h : Int} {K : V → Heap → Prop} (fl : List Nat) (hct : DrwCt k nn bs args' G) (hv : args.map (·.view (vwOf (frzL H fl) fl)) = args')
    (hc : (frzL H fl)[c]? = some (vCur nn bs i h)) (hi : 0 ≤ i ∧ i ≤ bs.length)
    (hargs : V.inKs [] args' = true) (hG : ∀ v, G v → v.inK [] = true) (hK : ∀ (v : V) (i' h' : Int), G v → 0 ≤ i' → i' ≤ bs.length → K v ((frzL H fl).set c (vCur nn bs i' h'))) : pCall Try.prog k (.ptr c 0 0 :: args) H K := by
  have hlen : (frzL H fl).length = H.length := by
    have : ∀ (fl : List Nat) (H : Heap), (frzL H fl).length = H.length := by
      intro fl
      induction fl with
      | nil => intro H; rfl
      | cons a l ih =>
        intro H
        rw [frzL, ih]
        unfold frz1
        split <;> simp
    exact this fl H
  have hm : (V.ptr c 0 0 :: args).map (·.view (vwOf (frzL H fl) fl)) = .ptr c 0 0 :: args' := by
    rw [List.map_cons, hv]; rfl
  refine pCall_use false fl fl [c] (args' := .ptr 0 0 0 :: args') (Hs := [vCur nn bs i h]) ?_ ?_ ?_ ((hct i h hi.1 hi.2).mono ?_)
  · rw [hm, ← V.rens_map, V.rens, rens_inK args' hargs]
    simp [V.ren, keepR, posOf]
  · simp only [heldH, List.map_cons, List.map_nil, hc]
    rfl
  · simp only [heldB, hm, nodupB, List.all_cons, List.all_nil, hc, V.inKs, inKs_more args' hargs]
    have h1 : (V.ptr c 0 0).inK [c] = true := by simp [V.inK]
    have h2 : Blk.inK [c] ((vCur nn bs i h).view (vwOf (frzL H fl) fl)) = true := by simp [vCur, Blk.view, Blk.inK, V.view, V.views, V.inK, V.inKs]
    have h3 : fl.all (fun id => match (frzL H fl)[id]? with | some (.sl true _ _ _) => false | _ => true) = true := by
      refine List.all_eq_true.2 fun id hid => ?_
      have := frzL_not fl H hid
      split
      · rename_i e s rows hk
        exact absurd hk (this _ _ _)
      · rfl
    rw [h1, h2]
    exact Bool.and_eq_true_iff.2 ⟨rfl, h3⟩
  · rintro v H' ⟨i', h', rfl, g1, g2, g3⟩
    refine ⟨fun h => (by cases h), ?_⟩
    rw [ren_inK v (hG v g3)]
    have e : mergeH (frzL H fl) [c] [vCur nn bs i' h'] = (frzL H fl).set c (vCur nn bs i' h') := by
      simp [mergeH, setL, vCur, Blk.ren, V.ren, V.rens]
    rw [e]
    exact hK v i' h' g3 g1 g2

theorem pCall_cur {k : FuncId} {nn : Bool} {bs : List Int} {args : List V} {G : V → Prop} {H : Heap} {c : Nat} {i h : Int} {K : V → Heap → Prop} (hct : DrwCt k nn bs args G) (hc : H[c]? = some (vCur nn bs i h)) (hi : 0 ≤ i ∧ i ≤ bs.length)
    (hargs : V.inKs [] args = true) (hG : ∀ v, G v → v.inK [] = true) (hK : ∀ (v : V) (i' h' : Int), G v → 0 ≤ i' → i' ≤ bs.length → K v (H.set c (vCur nn bs i' h'))) : pCall Try.prog k (.ptr c 0 0 :: args) H K :=
  pCall_curF [] hct (by rw [frzL, map_view_nil]) hc hi hargs hG hK

theorem and255 (a : Int) : 0 ≤ IntKind.i64.wrap ((BitVec.ofInt IntKind.i64.bits a &&& BitVec.ofInt IntKind.i64.bits 255).toNat : Int) ∧ IntKind.i64.wrap ((BitVec.ofInt IntKind.i64.bits a &&& BitVec.ofInt IntKind.i64.bits 255).toNat : Int) < 256 := by
  have h : (BitVec.ofInt IntKind.i64.bits a &&& BitVec.ofInt IntKind.i64.bits 255).toNat ≤ 255 := by
    rw [BitVec.toNat_and]
    refine Nat.le_trans Nat.and_le_right ?_
    show (BitVec.ofInt 64 255).toNat ≤ 255
    decide
  rw [wrap64 (by omega) (by omega)]
  omega

def isNum (lo hi : Int) (v : V) : Prop := ∃ x : Int, v = .i x ∧ lo ≤ x ∧ x < hi
theorem isNum_in {lo hi : Int} {v : V} (h : isNum lo hi v) : v.inK [] = true := by
  obtain ⟨x, rfl, _⟩ := h; rfl

theorem d117 {nn : Bool} {bs : List Int} (hb : bs.length ≤ 1048576) : DrwCt 117 nn bs [] (isNum 0 256) := by
  intro i h h0 h1
  apply c117; unfold t117
  simp only [go_sem, Nat.reduceAdd, Nat.reduceSub, Nat.reduceMul, Nat.reduceLeDiff, Nat.reduceLT, Nat.reduceEqDiff, ↓reduceIte, Nat.reducePow, reduceCtorEq, Int.reduceLE, Int.reduceLT, Int.reduceToNat, ← List.map_take, ← List.map_drop, Int.reduceBEq, Int.reduceBNe, vCur, Int.ofNat_lt, List.getElem?_map]
  refine ⟨fun hlt => ?_, fun hge => ?_⟩
  · have hx : bs[i.toNat]? = some (bs[i.toNat]'(by omega)) := List.getElem?_eq_getElem _
    simp only [go_sem, Nat.reduceAdd, Nat.reduceSub, Nat.reduceMul, Nat.reduceLeDiff, Nat.reduceLT, Nat.reduceEqDiff, ↓reduceIte, Nat.reducePow, reduceCtorEq, Int.reduceLE, Int.reduceLT, Int.reduceToNat, ← List.map_take, ← List.map_drop, Int.reduceBEq, Int.reduceBNe, hx]
    refine ⟨h0, hlt, ?_⟩
    rw [wrap64 (n := i + 1) (by omega) (by omega)]
    refine pWk_take rfl ⟨_, _, rfl, by omega, by omega, ?_⟩
    exact ⟨_, rfl, (and255 _).1, (and255 _).2⟩
  · refine pWk_take rfl ⟨_, _, rfl, by omega, by omega, ?_⟩
    exact ⟨_, rfl, (and255 _).1, (and255 _).2⟩

theorem d115 {nn : Bool} {bs : List Int} (hb : bs.length ≤ 1048576) {n : Int} (hn : 0 < n) (hn2 : n ≤ 256) : DrwCt 115 nn bs [.i n] (isNum 0 n) := by
  intro i h h0 h1
  apply c115; unfold t115
  simp only [go_sem, Nat.reduceAdd, Nat.reduceSub, Nat.reduceMul, Nat.reduceLeDiff, Nat.reduceLT, Nat.reduceEqDiff, ↓reduceIte, Nat.reducePow, reduceCtorEq, Int.reduceLE, Int.reduceLT, Int.reduceToNat, ← List.map_take, ← List.map_drop, Int.reduceBEq, Int.reduceBNe]
  refine ⟨fun h => by omega, fun _ => ⟨fun _ => ?_, fun h => by omega⟩⟩
  refine pCall_cur (d117 hb) rfl ⟨h0, h1⟩ rfl (fun v => isNum_in) ?_
  rintro _ i' h' ⟨x, rfl, hx0, hx1⟩ g0 g1
  simp only [go_sem, Nat.reduceAdd, Nat.reduceSub, Nat.reduceMul, Nat.reduceLeDiff, Nat.reduceLT, Nat.reduceEqDiff, ↓reduceIte, Nat.reducePow, reduceCtorEq, Int.reduceLE, Int.reduceLT, Int.reduceToNat, ← List.map_take, ← List.map_drop, Int.reduceBEq, Int.reduceBNe]
  refine ⟨by omega, pWk_take rfl ⟨_, _, rfl, g0, g1, _, rfl, ?_⟩⟩
  rw [Int.tmod_eq_emod_of_nonneg hx0]
  exact ⟨Int.emod_nonneg _ (by omega), Int.emod_lt_of_pos _ hn⟩

theorem d260 {nn : Bool} {bs : List Int} (hb : bs.length ≤ 1048576) {n : Int} (hn : 0 < n) (hn2 : n ≤ 256) : DrwCt 260 nn bs [.i n] (fun v => ∃ b, v = .bool b) := by
  intro i h h0 h1
  apply c260; unfold t260
  refine pCall_cur (d115 hb hn hn2) rfl ⟨h0, h1⟩ rfl (fun v => isNum_in) ?_
  rintro _ i' h' ⟨x, rfl, hx0, hx1⟩ g0 g1
  simp only [go_sem, Nat.reduceAdd, Nat.reduceSub, Nat.reduceMul, Nat.reduceLeDiff, Nat.reduceLT, Nat.reduceEqDiff, ↓reduceIte, Nat.reducePow, reduceCtorEq, Int.reduceLE, Int.reduceLT, Int.reduceToNat, ← List.map_take, ← List.map_drop, Int.reduceBEq, Int.reduceBNe]
  exact pWk_take rfl ⟨_, _, rfl, g0, g1, _, rfl⟩

theorem d231 {nn : Bool} {bs : List Int} (hb : bs.length ≤ 1048576) {m : Bool} {l : List Int} (hn : 0 < l.length) (hn2 : l.length ≤ 256) : DrwCt 231 nn bs [.ints m l] (fun v => ∃ x ∈ l, v = .i x) := by
  intro i h h0 h1
  apply c231; unfold t231
  simp only [go_sem, Nat.reduceAdd, Nat.reduceSub, Nat.reduceMul, Nat.reduceLeDiff, Nat.reduceLT, Nat.reduceEqDiff, ↓reduceIte, Nat.reducePow, reduceCtorEq, Int.reduceLE, Int.reduceLT, Int.reduceToNat, ← List.map_take, ← List.map_drop, Int.reduceBEq, Int.reduceBNe]
  refine pCall_cur (d115 hb (n := l.length) (by omega) (by omega)) rfl ⟨h0, h1⟩ rfl (fun v => isNum_in) ?_
  rintro _ i' h' ⟨x, rfl, hx0, hx1⟩ g0 g1
  have hx : l[x.toNat]? = some (l[x.toNat]'(by omega)) := List.getElem?_eq_getElem _
  simp only [go_sem, Nat.reduceAdd, Nat.reduceSub, Nat.reduceMul, Nat.reduceLeDiff, Nat.reduceLT, Nat.reduceEqDiff, ↓reduceIte, Nat.reducePow, reduceCtorEq, Int.reduceLE, Int.reduceLT, Int.reduceToNat, ← List.map_take, ← List.map_drop, Int.reduceBEq, Int.reduceBNe, List.getElem?_map, hx]
  exact ⟨hx0, hx1, pWk_take rfl ⟨_, _, rfl, g0, g1, _, List.getElem_mem _, rfl⟩⟩

theorem ct113 {nn : Bool} {bs : List Int} (hb : bs.length ≤ 1048576) : Ct Try.prog 113 [.bytes nn bs] [] (fun v H => v = .ptr 0 0 0 ∧ ∃ h : Int, H = [vCur nn bs 0 h]) := by
  apply c113; unfold t113
  simp only [go_sem, Nat.reduceAdd, Nat.reduceSub, Nat.reduceMul, Nat.reduceLeDiff, Nat.reduceLT, Nat.reduceEqDiff, ↓reduceIte, Nat.reducePow, reduceCtorEq, Int.reduceLE, Int.reduceLT, Int.reduceToNat, ← List.map_take, ← List.map_drop, Int.reduceBEq, Int.reduceBNe]
  refine loop_st (σ := Nat × Int) (fun s => ([V.i s.2, V.i s.1], [])) (fun s => s.1 ≤ bs.length) (fun s => bs.length - s.1) (pWk_done rfl ⟨(0, _), by simp, rfl, rfl⟩) ?_
  rintro μ ⟨k, hh⟩ hk nx
  simp only at hk nx ⊢
  simp only [go_sem, Nat.reduceAdd, Nat.reduceSub, Nat.reduceMul, Nat.reduceLeDiff, Nat.reduceLT, Nat.reduceEqDiff, ↓reduceIte, Nat.reducePow, reduceCtorEq, Int.reduceLE, Int.reduceLT, Int.reduceToNat, ← List.map_take, ← List.map_drop, Int.reduceBEq, Int.reduceBNe, Int.ofNat_lt, Int.natCast_nonneg, List.getElem?_map]
  refine ⟨fun hlt => ⟨fun h4 => ?_, fun h4 => ?_⟩, fun hge => ?_⟩
  · have hx : bs[k]? = some bs[k] := List.getElem?_eq_getElem hlt
    simp only [go_sem, Nat.reduceAdd, Nat.reduceSub, Nat.reduceMul, Nat.reduceLeDiff, Nat.reduceLT, Nat.reduceEqDiff, ↓reduceIte, Nat.reducePow, reduceCtorEq, Int.reduceLE, Int.reduceLT, Int.reduceToNat, ← List.map_take, ← List.map_drop, Int.reduceBEq, Int.reduceBNe, hx, wrapN (show k < 4611686018427387904 by omega)]
    exact ⟨by omega, pWk_done rfl (nx (k + 1, _) (by simp only; omega) (by simp only; omega))⟩
  · exact pWk_kp [] [0] rfl ⟨rfl, _, rfl⟩
  · exact pWk_kp [] [0] rfl ⟨rfl, _, rfl⟩

theorem ct116 {nn : Bool} {bs : List Int} (hb : bs.length ≤ 1048576) {n : Nat} (hn : n < 4000000) : Ct Try.prog 116 [.bytes nn bs, .i n] [] (fun v H => v = .ptr 0 0 0 ∧ ∃ i h : Int, H = [vCur nn bs i h] ∧ 0 ≤ i ∧ i ≤ bs.length) := by
  apply c116; unfold t116
  refine pCall_new (ct113 hb) rfl ?_
  rintro _ _ ⟨rfl, h, rfl⟩
  simp only [go_sem, Nat.reduceAdd, Nat.reduceSub, Nat.reduceMul, Nat.reduceLeDiff, Nat.reduceLT, Nat.reduceEqDiff, ↓reduceIte, Nat.reducePow, reduceCtorEq, Int.reduceLE, Int.reduceLT, Int.reduceToNat, ← List.map_take, ← List.map_drop, Int.reduceBEq, Int.reduceBNe, vCur]
  refine loop_st (σ := Nat × Int × Int) (fun s => ([V.i s.1], [vCur nn bs s.2.1 s.2.2])) (fun s => s.1 ≤ n ∧ 0 ≤ s.2.1 ∧ s.2.1 ≤ bs.length) (fun s => n - s.1) (pWk_take rfl ⟨(0, 0, h), by simp, rfl, rfl⟩) ?_
  rintro μ ⟨k, i, hh⟩ ⟨hk, hi0, hi1⟩ nx
  simp only at hk hi0 hi1 nx ⊢
  simp only [go_sem, Nat.reduceAdd, Nat.reduceSub, Nat.reduceMul, Nat.reduceLeDiff, Nat.reduceLT, Nat.reduceEqDiff, ↓reduceIte, Nat.reducePow, reduceCtorEq, Int.reduceLE, Int.reduceLT, Int.reduceToNat, ← List.map_take, ← List.map_drop, Int.reduceBEq, Int.reduceBNe, Int.ofNat_lt, Int.natCast_nonneg]
  refine ⟨fun hlt => ?_, fun hge => ?_⟩
  · refine pCall_cur (d117 hb) rfl ⟨hi0, hi1⟩ rfl (fun v => isNum_in) ?_
    rintro _ i' h' ⟨x, rfl, hx0, hx1⟩ g0 g1
    simp only [go_sem, Nat.reduceAdd, Nat.reduceSub, Nat.reduceMul, Nat.reduceLeDiff, Nat.reduceLT, Nat.reduceEqDiff, ↓reduceIte, Nat.reducePow, reduceCtorEq, Int.reduceLE, Int.reduceLT, Int.reduceToNat, ← List.map_take, ← List.map_drop, Int.reduceBEq, Int.reduceBNe, wrapN (show k < 4611686018427387904 by omega)]
    exact pWk_take rfl (nx (k + 1, i', h') ⟨by omega, g0, g1⟩ (by simp only; omega))
  · exact pWk_kp [] [0] rfl ⟨rfl, _, _, rfl, hi0, hi1⟩

theorem ct20 {nn : Bool} {bs : List Int} (hb : bs.length ≤ 1048576) {n : Nat} (hn : n < 4000000) : Ct Try.prog 20 [.bytes nn bs, .i n] [] (fun v H => isNum 0 65536 v ∧ H = []) := by
  apply c20; unfold t20
  refine pCall_new (ct116 hb hn) rfl ?_
  rintro _ _ ⟨rfl, i, h, rfl, h0, h1⟩
  simp only [go_sem, Nat.reduceAdd, Nat.reduceSub, Nat.reduceMul, Nat.reduceLeDiff, Nat.reduceLT, Nat.reduceEqDiff, ↓reduceIte, Nat.reducePow, reduceCtorEq, Int.reduceLE, Int.reduceLT, Int.reduceToNat, ← List.map_take, ← List.map_drop, Int.reduceBEq, Int.reduceBNe, vCur]
  refine pCall_cur (nn := nn) (bs := bs) (i := i) (h := h) (d117 hb) rfl ⟨h0, h1⟩ rfl (fun v => isNum_in) ?_
  rintro _ i' h' ⟨x, rfl, hx0, hx1⟩ g0 g1
  simp only [go_sem, Nat.reduceAdd, Nat.reduceSub, Nat.reduceMul, Nat.reduceLeDiff, Nat.reduceLT, Nat.reduceEqDiff, ↓reduceIte, Nat.reducePow, reduceCtorEq, Int.reduceLE, Int.reduceLT, Int.reduceToNat, ← List.map_take, ← List.map_drop, Int.reduceBEq, Int.reduceBNe, wrap64 (n := x * 256) (by omega) (by omega)]
  refine pCall_cur (nn := nn) (bs := bs) (i := i') (h := h') (d117 hb) rfl ⟨g0, g1⟩ rfl (fun v => isNum_in) ?_
  rintro _ i2 h2 ⟨y, rfl, hy0, hy1⟩ g0 g1
  simp only [go_sem, Nat.reduceAdd, Nat.reduceSub, Nat.reduceMul, Nat.reduceLeDiff, Nat.reduceLT, Nat.reduceEqDiff, ↓reduceIte, Nat.reducePow, reduceCtorEq, Int.reduceLE, Int.reduceLT, Int.reduceToNat, ← List.map_take, ← List.map_drop, Int.reduceBEq, Int.reduceBNe, wrap64 (n := x * 256 + y) (by omega) (by omega)]
  exact pWk_done rfl ⟨⟨_, rfl, by omega, by omega⟩, rfl⟩

end Go.Sim

set_option maxRecDepth 100000
set_option linter.unusedSimpArgs false
set_option linter.unusedVariables false
namespace Go.Sim
open Go.Proofs

theorem u22 : Try.prog.underlying 22 = some (.slice 5) := by kernel_rfl
theorem u9 : Try.prog.underlying 9 = some .string := by kernel_rfl
theorem u5 : Try.prog.underlying 5 = some (.int .u8) := by kernel_rfl
theorem convB (v : V) (H : Heap) (K : V → Prop) : pConvX Try.prog 22 9 v H K = pConvBytes v H K := pConvX_bytes u22 u9 u5 v H K
theorem wrap8 {n : Int} (h1 : 0 ≤ n) (h2 : n < 256) : IntKind.u8.wrap n = n := by
  have e : IntKind.u8.wrap n = n % 256 := by simp [IntKind.wrap, IntKind.bits, IntKind.signed]
  rw [e]; omega

def digitS (i : Nat) : ByteArray := bytesOf [48 + (i : Int)] ++ { data := #[] }
theorem ct277 {i : Nat} (hi : i ≤ 9) : Pu Try.prog 277 [.i i] (.str (digitS i)) := by
  apply c277; unfold t277
  simp only [go_sem, Nat.reduceAdd, Nat.reduceSub, Nat.reduceMul, Nat.reduceLeDiff, Nat.reduceLT, Nat.reduceEqDiff, ↓reduceIte, Nat.reducePow, reduceCtorEq, Int.reduceLE, Int.reduceLT, Int.reduceToNat, ← List.map_take, ← List.map_drop, Int.reduceBEq, Int.reduceBNe]
  refine ⟨fun h => by omega, fun _ => ?_⟩
  refine loop_st (σ := Unit) (fun _ => ([V.i i, .str { data := #[] }], [])) (fun _ => True) (fun _ => 0) (pWk_done rfl ⟨(), trivial, rfl, rfl⟩) ?_
  rintro μ _ _ nx
  simp only [go_sem, Nat.reduceAdd, Nat.reduceSub, Nat.reduceMul, Nat.reduceLeDiff, Nat.reduceLT, Nat.reduceEqDiff, ↓reduceIte, Nat.reducePow, reduceCtorEq, Int.reduceLE, Int.reduceLT, Int.reduceToNat, ← List.map_take, ← List.map_drop, Int.reduceBEq, Int.reduceBNe]
  refine ⟨fun h => by omega, fun _ => ?_⟩
  rw [wrap64 (by omega) (by omega), wrap8 (by omega) (by omega)]
  simp only [go_sem, Nat.reduceAdd, Nat.reduceSub, Nat.reduceMul, Nat.reduceLeDiff, Nat.reduceLT, Nat.reduceEqDiff, ↓reduceIte, Nat.reducePow, reduceCtorEq, Int.reduceLE, Int.reduceLT, Int.reduceToNat, ← List.map_take, ← List.map_drop, Int.reduceBEq, Int.reduceBNe, convB]
  refine ⟨?_, pWk_done rfl ⟨rfl, rfl⟩⟩
  have : (bytesOf [48 + (i : Int)]).size = 1 := rfl
  rw [this]; decide
theorem k277 {i : Nat} (hi : i ≤ 9) {H : Heap} {K : V → Heap → Prop} (h : K (.str (digitS i)) H) : pCall Try.prog 277 [.i i] H K := pCall_pv rfl rfl (ct277 hi) h

def tname (i : Nat) : ByteArray := { data := #[116] } ++ digitS i
/-- Teams in the order of their numbers. -/
def FieldG (n : Nat) (ts : List Team) : Prop := ts.length = n ∧ ∃ turn : Int, 0 ≤ turn ∧ turn < n ∧ ∀ (i : Nat) t, ts[i]? = some t → t.name = tname i ∧ 0 ≤ t.club ∧ t.club < 4 ∧ t.seed = ((i : Int) + turn) % n + 1

theorem d228 {nn : Bool} {bs : List Int} (hb : bs.length ≤ 1048576) {n : Nat} (hn : 0 < n) (hn2 : n ≤ 8) : DrwCt 228 nn bs [.i n] (fun v => ∃ ts, v = vTeams true ts ∧ FieldG n ts) := by
  intro i h h0 h1
  apply c228; unfold t228
  simp only [go_sem, Nat.reduceAdd, Nat.reduceSub, Nat.reduceMul, Nat.reduceLeDiff, Nat.reduceLT, Nat.reduceEqDiff, ↓reduceIte, Nat.reducePow, reduceCtorEq, Int.reduceLE, Int.reduceLT, Int.reduceToNat, ← List.map_take, ← List.map_drop, Int.reduceBEq, Int.reduceBNe]
  refine pCall_cur (d115 hb (by omega) (by omega)) rfl ⟨h0, h1⟩ rfl (fun v => isNum_in) ?_
  rintro _ i' h' ⟨turn, rfl, ht0, ht1⟩ g0 g1
  simp only [go_sem, Nat.reduceAdd, Nat.reduceSub, Nat.reduceMul, Nat.reduceLeDiff, Nat.reduceLT, Nat.reduceEqDiff, ↓reduceIte, Nat.reducePow, reduceCtorEq, Int.reduceLE, Int.reduceLT, Int.reduceToNat, ← List.map_take, ← List.map_drop, Int.reduceBEq, Int.reduceBNe]
  let Ok : List Team → Prop := fun ts => ∀ (i : Nat) t, ts[i]? = some t → t.name = tname i ∧ 0 ≤ t.club ∧ t.club < 4 ∧ t.seed = ((i : Int) + turn) % n + 1
  refine loop_st (σ := List Team × Int × Int) (fun s => ([V.ref 2 0 s.1.length, V.i s.1.length], [vCur nn bs s.2.1 s.2.2, .dead, .sl true 178 3 (s.1.map vTeam)])) (fun s => s.1.length ≤ n ∧ 0 ≤ s.2.1 ∧ s.2.1 ≤ bs.length ∧ Ok s.1) (fun s => n - s.1.length)
    (pWk_mv [1] rfl ⟨([], i', h'), ⟨by simp, g0, g1, fun i t h => by simp at h⟩, rfl, rfl⟩) ?_
  rintro μ ⟨ts, i1, h1⟩ ⟨hl, e0, e1, hok⟩ nx
  simp only at hl e0 e1 hok nx ⊢
  simp only [go_sem, Nat.reduceAdd, Nat.reduceSub, Nat.reduceMul, Nat.reduceLeDiff, Nat.reduceLT, Nat.reduceEqDiff, ↓reduceIte, Nat.reducePow, reduceCtorEq, Int.reduceLE, Int.reduceLT, Int.reduceToNat, ← List.map_take, ← List.map_drop, Int.reduceBEq, Int.reduceBNe, Int.ofNat_lt]
  refine ⟨fun hlt => ⟨by omega, ?_⟩, fun hge => ?_⟩
  · refine k277 (i := ts.length) (by omega) ?_
    simp only [go_sem, Nat.reduceAdd, Nat.reduceSub, Nat.reduceMul, Nat.reduceLeDiff, Nat.reduceLT, Nat.reduceEqDiff, ↓reduceIte, Nat.reducePow, reduceCtorEq, Int.reduceLE, Int.reduceLT, Int.reduceToNat, ← List.map_take, ← List.map_drop, Int.reduceBEq, Int.reduceBNe]
    have hsz : ({ data := #[116] } : ByteArray).size + (digitS ts.length).size ≤ 4611686018427387904 := by
      have : (digitS ts.length).size = 1 := by simp [digitS]; rfl
      rw [this]; decide
    refine ⟨hsz, ?_⟩
    refine pCall_cur (d115 hb (by omega) (by omega)) rfl ⟨e0, e1⟩ rfl (fun v => isNum_in) ?_
    rintro _ i2 h2 ⟨club, rfl, hc0, hc1⟩ g0 g1
    have hw1 : IntKind.i64.wrap ((ts.length : Int) + turn) = (ts.length : Int) + turn := wrap64 (by omega) (by omega)
    have hmod : (((ts.length : Int) + turn).tmod n) = ((ts.length : Int) + turn) % n := Int.tmod_eq_emod_of_nonneg (by omega)
    have hm0 : 0 ≤ ((ts.length : Int) + turn) % n := Int.emod_nonneg _ (by omega)
    have hm1 : ((ts.length : Int) + turn) % n < n := Int.emod_lt_of_pos _ (by omega)
    simp only [go_sem, Nat.reduceAdd, Nat.reduceSub, Nat.reduceMul, Nat.reduceLeDiff, Nat.reduceLT, Nat.reduceEqDiff, ↓reduceIte, Nat.reducePow, reduceCtorEq, Int.reduceLE, Int.reduceLT, Int.reduceToNat, ← List.map_take, ← List.map_drop, Int.reduceBEq, Int.reduceBNe, hw1, hmod, wrap64 (n := ((ts.length : Int) + turn) % n + 1) (by omega) (by omega), wrapN (show ts.length < 4611686018427387904 by omega)]
    refine ⟨by omega, ?_⟩
    have next := nx (ts ++ [⟨tname ts.length, club, ((ts.length : Int) + turn) % n + 1⟩], i2, h2) ⟨by simp; omega, g0, g1, ?_⟩ (by simp; omega)
    · simp only [List.length_append, List.length_singleton, List.map_append] at next
      exact pWk_mv [4] rfl next
    · intro i t hit
      rcases Nat.lt_or_ge i ts.length with h | h
      · rw [List.getElem?_append_left h] at hit
        exact hok i t hit
      · rw [List.getElem?_append_right h] at hit
        have hi : i = ts.length := by
          have := (List.getElem?_eq_some_iff.1 hit).1
          simp at this; omega
        subst hi
        simp at hit
        subst hit
        exact ⟨rfl, hc0, hc1, rfl⟩
  · have hn : ts.length = n := by omega
    refine pWk_keep [2] [0] (vs' := [vTeams true ts]) (Hs := [vCur nn bs i1 h1]) ?_ rfl ?_ ⟨_, _, rfl, e0, e1, ts, rfl, hn, turn, ht0, by omega, hok⟩
    · simp [frzL, frz1, vwOf, V.view, V.ren]; rw [List.take_of_length_le (by simp)]
    · simp [heldB, frzL, frz1, vwOf, V.view, V.inKs, V.inK, nodupB, preB, Blk.view, Blk.inK, vCur, V.views]


theorem ct217 {nn : Bool} {xs : List Int} {n : Int} (hl : xs.length < 4000000) : Pu Try.prog 217 [.ints nn xs, .i n] (.bool (xs.contains n)) := by
  apply c217; unfold t217
  simp only [go_sem, Nat.reduceAdd, Nat.reduceSub, Nat.reduceMul, Nat.reduceLeDiff, Nat.reduceLT, Nat.reduceEqDiff, ↓reduceIte, Nat.reducePow, reduceCtorEq, Int.reduceLE, Int.reduceLT, Int.reduceToNat, ← List.map_take, ← List.map_drop, Int.reduceBEq, Int.reduceBNe]
  refine loop_st (fun k : Nat => ([V.i k], [])) (fun k => k ≤ xs.length ∧ (xs.take k).contains n = false) (fun k => xs.length - k) (pWk_done rfl ⟨0, ⟨by omega, by simp⟩, rfl, rfl⟩) ?_
  rintro μ k ⟨hk, hno⟩ nx
  simp only [go_sem, Nat.reduceAdd, Nat.reduceSub, Nat.reduceMul, Nat.reduceLeDiff, Nat.reduceLT, Nat.reduceEqDiff, ↓reduceIte, Nat.reducePow, reduceCtorEq, Int.reduceLE, Int.reduceLT, Int.reduceToNat, ← List.map_take, ← List.map_drop, Int.reduceBEq, Int.reduceBNe, Int.ofNat_lt, Int.natCast_nonneg, List.getElem?_map]
  refine ⟨fun hlt => ?_, fun hge => ?_⟩
  · have hx : xs[k]? = some xs[k] := List.getElem?_eq_getElem hlt
    simp only [go_sem, Nat.reduceAdd, Nat.reduceSub, Nat.reduceMul, Nat.reduceLeDiff, Nat.reduceLT, Nat.reduceEqDiff, ↓reduceIte, Nat.reducePow, reduceCtorEq, Int.reduceLE, Int.reduceLT, Int.reduceToNat, ← List.map_take, ← List.map_drop, Int.reduceBEq, Int.reduceBNe, hx]
    refine ⟨by omega, fun he => pWk_done rfl ⟨?_, rfl⟩, fun hne => ?_⟩
    · have : xs[k] = n := by simpa using he
      simp only [nthV, V.bool.injEq]
      exact (List.contains_iff_mem.2 (this ▸ List.getElem_mem hlt)).symm
    · rw [wrapN (by omega)]
      refine pWk_done rfl (nx (k + 1) ⟨by omega, ?_⟩ (by omega))
      rw [List.take_add_one, hx]
      simp only [Option.toList_some, List.contains_eq_mem, List.mem_append, List.mem_singleton] at hno ⊢
      have hn : ¬ n = xs[k] := fun e => by subst e; simp at hne
      simp_all
  · refine pWk_done rfl ⟨?_, rfl⟩
    have : k = xs.length := by omega
    subst this
    rw [List.take_length] at hno
    simp only [nthV, hno]

/-- Drawn rules: points first, the seed last, other keys between them. -/
structure RulesG (u : Rules) : Prop where
  win : u.win = 2 ∨ u.win = 3
  draw : u.draw = 1
  loss : u.loss = 0
  nn : u.lnn = true
  lad : ∃ mid : List Int, u.ladder = 1 :: mid ++ [8] ∧ mid.Nodup ∧ mid.length ≤ 3 ∧ ∀ k ∈ mid, 2 ≤ k ∧ k ≤ 7

theorem d229 {nn : Bool} {bs : List Int} (hb : bs.length ≤ 1048576) : DrwCt 229 nn bs [] (fun v => ∃ u, v = vRules u ∧ RulesG u) := by
  intro i h h0 h1
  apply c229; unfold t229
  simp only [go_sem, Nat.reduceAdd, Nat.reduceSub, Nat.reduceMul, Nat.reduceLeDiff, Nat.reduceLT, Nat.reduceEqDiff, ↓reduceIte, Nat.reducePow, reduceCtorEq, Int.reduceLE, Int.reduceLT, Int.reduceToNat, ← List.map_take, ← List.map_drop, Int.reduceBEq, Int.reduceBNe]
  refine pCall_cur (d115 hb (by omega) (by omega)) rfl ⟨h0, h1⟩ rfl (fun v => isNum_in) ?_
  rintro _ i1 h1 ⟨w, rfl, hw0, hw1⟩ e0 e1
  simp only [go_sem, Nat.reduceAdd, Nat.reduceSub, Nat.reduceMul, Nat.reduceLeDiff, Nat.reduceLT, Nat.reduceEqDiff, ↓reduceIte, Nat.reducePow, reduceCtorEq, Int.reduceLE, Int.reduceLT, Int.reduceToNat, ← List.map_take, ← List.map_drop, Int.reduceBEq, Int.reduceBNe, wrap64 (n := 2 + w) (by omega) (by omega)]
  refine pCall_cur (d260 hb (by omega) (by omega)) rfl ⟨e0, e1⟩ rfl (fun v => by rintro ⟨b, rfl⟩; rfl) ?_
  rintro _ i2 h2 ⟨ag, rfl⟩ e0 e1
  simp only [go_sem, Nat.reduceAdd, Nat.reduceSub, Nat.reduceMul, Nat.reduceLeDiff, Nat.reduceLT, Nat.reduceEqDiff, ↓reduceIte, Nat.reducePow, reduceCtorEq, Int.reduceLE, Int.reduceLT, Int.reduceToNat, ← List.map_take, ← List.map_drop, Int.reduceBEq, Int.reduceBNe]
  refine pCall_cur (d115 hb (by omega) (by omega)) rfl ⟨e0, e1⟩ rfl (fun v => isNum_in) ?_
  rintro _ i3 h3 ⟨m, rfl, hm0, hm1⟩ e0 e1
  simp only [go_sem, Nat.reduceAdd, Nat.reduceSub, Nat.reduceMul, Nat.reduceLeDiff, Nat.reduceLT, Nat.reduceEqDiff, ↓reduceIte, Nat.reducePow, reduceCtorEq, Int.reduceLE, Int.reduceLT, Int.reduceToNat, ← List.map_take, ← List.map_drop, Int.reduceBEq, Int.reduceBNe]
  obtain ⟨mm, rfl⟩ : ∃ mm : Nat, m = mm := ⟨m.toNat, by omega⟩
  refine loop_st (σ := Nat × List Int × Int × Int) (fun s => ([V.i s.1], [vCur nn bs s.2.2.1 s.2.2.2, Blk.box 26 (.agg [.i 0, .i 0, .i 0, .sl false 1 [], .bool false]), .dead,
      Blk.box 26 (.agg [.i (2 + w), .i 1, .i 0, .ref 4 0 (s.2.1.length + 1), .bool ag]), .sl true 3 1 ((1 :: s.2.1).map V.i)]))
    (fun s => 0 ≤ s.2.2.1 ∧ s.2.2.1 ≤ bs.length ∧ s.2.1.length + s.1 ≤ 3 ∧ s.2.1.Nodup ∧ ∀ k ∈ s.2.1, 2 ≤ k ∧ k ≤ 7) (fun s => s.1)
    (pWk_mv [2] rfl ⟨(mm, [], i3, h3), ⟨e0, e1, by simp; omega, by simp, by simp⟩, rfl, rfl⟩) ?_
  rintro μ ⟨m, mid, i4, h4⟩ ⟨e0, e1, hm, hnd, hmid⟩ nx
  simp only at e0 e1 hm hnd hmid nx ⊢
  simp only [go_sem, Nat.reduceAdd, Nat.reduceSub, Nat.reduceMul, Nat.reduceLeDiff, Nat.reduceLT, Nat.reduceEqDiff, ↓reduceIte, Nat.reducePow, reduceCtorEq, Int.reduceLE, Int.reduceLT, Int.reduceToNat, ← List.map_take, ← List.map_drop, Int.reduceBEq, Int.reduceBNe]
  refine ⟨fun hlt => ?_, fun hge => ?_⟩
  · refine pCall_cur (d115 hb (by omega) (by omega)) rfl ⟨e0, e1⟩ rfl (fun v => isNum_in) ?_
    rintro _ i5 h5 ⟨x, rfl, hx0, hx1⟩ e0 e1
    simp only [go_sem, Nat.reduceAdd, Nat.reduceSub, Nat.reduceMul, Nat.reduceLeDiff, Nat.reduceLT, Nat.reduceEqDiff, ↓reduceIte, Nat.reducePow, reduceCtorEq, Int.reduceLE, Int.reduceLT, Int.reduceToNat, ← List.map_take, ← List.map_drop, Int.reduceBEq, Int.reduceBNe, wrap64 (n := 2 + x) (by omega) (by omega)]
    refine pCall_see [4] (ct217 (nn := true) (xs := 1 :: mid) (n := 2 + x) (by simp; omega)) (by simp [V.view, vwOf]; rw [List.take_of_length_le (by simp)]) rfl rfl rfl ?_
    obtain ⟨m', rfl⟩ : ∃ m', m = m' + 1 := ⟨m - 1, by omega⟩
    have hw : IntKind.i64.wrap (((m' + 1 : Nat) : Int) - 1) = (m' : Int) := by rw [wrap64 (by omega) (by omega)]; omega
    simp only [go_sem, Nat.reduceAdd, Nat.reduceSub, Nat.reduceMul, Nat.reduceLeDiff, Nat.reduceLT, Nat.reduceEqDiff, ↓reduceIte, Nat.reducePow, reduceCtorEq, Int.reduceLE, Int.reduceLT, Int.reduceToNat, ← List.map_take, ← List.map_drop, Int.reduceBEq, Int.reduceBNe, hw]
    refine ⟨fun hno => ?_, fun hin => ?_⟩
    · refine ⟨by omega, ?_⟩
      have hn : (2 + x) ∉ mid := by
        intro h
        simp [h] at hno
      have next := nx (m', mid ++ [2 + x], i5, h5) ⟨e0, e1, by simp; omega, ?_, ?_⟩ (by simp)
      · simp only [List.length_append, List.length_singleton, List.map_cons, List.map_append] at next
        exact pWk_mv [6] rfl next
      · rw [List.nodup_append]
        refine ⟨hnd, by simp, ?_⟩
        intro a ha b hb
        simp at hb; subst hb
        rintro rfl; exact hn ha
      · intro k hk
        rcases List.mem_append.1 hk with h | h
        · exact hmid k h
        · simp at h; omega
    · exact pWk_mv [4] rfl (nx (m', mid, i5, h5) ⟨e0, e1, by simp only; omega, hnd, hmid⟩ (by simp))
  · refine ⟨by omega, ?_⟩
    let u : Rules := ⟨2 + w, 1, 0, true, 1 :: mid ++ [8], ag⟩
    refine pWk_keep [6] [0] (vs' := [vRules u]) (Hs := [vCur nn bs i4 h4]) ?_ rfl ?_ ⟨_, _, rfl, e0, e1, u, rfl, ⟨?_, rfl, rfl, rfl, mid, rfl, hnd, by omega, hmid⟩⟩
    · simp [frzL, frz1, vwOf, V.view, V.views, V.ren, V.rens, vRules, u]; rw [List.take_of_length_le (by simp)]
    · simp [heldB, frzL, frz1, vwOf, V.view, V.inKs, V.inK, nodupB, preB, Blk.view, Blk.inK, vCur, V.views]
    · show 2 + w = 2 ∨ 2 + w = 3
      omega

/-! ### the games -/
def gameFor (p : Int × Int) (g : Game) : Prop := ((g.home = p.1 ∧ g.away = p.2) ∨ (g.home = p.2 ∧ g.away = p.1)) ∧ 0 ≤ g.st ∧ g.st ≤ 4 ∧ 0 ≤ g.hg ∧ g.hg ≤ 3 ∧ 0 ≤ g.ag ∧ g.ag ≤ 3 ∧ (g.st ≠ 1 → g.hg = 0 ∧ g.ag = 0)
def GM : List Game → List (Int × Int) → Prop
  | [], [] => True
  | g :: gs, p :: ps => gameFor p g ∧ GM gs ps
  | _, _ => False
theorem GM_snoc : ∀ {gs : List Game} {ps : List (Int × Int)} {g : Game} {p : Int × Int}, GM gs ps → gameFor p g → GM (gs ++ [g]) (ps ++ [p])
  | [], [], _, _, _, h => ⟨h, trivial⟩
  | g :: gs, p :: ps, _, _, h, h' => ⟨h.1, GM_snoc h.2 h'⟩
  | [], _ :: _, _, _, h, _ => h.elim
  | _ :: _, [], _, _, h, _ => h.elim
theorem GM_len : ∀ {gs : List Game} {ps : List (Int × Int)}, GM gs ps → gs.length = ps.length
  | [], [], _ => rfl
  | g :: gs, p :: ps, h => by simp [GM_len h.2]
  | [], _ :: _, h => h.elim
  | _ :: _, [], h => h.elim
/-- The pairs of the second team `b` with the first `a` teams. -/
def row (b a : Nat) : List (Int × Int) := (List.range a).map fun (x : Nat) => ((x : Int), (b : Int))
def prs : Nat → List (Int × Int)
  | 0 => []
  | b + 1 => prs b ++ row b b
theorem row_succ {b a : Nat} : row b (a + 1) = row b a ++ [((a : Int), (b : Int))] := by simp [row, List.range_succ]
def opens (gs : List Game) : Nat := (gs.filter fun g => g.st == 0).length
theorem opens_snoc {gs : List Game} {g : Game} : opens (gs ++ [g]) = opens gs + (if g.st = 0 then 1 else 0) := by
  unfold opens
  rw [List.filter_append]
  by_cases h : g.st = 0
  · simp [h]
  · simp [h]
theorem prs_len {b : Nat} : (prs b).length ≤ b * b := by
  induction b with
  | zero => simp [prs]
  | succ b ih =>
    have e : (row b b).length = b := by simp [row]
    have : (b + 1) * (b + 1) = b * b + 2 * b + 1 := by rw [Nat.add_mul, Nat.mul_add]; omega
    simp only [prs, List.length_append, e]; omega

theorem beqT {a b : Int} (h : (a == b) = true) : a = b := by simpa using h
theorem beqF {a b : Int} (h : (a == b) = false) : a ≠ b := by simpa using h

theorem d230 {nn : Bool} {bs : List Int} (hb : bs.length ≤ 1048576) {n op : Nat} (hn : 0 < n) (hn2 : n ≤ 8) (hop : op ≤ 100) : DrwCt 230 nn bs [.i n, .i op] (fun v => ∃ gs, v = vGames true gs ∧ GM gs (prs n) ∧ opens gs ≤ op) := by
  intro i h h0 h1
  apply c230; unfold t230
  simp only [go_sem, Nat.reduceAdd, Nat.reduceSub, Nat.reduceMul, Nat.reduceLeDiff, Nat.reduceLT, Nat.reduceEqDiff, ↓reduceIte, Nat.reducePow, reduceCtorEq, Int.reduceLE, Int.reduceLT, Int.reduceToNat, ← List.map_take, ← List.map_drop, Int.reduceBEq, Int.reduceBNe]
  refine loop_st (σ := Nat × Nat × List Game × Int × Int) (fun s => ([V.i s.2.1, .ref 2 0 s.2.2.1.length, V.i s.1], [vCur nn bs s.2.2.2.1 s.2.2.2.2, .dead, .sl true 40 5 (s.2.2.1.map vGame)]))
    (fun s => 0 ≤ s.2.2.2.1 ∧ s.2.2.2.1 ≤ bs.length ∧ 1 ≤ s.1 ∧ s.1 ≤ n ∧ GM s.2.2.1 (prs s.1) ∧ opens s.2.2.1 + s.2.1 = op) (fun s => n - s.1)
    (pWk_mv [1] rfl ⟨(1, op, [], i, h), ⟨h0, h1, by simp, by simp only; omega, by simp [GM, prs, row], by simp [opens]⟩, rfl, rfl⟩) ?_
  rintro μ ⟨b, o, gs, i1, h1⟩ ⟨e0, e1, hb1, hbn, hgm, hopn⟩ nx
  simp only at e0 e1 hb1 hbn hgm hopn nx ⊢
  simp only [go_sem, Nat.reduceAdd, Nat.reduceSub, Nat.reduceMul, Nat.reduceLeDiff, Nat.reduceLT, Nat.reduceEqDiff, ↓reduceIte, Nat.reducePow, reduceCtorEq, Int.reduceLE, Int.reduceLT, Int.reduceToNat, ← List.map_take, ← List.map_drop, Int.reduceBEq, Int.reduceBNe, Int.ofNat_lt]
  refine ⟨fun hlt => ?_, fun hge => ?_⟩
  · refine loop_st (σ := Nat × Nat × List Game × Int × Int) (fun s => ([V.i s.2.1, .ref 3 0 s.2.2.1.length, V.i s.1], [vCur nn bs s.2.2.2.1 s.2.2.2.2, .dead, .dead, .sl true 40 5 (s.2.2.1.map vGame)]))
      (fun s => 0 ≤ s.2.2.2.1 ∧ s.2.2.2.1 ≤ bs.length ∧ s.1 ≤ b ∧ GM s.2.2.1 (prs b ++ row b s.1) ∧ opens s.2.2.1 + s.2.1 = op) (fun s => b - s.1)
      (pWk_mv [2] rfl ⟨(0, o, gs, i1, h1), ⟨e0, e1, by simp, by simpa [row] using hgm, hopn⟩, rfl, rfl⟩) ?_
    clear hgm hopn
    rintro ν ⟨a, o, gs, i2, h2⟩ ⟨e0, e1, hab, hgm, hopn⟩ ny
    simp only at e0 e1 hab hgm hopn ny ⊢
    have hlen : gs.length ≤ 1000 := by
      have := GM_len hgm
      have e := prs_len (b := b)
      have : b * b ≤ 64 := Nat.mul_le_mul (show b ≤ 8 by omega) (show b ≤ 8 by omega)
      simp [row] at *; omega
    simp only [go_sem, Nat.reduceAdd, Nat.reduceSub, Nat.reduceMul, Nat.reduceLeDiff, Nat.reduceLT, Nat.reduceEqDiff, ↓reduceIte, Nat.reducePow, reduceCtorEq, Int.reduceLE, Int.reduceLT, Int.reduceToNat, ← List.map_take, ← List.map_drop, Int.reduceBEq, Int.reduceBNe, Int.ofNat_lt]
    refine ⟨fun halt => ?_, fun hage => ?_⟩
    · have hwa := wrapN (show a < 4611686018427387904 by omega)
      have fin : ∀ (o' : Nat) (i' h' x1 x2 x3 x4 x5 : Int), 0 ≤ i' → i' ≤ bs.length → gameFor (a, b) ⟨x1, x2, x3, x4, x5⟩ → (if x5 = 0 then 1 else 0) + o' = o → _ := fun o' i' h' x1 x2 x3 x4 x5 g1 g2 g3 g4 =>
        ny (a + 1, o', gs ++ [⟨x1, x2, x3, x4, x5⟩], i', h') ⟨g1, g2, by simp only; omega, by
          simp only [row_succ]; rw [← List.append_assoc]; exact GM_snoc hgm g3, by
          simp only [opens_snoc]; omega⟩ (by simp only; omega)
      simp only [List.length_append, List.length_singleton, List.map_append] at fin
      refine pCall_cur (d260 hb (by omega) (by omega)) rfl ⟨e0, e1⟩ rfl (fun v => by rintro ⟨b, rfl⟩; rfl) ?_
      rintro _ i3 h3 ⟨flip, rfl⟩ e0 e1
      have pk : ∀ x : Int, x ∈ [1, 1, 1, 1, 1, 1, 2, 3, 4] → 1 ≤ x ∧ x ≤ 4 := by
        intro x hx
        simp at hx
        omega
      cases flip <;> simp only [go_sem, Nat.reduceAdd, Nat.reduceSub, Nat.reduceMul, Nat.reduceLeDiff, Nat.reduceLT, Nat.reduceEqDiff, ↓reduceIte, Nat.reducePow, reduceCtorEq, Int.reduceLE, Int.reduceLT, Int.reduceToNat, ← List.map_take, ← List.map_drop, Int.reduceBEq, Int.reduceBNe, hwa]
      all_goals (repeat' first
        | (refine And.intro (fun hx => ?_) (fun hx => ?_) <;> first | replace hx := beqT hx | replace hx := beqF hx | skip)
        | (refine pCall_cur (d260 hb (by omega) (by omega)) rfl ⟨by assumption, by assumption⟩ rfl (fun v => by rintro ⟨b, rfl⟩; rfl) ?_
           rintro _ i4 h4 ⟨bb, rfl⟩ e0 e1
           simp only [go_sem, Nat.reduceAdd, Nat.reduceSub, Nat.reduceMul, Nat.reduceLeDiff, Nat.reduceLT, Nat.reduceEqDiff, ↓reduceIte, Nat.reducePow, reduceCtorEq, Int.reduceLE, Int.reduceLT, Int.reduceToNat, ← List.map_take, ← List.map_drop, Int.reduceBEq, Int.reduceBNe, hwa])
        | (refine pCall_cur (d115 hb (by omega) (by omega)) rfl ⟨by assumption, by assumption⟩ rfl (fun v => isNum_in) ?_
           rintro _ i4 h4 ⟨x, rfl, hx0, hx1⟩ e0 e1
           try simp only [go_sem, Nat.reduceAdd, Nat.reduceSub, Nat.reduceMul, Nat.reduceLeDiff, Nat.reduceLT, Nat.reduceEqDiff, ↓reduceIte, Nat.reducePow, reduceCtorEq, Int.reduceLE, Int.reduceLT, Int.reduceToNat, ← List.map_take, ← List.map_drop, Int.reduceBEq, Int.reduceBNe, hwa])
        | (refine pCall_curF [5] (d231 (m := true) (l := [1, 1, 1, 1, 1, 1, 2, 3, 4]) hb (by simp) (by simp)) rfl rfl ⟨by assumption, by assumption⟩ rfl (fun v => by rintro ⟨x, _, rfl⟩; rfl) ?_
           rintro _ i4 h4 ⟨y, hy, rfl⟩ e0 e1
           have hy := pk y hy
           simp only [go_sem, Nat.reduceAdd, Nat.reduceSub, Nat.reduceMul, Nat.reduceLeDiff, Nat.reduceLT, Nat.reduceEqDiff, ↓reduceIte, Nat.reducePow, reduceCtorEq, Int.reduceLE, Int.reduceLT, Int.reduceToNat, ← List.map_take, ← List.map_drop, Int.reduceBEq, Int.reduceBNe, hwa]))
      all_goals (refine ⟨by omega, ?_⟩)
      all_goals first
        | exact pWk_mv [7] rfl (fin o _ _ _ _ _ _ _ (by assumption) (by assumption) ⟨by first | exact .inl ⟨rfl, rfl⟩ | exact .inr ⟨rfl, rfl⟩, by simp only; omega, by simp only; omega, by simp only; omega, by simp only; omega, by simp only; omega, by simp only; omega, fun hne => by simp only at hne; first | exact ⟨rfl, rfl⟩ | exact absurd (by assumption) hne⟩ (by rw [if_neg (by omega)]; omega))
        | (rw [show IntKind.i64.wrap ((o : Int) - 1) = ((o - 1 : Nat) : Int) by rw [wrap64 (by omega) (by omega)]; omega]
           exact pWk_mv [6] rfl (fin (o - 1) _ _ _ _ _ _ _ (by assumption) (by assumption) ⟨by first | exact .inl ⟨rfl, rfl⟩ | exact .inr ⟨rfl, rfl⟩, by simp only; omega, by simp only; omega, by simp only; omega, by simp only; omega, by simp only; omega, by simp only; omega, fun _ => ⟨rfl, rfl⟩⟩ (by rw [if_pos rfl]; omega)))
    · have hab : a = b := by omega
      subst hab
      rw [wrapN (by omega)]
      exact pWk_mv [3] rfl (nx (a + 1, o, gs, i2, h2) ⟨e0, e1, by omega, by simp only; omega, hgm, hopn⟩ (by simp only; omega))
  · have hbn : b = n := by omega
    subst hbn
    refine pWk_keep [2] [0] (vs' := [vGames true gs]) (Hs := [vCur nn bs i1 h1]) ?_ rfl ?_ ⟨_, _, rfl, e0, e1, gs, rfl, hgm, by omega⟩
    · simp [frzL, frz1, vwOf, V.view, V.ren]; rw [List.take_of_length_le (by simp)]
    · simp [heldB, frzL, frz1, vwOf, V.view, V.inKs, V.inK, nodupB, preB, Blk.view, Blk.inK, vCur, V.views]

end Go.Sim

set_option maxRecDepth 100000
set_option linter.unusedSimpArgs false
set_option linter.unusedVariables false
namespace Go.Sim
open Go.Proofs

/-- A drawn book of `n` teams with at most `op` open games. -/
structure BookG (n op : Nat) (b : Book) : Prop where
  field : FieldG n b.field
  rules : RulesG b.rules
  games : GM b.games (prs n)
  opn : opens b.games ≤ op
  fairl : b.fair.length = n
  fairb : ∀ x ∈ b.fair, 0 ≤ x ∧ x < 4
  takenl : b.taken.length = n
  takenb : ∀ x ∈ b.taken, 0 ≤ x ∧ x ≤ 1
  nns : b.fnn = true ∧ b.gnn = true ∧ b.pnn = true ∧ b.tnn = true

def bkS (nn : Bool) (bs : List Int) (u : Rules) (ts : List Team) (gs : List Game) (s : List Int × List Int × Int × Int) : List V × Heap :=
  match s with
  | ([], _, i, h) => ([V.i 0], [vCur nn bs i h, Blk.box 29 (.agg [.sl false 3 [], .i 0, .i 0, .i 0, .sl false 1 [], .bool false, .sl false 5 [], .sl false 1 [], .sl false 1 []]),
      Blk.box 29 (.agg [vTeams true ts, .i u.win, .i u.draw, .i u.loss, .ints u.lnn u.ladder, .bool u.again, vGames true gs, .sl false 1 [], .sl false 1 []])])
  | (f :: fs, tk, i, h) => ([V.i (fs.length + 1 : Nat)], [vCur nn bs i h, Blk.box 29 (.agg [.sl false 3 [], .i 0, .i 0, .i 0, .sl false 1 [], .bool false, .sl false 5 [], .sl false 1 [], .sl false 1 []]),
      Blk.box 29 (.agg [vTeams true ts, .i u.win, .i u.draw, .i u.loss, .ints u.lnn u.ladder, .bool u.again, vGames true gs, .ref 3 0 (fs.length + 1), .ref 4 0 (fs.length + 1)]),
      .sl true 3 1 ((f :: fs).map V.i), .sl true 3 1 (tk.map V.i)])

theorem d114 {nn : Bool} {bs : List Int} (hb : bs.length ≤ 1048576) {n op : Nat} (hn : 0 < n) (hn2 : n ≤ 8) (hop : op ≤ 100) : DrwCt 114 nn bs [.i n, .i op] (fun v => ∃ b, v = vBook b ∧ BookG n op b) := by
  intro i h h0 h1
  apply c114; unfold t114
  simp only [go_sem, Nat.reduceAdd, Nat.reduceSub, Nat.reduceMul, Nat.reduceLeDiff, Nat.reduceLT, Nat.reduceEqDiff, ↓reduceIte, Nat.reducePow, reduceCtorEq, Int.reduceLE, Int.reduceLT, Int.reduceToNat, ← List.map_take, ← List.map_drop, Int.reduceBEq, Int.reduceBNe]
  refine pCall_cur (d228 hb hn hn2) rfl ⟨h0, h1⟩ rfl (fun v => by rintro ⟨b, rfl, _⟩; rfl) ?_
  rintro _ i1 h1 ⟨ts, rfl, hts⟩ e0 e1
  simp only [go_sem, Nat.reduceAdd, Nat.reduceSub, Nat.reduceMul, Nat.reduceLeDiff, Nat.reduceLT, Nat.reduceEqDiff, ↓reduceIte, Nat.reducePow, reduceCtorEq, Int.reduceLE, Int.reduceLT, Int.reduceToNat, ← List.map_take, ← List.map_drop, Int.reduceBEq, Int.reduceBNe]
  refine pCall_cur (d229 hb) rfl ⟨e0, e1⟩ rfl (fun v => by rintro ⟨b, rfl, _⟩; rfl) ?_
  rintro _ i1 h1 ⟨u, rfl, hu⟩ e0 e1
  simp only [go_sem, Nat.reduceAdd, Nat.reduceSub, Nat.reduceMul, Nat.reduceLeDiff, Nat.reduceLT, Nat.reduceEqDiff, ↓reduceIte, Nat.reducePow, reduceCtorEq, Int.reduceLE, Int.reduceLT, Int.reduceToNat, ← List.map_take, ← List.map_drop, Int.reduceBEq, Int.reduceBNe]
  refine pCall_cur (d230 hb hn hn2 hop) rfl ⟨e0, e1⟩ rfl (fun v => by rintro ⟨b, rfl, _⟩; rfl) ?_
  rintro _ i1 h1 ⟨gs, rfl, hgs, hgo⟩ e0 e1
  simp only [go_sem, Nat.reduceAdd, Nat.reduceSub, Nat.reduceMul, Nat.reduceLeDiff, Nat.reduceLT, Nat.reduceEqDiff, ↓reduceIte, Nat.reducePow, reduceCtorEq, Int.reduceLE, Int.reduceLT, Int.reduceToNat, ← List.map_take, ← List.map_drop, Int.reduceBEq, Int.reduceBNe, vRules]
  refine loop_st (bkS nn bs u ts gs) (fun s => s.1.length ≤ n ∧ s.2.1.length = s.1.length ∧ 0 ≤ s.2.2.1 ∧ s.2.2.1 ≤ bs.length ∧ (∀ x ∈ s.1, 0 ≤ x ∧ x < 4) ∧ (∀ x ∈ s.2.1, 0 ≤ x ∧ x ≤ 1)) (fun s => n - s.1.length)
    (pWk_take rfl ⟨([], [], i1, h1), ⟨by simp, rfl, e0, e1, by simp, by simp⟩, rfl, rfl⟩) ?_
  have pk : ∀ x : Int, x ∈ [0, 0, 0, 1] → 0 ≤ x ∧ x ≤ 1 := by
    intro x hx
    simp at hx
    omega
  rintro μ ⟨fs, tk, i2, h2⟩ ⟨hl, htl, e0, e1, hf, ht⟩ nx
  simp only at hl htl e0 e1 hf ht nx ⊢
  cases fs with
  | nil =>
    have htk : tk = [] := List.eq_nil_of_length_eq_zero (by simpa using htl)
    subst htk
    simp only [bkS] at nx ⊢
    simp only [go_sem, Nat.reduceAdd, Nat.reduceSub, Nat.reduceMul, Nat.reduceLeDiff, Nat.reduceLT, Nat.reduceEqDiff, ↓reduceIte, Nat.reducePow, reduceCtorEq, Int.reduceLE, Int.reduceLT, Int.reduceToNat, ← List.map_take, ← List.map_drop, Int.reduceBEq, Int.reduceBNe]
    refine ⟨fun hlt => ?_, fun hge => by omega⟩
    refine pCall_cur (d115 hb (by omega) (by omega)) rfl ⟨e0, e1⟩ rfl (fun v => isNum_in) ?_
    rintro _ i3 h3 ⟨x, rfl, hx0, hx1⟩ e0 e1
    simp only [go_sem, Nat.reduceAdd, Nat.reduceSub, Nat.reduceMul, Nat.reduceLeDiff, Nat.reduceLT, Nat.reduceEqDiff, ↓reduceIte, Nat.reducePow, reduceCtorEq, Int.reduceLE, Int.reduceLT, Int.reduceToNat, ← List.map_take, ← List.map_drop, Int.reduceBEq, Int.reduceBNe]
    refine pCall_curF [5] (d231 (m := true) (l := [0, 0, 0, 1]) hb (by simp) (by simp)) rfl rfl ⟨e0, e1⟩ rfl (fun v => by rintro ⟨x, _, rfl⟩; rfl) ?_
    rintro _ i4 h4 ⟨y, hy, rfl⟩ e0 e1
    have hy := pk y hy
    have next := nx ([x], [y], i4, h4) ⟨by simp; omega, rfl, e0, e1, by simp; omega, by simp; omega⟩ (by simp; omega)
    simp only [go_sem, Nat.reduceAdd, Nat.reduceSub, Nat.reduceMul, Nat.reduceLeDiff, Nat.reduceLT, Nat.reduceEqDiff, ↓reduceIte, Nat.reducePow, reduceCtorEq, Int.reduceLE, Int.reduceLT, Int.reduceToNat, ← List.map_take, ← List.map_drop, Int.reduceBEq, Int.reduceBNe, show IntKind.i64.wrap 1 = 1 from rfl, show IntKind.i64.wrap (0 + 1) = 1 from rfl]
    exact pWk_mv [4, 7] rfl next
  | cons f fs =>
    simp only [bkS] at nx ⊢
    simp only [List.length_cons] at hl htl
    simp only [go_sem, Nat.reduceAdd, Nat.reduceSub, Nat.reduceMul, Nat.reduceLeDiff, Nat.reduceLT, Nat.reduceEqDiff, ↓reduceIte, Nat.reducePow, reduceCtorEq, Int.reduceLE, Int.reduceLT, Int.reduceToNat, ← List.map_take, ← List.map_drop, Int.reduceBEq, Int.reduceBNe, Int.ofNat_lt, htl]
    refine ⟨fun hlt => ?_, fun hge => ?_⟩
    · refine pCall_cur (d115 hb (by omega) (by omega)) rfl ⟨e0, e1⟩ rfl (fun v => isNum_in) ?_
      rintro _ i3 h3 ⟨x, rfl, hx0, hx1⟩ e0 e1
      simp only [go_sem, Nat.reduceAdd, Nat.reduceSub, Nat.reduceMul, Nat.reduceLeDiff, Nat.reduceLT, Nat.reduceEqDiff, ↓reduceIte, Nat.reducePow, reduceCtorEq, Int.reduceLE, Int.reduceLT, Int.reduceToNat, ← List.map_take, ← List.map_drop, Int.reduceBEq, Int.reduceBNe, htl]
      refine ⟨by omega, ?_⟩
      refine pCall_curF [7] (d231 (m := true) (l := [0, 0, 0, 1]) hb (by simp) (by simp)) rfl rfl ⟨e0, e1⟩ rfl (fun v => by rintro ⟨x, _, rfl⟩; rfl) ?_
      rintro _ i4 h4 ⟨y, hy, rfl⟩ e0 e1
      have hy := pk y hy
      have next := nx (f :: (fs ++ [x]), tk ++ [y], i4, h4) ⟨by simp; omega, by simp; omega, e0, e1, ?_, ?_⟩ (by simp; omega)
      · simp only [List.length_append, List.length_singleton, List.map_cons, List.map_append] at next
        simp only [go_sem, Nat.reduceAdd, Nat.reduceSub, Nat.reduceMul, Nat.reduceLeDiff, Nat.reduceLT, Nat.reduceEqDiff, ↓reduceIte, Nat.reducePow, reduceCtorEq, Int.reduceLE, Int.reduceLT, Int.reduceToNat, ← List.map_take, ← List.map_drop, Int.reduceBEq, Int.reduceBNe, htl, wrapN (show fs.length + 1 < 4611686018427387904 by omega)]
        refine ⟨by omega, ?_⟩
        exact pWk_mv [6, 9] rfl next
      · intro z hz
        rw [← List.cons_append] at hz
        rcases List.mem_append.1 hz with h | h
        · exact hf z h
        · simp at h; omega
      · intro z hz
        rcases List.mem_append.1 hz with h | h
        · exact ht z h
        · simp at h; omega
    · have hfn : fs.length + 1 = n := by omega
      let b : Book := ⟨true, ts, u, true, gs, true, f :: fs, true, tk⟩
      refine pWk_keep [3, 4] [0] (vs' := [vBook b]) (Hs := [vCur nn bs i2 h2]) ?_ rfl ?_ ⟨_, _, rfl, e0, e1, b, rfl, ⟨hts, hu, hgs, hgo, by simpa [b] using hfn, hf, by simp [b]; omega, ht, rfl, rfl, rfl, rfl⟩⟩
      · have e1 : List.take fs.length (fs.map V.i) = fs.map V.i := List.take_of_length_le (by simp)
        have e2 : List.take (fs.length + 1) (tk.map V.i) = tk.map V.i := List.take_of_length_le (by simp; omega)
        simp [frzL, frz1, vwOf, V.view, V.views, V.ren, V.rens, vBook, b, e1, e2, htl]
      · have : fs.length + 1 ≤ tk.length := by omega
        simp [heldB, frzL, frz1, vwOf, V.view, V.inKs, V.inK, nodupB, preB, Blk.view, Blk.inK, vCur, V.views, this]

theorem ct19 {nn : Bool} {bs : List Int} (hb : bs.length ≤ 1048576) : Ct Try.prog 19 [.bytes nn bs] [] (fun v H => H = [] ∧ ∃ (n : Nat) (b : Book), 3 ≤ n ∧ n ≤ 5 ∧ v = vBook b ∧ BookG n 3 b) := by
  apply c19; unfold t19
  simp only [go_sem, Nat.reduceAdd, Nat.reduceSub, Nat.reduceMul, Nat.reduceLeDiff, Nat.reduceLT, Nat.reduceEqDiff, ↓reduceIte, Nat.reducePow, reduceCtorEq, Int.reduceLE, Int.reduceLT, Int.reduceToNat, ← List.map_take, ← List.map_drop, Int.reduceBEq, Int.reduceBNe]
  refine pCall_new (ct113 hb) rfl ?_
  rintro _ _ ⟨rfl, h, rfl⟩
  simp only [go_sem, Nat.reduceAdd, Nat.reduceSub, Nat.reduceMul, Nat.reduceLeDiff, Nat.reduceLT, Nat.reduceEqDiff, ↓reduceIte, Nat.reducePow, reduceCtorEq, Int.reduceLE, Int.reduceLT, Int.reduceToNat, ← List.map_take, ← List.map_drop, Int.reduceBEq, Int.reduceBNe, vCur]
  refine pCall_cur (nn := nn) (bs := bs) (i := 0) (h := h) (d115 hb (by omega) (by omega)) rfl ⟨by omega, by omega⟩ rfl (fun v => isNum_in) ?_
  rintro _ i1 h1 ⟨x, rfl, hx0, hx1⟩ e0 e1
  obtain ⟨m, rfl⟩ : ∃ m : Nat, x = m := ⟨x.toNat, by omega⟩
  have hw : IntKind.i64.wrap (3 + (m : Int)) = ((3 + m : Nat) : Int) := by rw [wrap64 (by omega) (by omega)]; omega
  simp only [go_sem, Nat.reduceAdd, Nat.reduceSub, Nat.reduceMul, Nat.reduceLeDiff, Nat.reduceLT, Nat.reduceEqDiff, ↓reduceIte, Nat.reducePow, reduceCtorEq, Int.reduceLE, Int.reduceLT, Int.reduceToNat, ← List.map_take, ← List.map_drop, Int.reduceBEq, Int.reduceBNe, hw]
  refine pCall_cur (nn := nn) (bs := bs) (d114 (n := 3 + m) (op := 3) hb (by omega) (by omega) (by omega)) rfl ⟨e0, e1⟩ rfl (fun v => by rintro ⟨b, rfl, _⟩; rfl) ?_
  rintro _ i2 h2 ⟨b, rfl, hbk⟩ e0 e1
  simp only [go_sem, Nat.reduceAdd, Nat.reduceSub, Nat.reduceMul, Nat.reduceLeDiff, Nat.reduceLT, Nat.reduceEqDiff, ↓reduceIte, Nat.reducePow, reduceCtorEq, Int.reduceLE, Int.reduceLT, Int.reduceToNat, ← List.map_take, ← List.map_drop, Int.reduceBEq, Int.reduceBNe, vBook_eq]
  exact pWk_done rfl ⟨rfl, 3 + m, b, by omega, by omega, rfl, hbk⟩

end Go.Sim
