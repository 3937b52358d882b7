/- A typed argument of a law, read as an abstract value. -/
import Derived.Test.YtahdgiaddhoaoaaBase
import Derived.Test.YtahdgiaddhoaoaaLawM

set_option maxRecDepth 100000
set_option linter.unusedVariables false
namespace Go.Sim
open Go.Proofs Go.ChangeShapes Go.WideShapes

section
variable {H : Type} {enc : TypeId × Value → H} {P : Program} {W : World} {base : Nat} {spare : Nat → Bool} {held : Bool}

/-- Cells, one by one. -/
def CR (W : World) (vs : List V) (cs : List Value) : Prop :=
  vs.length = cs.length ∧ ∀ (j : Nat) c u, vs[j]? = some c → cs[j]? = some u → RS W (fun b => b < W.heap.size) c u

theorem CR.nil : CR W [] [] := ⟨rfl, fun j c u h => by simp at h⟩
theorem CR.cons {c : V} {u : Value} {vs : List V} {cs : List Value} (h : RS W (fun b => b < W.heap.size) c u) (g : CR W vs cs) : CR W (c :: vs) (u :: cs) := by
  refine ⟨by simp [g.1], fun j x y hx hy => ?_⟩
  cases j with
  | zero => simp at hx hy; subst hx; subst hy; exact h
  | succ j => exact g.2 j x y (by simpa using hx) (by simpa using hy)
theorem CR.agg {vs : List V} {us : Array Value} (h : CR W vs us.toList) : RS W (fun b => b < W.heap.size) (.agg vs) (.agg us) :=
  .agg (by rw [h.1]; simp) fun i c u h1 h2 => h.2 i c u h1 (by simpa using h2)

theorem fin_choice {α : Type} {Q : Nat → α → Prop} : ∀ {n : Nat}, (∀ i, i < n → ∃ a, Q i a) → ∃ l : List α, l.length = n ∧ ∀ i a, l[i]? = some a → Q i a
  | 0, _ => ⟨[], rfl, fun i a h => by simp at h⟩
  | n + 1, h => by
    obtain ⟨l, hl, hq⟩ := fin_choice (n := n) fun i hi => h i (by omega)
    obtain ⟨a, ha⟩ := h n (by omega)
    refine ⟨l ++ [a], by simp [hl], fun i x hx => ?_⟩
    rcases Nat.lt_or_ge i n with hi | hi
    · rw [List.getElem?_append_left (by omega)] at hx; exact hq i x hx
    · rw [List.getElem?_append_right (by omega)] at hx
      have : i = n := by
        have := (List.getElem?_eq_some_iff.1 hx).1
        simp at this; omega
      subst this
      simp [hl] at hx
      subst hx; exact ha

theorem add_add {b o m j : Nat} : ((⟨b, o, none⟩ : Addr).add m).add j = ⟨b, o + m + j, none⟩ := by
  unfold Addr.add
  split <;> split <;> simp_all <;> omega

theorem open_rows {t e : TypeId} {s : Nat} {α : Type} {E : α → V} {G : α → Prop} (ht : P.underlying t = some (.slice e)) (hc : P.cellsOf e = s) (hs : 0 < s) (hE : ∀ a, V.wide s (E a))
    (hel : ∀ fuel cs x, DataW.trod enc P W base spare held fuel e cs = some x → ∃ a, G a ∧ CR W (E a).cells cs)
    {fuel : Nat} {cs : List Value} {x : DataW H × List MemPlace} (h : DataW.trod enc P W base spare held fuel t cs = some x) (hsp : ∀ a len cap, cs = [.slice (some a) len cap] → a.spot = none) :
    ∃ (nn : Bool) (l : List α) (u : Value), cs = [u] ∧ (nn = false → l = []) ∧ (∀ a ∈ l, G a) ∧ l.length ≤ maxLen ∧ RS W (fun b => b < W.heap.size) (.sl nn s (l.map E)) u := by
  rcases DataW.trod_slice ht h with ⟨rfl, rfl⟩ | ⟨a, len, cap, elems, rest, n, _, rfl, rfl, hb, hl, hm, hlen, hel', _, _⟩
  · exact ⟨false, [], _, rfl, fun _ => rfl, by simp, by simp, .slnil s⟩
  have hsp := hsp a len cap rfl
  obtain ⟨b, o, sp⟩ := a
  simp only at hsp
  subst hsp
  have each : ∀ i, i < len → ∃ a', G a' ∧ ∀ j c, (E a').cells[j]? = some c → ∃ u, W.cell? ⟨b, o + i * s + j, none⟩ = some u ∧ RS W (fun b => b < W.heap.size) c u := by
    intro i hi
    have h1 := hel' i hi
    rw [List.getElem?_eq_getElem (by omega), Option.bind_eq_some_iff] at h1
    obtain ⟨cs', hcs, hy⟩ := h1
    obtain ⟨a', ga, hcr⟩ := hel _ _ _ hy
    rw [hc] at hcs
    obtain ⟨_, hcl, hcell⟩ := World.cells?_some hcs
    refine ⟨a', ga, fun j c hj => ?_⟩
    have hjl : j < cs'.length := by rw [← hcr.1]; exact (List.getElem?_eq_some_iff.1 hj).1
    have h2 := hcell j (by omega)
    rw [add_add, List.getElem?_eq_getElem hjl] at h2
    exact ⟨_, h2, hcr.2 j c _ hj (List.getElem?_eq_getElem hjl)⟩
  obtain ⟨l, hll, hq⟩ := fin_choice each
  refine ⟨true, l, _, rfl, fun h => (by cases h), fun a ha => ?_, by omega, ?_⟩
  · obtain ⟨i, hi⟩ := List.getElem?_of_mem ha
    exact (hq i a hi).1
  have key : RS W (fun b => b < W.heap.size) (.sl true s (l.map E)) (.slice (some ⟨b, o, none⟩) (l.map E).length cap) := by
    have el : ∀ (i : Nat) y (j : Nat) c, (l.map E)[i]? = some y → y.cells[j]? = some c → ∃ u, W.cell? ⟨b, o + i * s + j, none⟩ = some u ∧ RS W (fun b => b < W.heap.size) c u := by
      intro i y j c hy hj
      rw [List.getElem?_map, Option.map_eq_some_iff] at hy
      obtain ⟨a', ha', rfl⟩ := hy
      exact (hq i a' ha').2 j c hj
    refine .sl (u := fun i j => (W.cell? ⟨b, o + i * s + j, none⟩).getD Go.undef) (fun hne => ?_) (by simp; omega) (fun y hy => ?_) (fun i y j c hy hj => ?_) (fun i y j c hy hj => ?_)
    · cases hl0 : l with
      | nil => subst hl0; simp at hne
      | cons a0 l' =>
        subst hl0
        have hw := hE a0
        obtain ⟨u, hu, _⟩ := el 0 (E a0) 0 ((E a0).cells[0]'(by rw [hw.1]; exact hs)) (by simp) (List.getElem?_eq_getElem _)
        exact cell_lt hu
    · obtain ⟨z, _, rfl⟩ := List.mem_map.1 hy
      exact hE z
    · obtain ⟨u, hu, _⟩ := el i y j c hy hj
      rw [hu]; rfl
    · obtain ⟨u, hu, hr⟩ := el i y j c hy hj
      rw [hu]; exact hr
  rw [List.length_map, hll] at key
  exact key

theorem fld {n : Nat} (t o : Nat) {c : Nat} (hc : P.cellsOf t = c) {cs : List Value} {xs : List (DataW H × List MemPlace)} {i : Nat} (h : DataW.trod enc P W base spare held n t ((cs.drop o).take (P.cellsOf t)) = xs[i]?) (hi : i < xs.length) :
    ∃ y, DataW.trod enc P W base spare held n t ((cs.drop o).take c) = some y := ⟨_, hc ▸ h.trans (List.getElem?_eq_getElem hi)⟩

theorem cell_spot {r : Reach} {b0 : Nat} {t : TypeId} {a : Addr} {len cap : Nat} (h : Cell.okWide P W r b0 t (.slice (some a) len cap)) : a.spot = none := by
  unfold Cell.okWide at h
  split at h <;> first | (rename_i h2; cases h2) | skip
  unfold Cell.ok at h
  split at h <;> simp_all [World.has]

end

section
variable {H : Type} {enc : TypeId × Value → H} {W : World} {base : Nat} {spare : Nat → Bool} {held : Bool}

theorem open_team {fuel : Nat} {cs : List Value} {x : DataW H × List MemPlace} (h : DataW.trod enc Try.prog W base spare held fuel 175 cs = some x) : ∃ t : Team, t.name.size ≤ maxLen ∧ CR W (vTeam t).cells cs := by
  obtain ⟨xs, n, _, rfl, hl, hlen, hf⟩ := DataW.trod_struct Try.underlying175 h
  have hl3 : cs.length = 3 := by rw [hl]; kernel_rfl
  have k1 : Try.prog.cellsOf 3 = 1 := by kernel_rfl
  have k2 : Try.prog.cellsOf 9 = 1 := by kernel_rfl
  match cs, hl3 with
  | [c0, c1, c2], _ =>
    obtain ⟨y0, g0⟩ := fld 9 0 k2 (hf 0 _ rfl) (by rw [hlen]; decide)
    obtain ⟨y1, g1⟩ := fld 3 1 k1 (hf 1 _ rfl) (by rw [hlen]; decide)
    obtain ⟨y2, g2⟩ := fld 3 2 k1 (hf 2 _ rfl) (by rw [hlen]; decide)
    simp only [List.drop_zero, List.drop_succ_cons, List.take_succ_cons, List.take_zero] at g0 g1 g2
    obtain ⟨s0, e0, _, m0⟩ := DataW.trod_string (by kernel_rfl) g0
    obtain ⟨s1, e1, _, _⟩ := DataW.trod_int (k := .i64) (by kernel_rfl) g1
    obtain ⟨s2, e2, _, _⟩ := DataW.trod_int (k := .i64) (by kernel_rfl) g2
    cases e0; cases e1; cases e2
    exact ⟨⟨s0, s1, s2⟩, m0, .cons (.str _) (.cons (.int _ _) (.cons (.int _ _) .nil))⟩

theorem open_game {fuel : Nat} {cs : List Value} {x : DataW H × List MemPlace} (h : DataW.trod enc Try.prog W base spare held fuel 264 cs = some x) : ∃ t : Game, True ∧ CR W (vGame t).cells cs := by
  obtain ⟨xs, n, _, rfl, hl, hlen, hf⟩ := DataW.trod_struct Try.underlying264 h
  have hl3 : cs.length = 5 := by rw [hl]; kernel_rfl
  have k1 : Try.prog.cellsOf 3 = 1 := by kernel_rfl
  match cs, hl3 with
  | [c0, c1, c2, c3, c4], _ =>
    obtain ⟨y0, g0⟩ := fld 3 0 k1 (hf 0 _ rfl) (by rw [hlen]; decide)
    obtain ⟨y1, g1⟩ := fld 3 1 k1 (hf 1 _ rfl) (by rw [hlen]; decide)
    obtain ⟨y2, g2⟩ := fld 3 2 k1 (hf 2 _ rfl) (by rw [hlen]; decide)
    obtain ⟨y3, g3⟩ := fld 3 3 k1 (hf 3 _ rfl) (by rw [hlen]; decide)
    obtain ⟨y4, g4⟩ := fld 3 4 k1 (hf 4 _ rfl) (by rw [hlen]; decide)
    simp only [List.drop_zero, List.drop_succ_cons, List.take_succ_cons, List.take_zero] at g0 g1 g2 g3 g4
    obtain ⟨s0, e0, _, _⟩ := DataW.trod_int (k := .i64) (by kernel_rfl) g0
    obtain ⟨s1, e1, _, _⟩ := DataW.trod_int (k := .i64) (by kernel_rfl) g1
    obtain ⟨s2, e2, _, _⟩ := DataW.trod_int (k := .i64) (by kernel_rfl) g2
    obtain ⟨s3, e3, _, _⟩ := DataW.trod_int (k := .i64) (by kernel_rfl) g3
    obtain ⟨s4, e4, _, _⟩ := DataW.trod_int (k := .i64) (by kernel_rfl) g4
    cases e0; cases e1; cases e2; cases e3; cases e4
    exact ⟨⟨s0, s1, s2, s3, s4⟩, trivial, .cons (.int _ _) (.cons (.int _ _) (.cons (.int _ _) (.cons (.int _ _) (.cons (.int _ _) .nil))))⟩

theorem open_intc {fuel : Nat} {cs : List Value} {x : DataW H × List MemPlace} (h : DataW.trod enc Try.prog W base spare held fuel 3 cs = some x) : ∃ n : Int, (-9223372036854775808 ≤ n ∧ n ≤ 9223372036854775807) ∧ CR W (V.i n).cells cs := by
  obtain ⟨n, rfl, _, hw⟩ := DataW.trod_int (k := .i64) (by kernel_rfl) h
  refine ⟨n, ?_, .cons (.int _ _) .nil⟩
  simp only [Lit.wf, Bool.and_eq_true, decide_eq_true_eq] at hw
  exact hw

theorem open_int1 {b0 : Nat} {v : Value} {d : DataW H} {ps : List MemPlace} (hw : Value.okWide Try.prog W .any b0 3 v) (h : DataW.Trod enc Try.prog W base spare held 3 v d ps) : ∃ n : Int, (-9223372036854775808 ≤ n ∧ n ≤ 9223372036854775807) ∧ RS W (fun b => b < W.heap.size) (V.i n) v := by
  obtain ⟨n, rfl⟩ := okWide_int Try.underlying3 hw
  obtain ⟨fuel, h⟩ := h
  obtain ⟨m, e, _, hb⟩ := DataW.trod_int (k := .i64) (by kernel_rfl) h
  obtain rfl : n = m := by
    have : (Value.cells (.int .i64 n)).toList = [.int .i64 n] := rfl
    rw [this] at e
    cases e; rfl
  refine ⟨n, ?_, .int _ _⟩
  simp only [Lit.wf, Bool.and_eq_true, decide_eq_true_eq] at hb
  exact hb

theorem open_prot {b0 : Nat} {v : Value} {d : DataW H} {ps : List MemPlace} (hw : Value.okWide Try.prog W .any b0 86 v) (h : DataW.Trod enc Try.prog W base spare held 86 v d ps) : ∃ p : Prot, RS W (fun b => b < W.heap.size) (vProt p) v := by
  obtain ⟨cs, rfl, hsz⟩ := okWide_struct Try.underlying86 hw
  obtain ⟨fuel, h⟩ := h
  obtain ⟨xs, n, _, _, hl, hlen, hf⟩ := DataW.trod_struct Try.underlying86 h
  have hl3 : (Value.cells (.agg cs)).toList.length = 3 := by rw [hl]; kernel_rfl
  have k1 : Try.prog.cellsOf 3 = 1 := by kernel_rfl
  have k2 : Try.prog.cellsOf 4 = 1 := by kernel_rfl
  suffices ∃ p : Prot, CR W (vProt p).cells (Value.cells (.agg cs)).toList by
    obtain ⟨p, hp⟩ := this
    exact ⟨p, CR.agg (us := cs) hp⟩
  generalize (Value.cells (.agg cs)).toList = cl at *
  match cl, hl3 with
  | [c0, c1, c2], _ =>
    obtain ⟨y0, g0⟩ := fld 3 0 k1 (hf 0 _ rfl) (by rw [hlen]; decide)
    obtain ⟨y1, g1⟩ := fld 3 1 k1 (hf 1 _ rfl) (by rw [hlen]; decide)
    obtain ⟨y2, g2⟩ := fld 4 2 k2 (hf 2 _ rfl) (by rw [hlen]; decide)
    simp only [List.drop_zero, List.drop_succ_cons, List.take_succ_cons, List.take_zero] at g0 g1 g2
    obtain ⟨s0, e0, _, _⟩ := DataW.trod_int (k := .i64) (by kernel_rfl) g0
    obtain ⟨s1, e1, _, _⟩ := DataW.trod_int (k := .i64) (by kernel_rfl) g1
    obtain ⟨s2, e2, _⟩ := DataW.trod_bool (by kernel_rfl) g2
    cases e0; cases e1; cases e2
    exact ⟨⟨s0, s1, s2⟩, .cons (.int _ _) (.cons (.int _ _) (.cons (.bool _) .nil))⟩

theorem open_book {b0 : Nat} {v : Value} {d : DataW H} {ps : List MemPlace} (hw : Value.okWide Try.prog W .any b0 84 v) (h : DataW.Trod enc Try.prog W base spare held 84 v d ps) : ∃ b : Book, Wide b ∧ RS W (fun b => b < W.heap.size) (vBook b) v := by
  have hspot : ∃ cs : Array Value, v = .agg cs ∧ ∀ (i : Nat) (a : Addr) (len cap : Nat), cs[i]? = some (Value.slice (some a) len cap) → a.spot = none := by
    have h2 := hw
    unfold Value.okWide at h2
    rw [Try.underlying84] at h2
    obtain ⟨cs, rfl, _, ts, _, _, hc⟩ := h2
    refine ⟨cs, rfl, fun i a len cap hi => ?_⟩
    obtain ⟨u, _, hu⟩ := hc i _ hi
    exact cell_spot hu
  obtain ⟨cs, rfl, hsp⟩ := hspot
  obtain ⟨fuel, h⟩ := h
  obtain ⟨xs, n, _, _, hl, hlen, hf⟩ := DataW.trod_struct Try.underlying84 h
  have hl3 : (Value.cells (.agg cs)).toList.length = 9 := by rw [hl]; kernel_rfl
  have k1 : Try.prog.cellsOf 62 = 1 := by kernel_rfl
  have k2 : Try.prog.cellsOf 81 = 5 := by kernel_rfl
  have k3 : Try.prog.cellsOf 82 = 1 := by kernel_rfl
  have k4 : Try.prog.cellsOf 24 = 1 := by kernel_rfl
  have k5 : Try.prog.cellsOf 3 = 1 := by kernel_rfl
  have k6 : Try.prog.cellsOf 4 = 1 := by kernel_rfl
  suffices ∃ b : Book, Wide b ∧ CR W (vBook b).cells (Value.cells (.agg cs)).toList by
    obtain ⟨p, hp, hq⟩ := this
    exact ⟨p, hp, CR.agg (us := cs) hq⟩
  have hsp2 : ∀ (i : Nat) (a : Addr) (len cap : Nat), (Value.cells (.agg cs)).toList[i]? = some (Value.slice (some a) len cap) → a.spot = none := fun i a len cap hi => hsp i a len cap (by simpa [Value.cells] using hi)
  generalize (Value.cells (.agg cs)).toList = cl at *
  match cl, hl3 with
  | [c0, c1, c2, c3, c4, c5, c6, c7, c8], _ =>
    obtain ⟨y0, g0⟩ := fld 62 0 k1 (hf 0 _ rfl) (by rw [hlen]; decide)
    obtain ⟨y1, g1⟩ := fld 81 1 k2 (hf 1 _ rfl) (by rw [hlen]; decide)
    obtain ⟨y2, g2⟩ := fld 82 6 k3 (hf 2 _ rfl) (by rw [hlen]; decide)
    obtain ⟨y3, g3⟩ := fld 24 7 k4 (hf 3 _ rfl) (by rw [hlen]; decide)
    obtain ⟨y4, g4⟩ := fld 24 8 k4 (hf 4 _ rfl) (by rw [hlen]; decide)
    simp only [List.drop_zero, List.drop_succ_cons, List.take_succ_cons, List.take_zero] at g0 g1 g2 g3 g4
    obtain ⟨xs', n', _, _, hl', hlen', hf'⟩ := DataW.trod_struct Try.underlying81 g1
    obtain ⟨z0, r0⟩ := fld 3 0 k5 (hf' 0 _ rfl) (by rw [hlen']; decide)
    obtain ⟨z1, r1⟩ := fld 3 1 k5 (hf' 1 _ rfl) (by rw [hlen']; decide)
    obtain ⟨z2, r2⟩ := fld 3 2 k5 (hf' 2 _ rfl) (by rw [hlen']; decide)
    obtain ⟨z3, r3⟩ := fld 24 3 k4 (hf' 3 _ rfl) (by rw [hlen']; decide)
    obtain ⟨z4, r4⟩ := fld 4 4 k6 (hf' 4 _ rfl) (by rw [hlen']; decide)
    simp only [List.drop_zero, List.drop_succ_cons, List.take_succ_cons, List.take_zero] at r0 r1 r2 r3 r4
    obtain ⟨s0, e0, _, _⟩ := DataW.trod_int (k := .i64) (by kernel_rfl) r0
    obtain ⟨s1, e1, _, _⟩ := DataW.trod_int (k := .i64) (by kernel_rfl) r1
    obtain ⟨s2, e2, _, _⟩ := DataW.trod_int (k := .i64) (by kernel_rfl) r2
    obtain ⟨s4, e4, _⟩ := DataW.trod_bool (by kernel_rfl) r4
    have k7 : Try.prog.cellsOf 175 = 3 := by kernel_rfl
    have k8 : Try.prog.cellsOf 264 = 5 := by kernel_rfl
    obtain ⟨n0, l0, u0, q0, nn0, w0, m0, rs0⟩ := open_rows (E := vTeam) Try.underlying62 k7 (by omega) (fun _ => ⟨rfl, rfl⟩) (fun _ _ _ => open_team) g0 (fun a len cap e => hsp2 0 a len cap (by cases e; rfl))
    obtain ⟨n1, l1, u1, q1, nn1, w1, m1, rs1⟩ := open_rows (E := V.i) Try.underlying24 k5 (by omega) (fun _ => ⟨rfl, rfl⟩) (fun _ _ _ => open_intc) r3 (fun a len cap e => hsp2 4 a len cap (by cases e; rfl))
    obtain ⟨n2, l2, u2, q2, nn2, w2, m2, rs2⟩ := open_rows (E := vGame) Try.underlying82 k8 (by omega) (fun _ => ⟨rfl, rfl⟩) (fun _ _ _ => open_game) g2 (fun a len cap e => hsp2 6 a len cap (by cases e; rfl))
    obtain ⟨n3, l3, u3, q3, nn3, w3, m3, rs3⟩ := open_rows (E := V.i) Try.underlying24 k5 (by omega) (fun _ => ⟨rfl, rfl⟩) (fun _ _ _ => open_intc) g3 (fun a len cap e => hsp2 7 a len cap (by cases e; rfl))
    obtain ⟨n4, l4, u4, q4, nn4, w4, m4, rs4⟩ := open_rows (E := V.i) Try.underlying24 k5 (by omega) (fun _ => ⟨rfl, rfl⟩) (fun _ _ _ => open_intc) g4 (fun a len cap e => hsp2 8 a len cap (by cases e; rfl))
    cases e0; cases e1; cases e2; cases e4; cases q0; cases q1; cases q2; cases q3; cases q4
    simp only [maxLen] at m0 m1 m2 m3 m4
    exact ⟨⟨n0, l0, ⟨s0, s1, s2, n1, l1, s4⟩, n2, l2, n3, l3, n4, l4⟩, ⟨Nat.lt_of_le_of_lt m0 (by omega), fun t ht => Nat.lt_of_le_of_lt (w0 t ht) (by decide), Nat.lt_of_le_of_lt m1 (by omega), Nat.lt_of_le_of_lt m2 (by omega), Nat.lt_of_le_of_lt m3 (by omega), Nat.lt_of_le_of_lt m4 (by omega)⟩,
      .cons rs0 (.cons (.int _ _) (.cons (.int _ _) (.cons (.int _ _) (.cons rs1 (.cons (.bool _) (.cons rs2 (.cons rs3 (.cons rs4 .nil))))))))⟩
end
end Go.Sim
