/- A list of protests that came in, read as an abstract value. -/
import Derived.Test.YtahdgiaddhoaoaaOpen

set_option maxRecDepth 100000
set_option linter.unusedVariables false
namespace Go.Sim
open Go.Proofs Go.ChangeShapes Go.WideShapes

section
variable {H : Type} {enc : TypeId × Value → H} {W : World} {base : Nat} {spare : Nat → Bool} {held : Bool}

theorem open_protc {fuel : Nat} {cs : List Value} {x : DataW H × List MemPlace} (h : DataW.trod enc Try.prog W base spare held fuel 86 cs = some x) : ∃ p : Prot, True ∧ CR W (vProt p).cells cs := by
  obtain ⟨xs, n, _, _, hl, hlen, hf⟩ := DataW.trod_struct Try.underlying86 h
  have hl3 : cs.length = 3 := by rw [hl]; kernel_rfl
  have k1 : Try.prog.cellsOf 3 = 1 := by kernel_rfl
  have k2 : Try.prog.cellsOf 4 = 1 := by kernel_rfl
  match cs, hl3 with
  | [c0, c1, c2], _ =>
    obtain ⟨y0, g0⟩ := fld 3 0 k1 (hf 0 _ rfl) (by rw [hlen]; decide)
    obtain ⟨y1, g1⟩ := fld 3 1 k1 (hf 1 _ rfl) (by rw [hlen]; decide)
    obtain ⟨y2, g2⟩ := fld 4 2 k2 (hf 2 _ rfl) (by rw [hlen]; decide)
    simp only [List.drop_zero, List.drop_succ_cons, List.take_succ_cons, List.take_zero] at g0 g1 g2
    obtain ⟨s0, e0, _, _⟩ := DataW.trod_int (k := .i64) (by kernel_rfl) g0
    obtain ⟨s1, e1, _, _⟩ := DataW.trod_int (k := .i64) (by kernel_rfl) g1
    obtain ⟨s2, e2, _⟩ := DataW.trod_bool (by kernel_rfl) g2
    cases e0; cases e1; cases e2
    exact ⟨⟨s0, s1, s2⟩, trivial, .cons (.int _ _) (.cons (.int _ _) (.cons (.bool _) .nil))⟩

theorem open_prots {b0 : Nat} {v : Value} {d : DataW H} {ps : List MemPlace} (hw : Value.okWide Try.prog W .any b0 120 v) (h : DataW.Trod enc Try.prog W base spare held 120 v d ps) :
    ∃ (nn : Bool) (l : List Prot), l.length < 9223372036854775808 ∧ RS W (fun b => b < W.heap.size) (vProts nn l) v := by
  obtain ⟨a, len, cap, rfl⟩ := okWide_slice Try.underlying120 hw
  obtain ⟨fuel, h⟩ := h
  have k7 : Try.prog.cellsOf 86 = 3 := by kernel_rfl
  have hsp : ∀ (a' : Addr) (len' cap' : Nat), (Value.cells (.slice a len cap)).toList = [.slice (some a') len' cap'] → a'.spot = none := by
    intro a' len' cap' e
    have e2 : (Value.cells (.slice a len cap)).toList = [.slice a len cap] := rfl
    rw [e2] at e
    cases e
    have h2 := hw
    unfold Value.okWide at h2
    rw [Try.underlying120] at h2
    exact cell_spot h2
  obtain ⟨nn, l, u, q, _, _, m, rs⟩ := open_rows (E := vProt) Try.underlying120 k7 (by omega) (fun _ => ⟨rfl, rfl⟩) (fun _ _ _ => open_protc) h hsp
  have e2 : (Value.cells (.slice a len cap)).toList = [.slice a len cap] := rfl
  rw [e2] at q
  cases q
  simp only [maxLen] at m
  exact ⟨nn, l, Nat.lt_of_le_of_lt m (by omega), rs⟩
end
end Go.Sim
