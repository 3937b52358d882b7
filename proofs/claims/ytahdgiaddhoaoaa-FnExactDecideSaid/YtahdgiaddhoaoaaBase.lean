/- How a contract of a law becomes a walk of the machine. -/
import Derived.Test.YtahdgiaddhoaoaaTxtA
import Derived.Test.YtahdgiaddhoaoaaSimC
import Derived.Test.YtahdgiaddhoaoaaRows
import Derived.WalkKit
import Derived.ProofKit
import Derived.OpenShut
import Derived.ShutString
import Derived.ChangeOld
import Derived.ChangeSlices
import Derived.Below
import Derived.SizedLaws

set_option maxRecDepth 100000
set_option linter.unusedVariables false
namespace Go.Sim
open Go.Proofs Go.ChangeShapes Go.WideShapes

theorem cell_lt {w : World} {a : Addr} {v : Value} (h : w.cell? a = some v) : a.block < w.heap.size := by
  unfold World.cell? at h
  cases hb : w.heap[a.block]? with
  | none => rw [hb] at h; cases h
  | some o => exact (Array.getElem?_eq_some_iff.1 hb).1

/-- The bytes that came in, read as an immutable value. -/
theorem bytes_rep {H : Type} {enc : TypeId × Value → H} {W : World} {base base' : Nat} {spare : Nat → Bool} {held : Bool} {a : Option Addr} {len cap : Nat} {d : DataW H} {ps : List MemPlace}
    (hw : Value.okWide Try.prog W .any base' 22 (.slice a len cap)) (h : DataW.Trod enc Try.prog W base spare held 22 (.slice a len cap) d ps) :
    ∃ nn bs, RS W (fun b => b < W.heap.size) (V.bytes nn bs) (.slice a len cap) := by
  obtain ⟨fuel, hf⟩ := h
  rcases open_ints Try.underlying22 Try.underlying5 (by kernel_rfl) hf with ⟨hcs, _⟩ | ⟨x, l, c, zs, hcs, _, hl, hm, hz, _, hcell, hwz⟩
  · simp [Value.cells] at hcs
    obtain ⟨rfl, rfl, rfl⟩ := hcs
    exact ⟨false, [], .slnil 1⟩
  · simp [Value.cells] at hcs
    obtain ⟨rfl, rfl, rfl⟩ := hcs
    have hsp : x.spot = none := by
      simp only [Value.okWide, Try.underlying22, Cell.okWide, Cell.ok, World.has] at hw
      exact hw.2.2.2.1
    obtain ⟨b, o, sp⟩ := x
    simp only at hsp
    subst hsp
    have hzl : len ≤ zs.length := by rw [hz]; split <;> omega
    refine ⟨true, zs.take len, ?_⟩
    have hlen : len = ((zs.take len).map (V.int .u8)).length := by simp; omega
    have key : RS W (fun b => b < W.heap.size) (V.bytes true (zs.take len)) (.slice (some ⟨b, o, none⟩) ((zs.take len).map (V.int .u8)).length cap) := by
      have hc : ∀ i, i < len → W.cell? ⟨b, o + i, none⟩ = some (.int .u8 (zs.getD i 0)) := by
        intro i hi
        have := hcell i (by omega)
        unfold Addr.add at this
        split at this
        · rename_i h0; subst h0; exact this
        · exact this
      have el : ∀ (i : Nat) y (j : Nat) c, ((zs.take len).map (V.int .u8))[i]? = some y → y.cells[j]? = some c → i < len ∧ j = 0 ∧ c = .int .u8 (zs.getD i 0) := by
        intro i y j c hy hc
        have hi := (List.getElem?_eq_some_iff.1 hy).1
        rw [List.length_map, List.length_take] at hi
        rw [List.getElem?_map, List.getElem?_take_of_lt (by omega), List.getElem?_eq_getElem (by omega)] at hy
        simp only [Option.map_some, Option.some.injEq] at hy
        subst hy
        rw [cells_int] at hc
        cases j with
        | zero =>
          simp at hc
          exact ⟨by omega, rfl, by rw [← hc, List.getD_eq_getElem?_getD, List.getElem?_eq_getElem (by omega)]; rfl⟩
        | succ j => simp at hc
      refine .sl (u := fun i _ => .int .u8 (zs.getD i 0)) (fun hne => ?_) (by simp; omega) (fun y hy => ?_) (fun i y j c hy hcc => ?_) (fun i y j c hy hcc => ?_)
      · have : 0 < len := by
          rcases Nat.eq_zero_or_pos len with h0 | h0
          · subst h0; simp at hne
          · exact h0
        exact cell_lt (hc 0 this)
      · obtain ⟨z, _, rfl⟩ := List.mem_map.1 hy
        exact ⟨rfl, rfl⟩
      · obtain ⟨h1, rfl, rfl⟩ := el i y j c hy hcc
        have := hc i h1
        simpa using this
      · obtain ⟨h1, rfl, rfl⟩ := el i y j c hy hcc
        exact .int _ _
    rw [← hlen] at key
    exact key

/-- A law's contract, told of the machine. -/
theorem walk_of_ct {k : FuncId} {args : List V} {us : Array Value} {W : World} (hct : Ct Try.prog k args [] fun v H => v = .bool true ∧ H = []) (hl : us.size = args.length)
    (hr : ∀ (i : Nat) v u, args[i]? = some v → us[i]? = some u → RS W (fun b => b < W.heap.size) v u) :
    Calls Try.prog k us W fun e W' => e = .returned (.bool true) ∧ Go.RowKit.Below W.heap.size W W' := by
  have hno : ∀ i, ¬ LiveAt [] i := fun i ⟨k, hk, _⟩ => by simp at hk
  have hH : HR W (fun b => b < W.heap.size) (fun _ => default) [] := ⟨fun i k hk => by simp at hk, fun i j hi => absurd hi (hno i), fun i hi => absurd hi (hno i), fun b hb => hb⟩
  refine (hct.2 W _ _ us hH hl fun i v u hv hu => .st (hr i v u hv hu)).mono ?_
  rintro e W' ⟨u, v, H', A', ρ', rfl, ⟨rfl, rfl⟩, h1, h2, h3⟩
  have := h2.bool_inv
  subst this
  exact ⟨rfl, h3.os, h3.tape, h3.output, h3.size, fun b hb => h3.blk b hb fun i hi => absurd hi (hno i)⟩

theorem own : ownKnob Try.prog.godebug = none := by kernel_rfl
theorem laidOut : laidOutB Try.prog = true := by kernel_rfl

end Go.Sim
