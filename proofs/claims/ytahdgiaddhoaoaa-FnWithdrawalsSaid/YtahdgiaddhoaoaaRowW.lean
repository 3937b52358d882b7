/- FnWithdrawals: for every input the law returns true and leaves its argument as it was. No conditions. -/
import Derived.Test.YtahdgiaddhoaoaaBase
import Derived.Test.YtahdgiaddhoaoaaLawW
import Derived.JoinedOf
import Derived.Test.YtahdgiaddhoaoaaFa
import Derived.Test.YtahdgiaddhoaoaaFb
import Derived.Test.YtahdgiaddhoaoaaFc

set_option maxRecDepth 100000
set_option linter.unusedVariables false
namespace Go.Proofs.Ytahdgiaddhoaoaa.fnWithdrawals
open Go.ChangeShapes Go.WideShapes Go.ChangeAt Go.RowKit Go.Sim
open Go.ChangeMaps (open_string shut_string)
theorem lifted (os : Os) (started : os.Started) (H : Type) (enc : TypeId × Value → H) :
    ReturnsInHanded {} Try.checked os 3 .any (Rows.fnWithdrawalsSpec.pre6 enc Try.prog Try.f3 Rows.fnWithdrawalsRow.domain false) (Rows.fnWithdrawalsSpec.post enc Try.prog Try.f3 false true false false) := by
  refine returnsInHanded_of_change_sized (C := Try.checked) own started (by kernel_rfl) Try.func3
    (ChangeSpec.witness6 (enc := enc) (C := Try.checked) false ⟨#[], #[.slice none 0 0], []⟩ 8 (by kernel_rfl) (by kernel_rfl) (by kernel_rfl) (by kernel_rfl)) ?_
  intro W base args ds gs before hval0 hW hcnd hsz0 _
  have hval : ∀ (j : Nat) t v, Try.f3.params[j]? = some t → args[j]? = some v → Value.okWide Try.prog W .any base t v := hval0
  have hW' := hW
  obtain ⟨p, q, hA0, hV, rfl, hfz, hnd⟩ := hW
  have hA : DataW.TrodAll enc Try.prog W 0 (fun _ => true) true Try.f3.params.toList args.toList ds p := hA0
  rw [Try.params3] at hA hval
  obtain ⟨v0, vs0, d0, ds0, p0, q0, hargs, rfl, rfl, h0, r0⟩ := trodAll_cons hA
  obtain ⟨rfl, rfl, rfl⟩ := trodAll_nil r0
  obtain rfl : args = #[v0] := by cases args; simp_all
  obtain ⟨rfl, rfl⟩ := trodVars_none hV
  have hv := hval 0 22 v0 rfl rfl
  obtain ⟨a0, len0, cap0, rfl⟩ := okWide_slice Try.underlying22 hv
  have k0 := h0
  have lt0 : ∀ x ∈ p0, x.block < W.heap.size := by obtain ⟨m, hm⟩ := k0; exact DataW.trod_lt m _ _ _ hm
  obtain ⟨nn, bs, hrep⟩ := bytes_rep hv h0
  clear hA0 hval0 hsz0
  refine (walk_of_ct (law3 (nn := nn) (bs := bs)) (us := #[.slice a0 len0 cap0]) rfl (fun i v u hv hu => ?_)).mono fun e W' ⟨he, bel⟩ => ?_
  · cases i with
    | zero => simp at hv hu; subst hv; subst hu; exact hrep
    | succ i => simp at hv
  subst he
  exact ⟨_, rfl, _, _, _, [], _, [], hW', trodAll_mk1 (shut_bool Try.underlying4 _), (trodAll_cons_mk (Below.trod laidOut (by kernel_rfl) (of_decide_eq_true (by kernel_rfl)) k0 bel lt0) trodAll_mk0), rfl, bel.frame _, fun h => by cases h⟩
theorem fact1 : Try.prog.inPlace 3 = Rows.fnWithdrawalsRow.inPlace := by kernel_rfl
theorem fact2 : Try.prog.unfollowed 3 = true := by kernel_rfl
theorem fact3 : Try.prog.recurses 3 = true := by unfold Program.recurses; rw [fact2]; rfl
theorem fact4 : Try.prog.varsNamed 3 = [] := by kernel_rfl
theorem closed : joinedFacts Try.prog 3 Try.f3 Rows.fnWithdrawalsSpec Rows.fnWithdrawalsRow = true := by
  unfold joinedFacts
  rw [fact1, fact2, fact3, fact4, Facts.mayEnter, Facts.lifts, Facts.laid, Facts.rowed, Facts.heard, show (Try.prog.make == some Rows.fnWithdrawalsRow.make) = true from Facts.make]
  kernel_rfl
theorem over : Rows.fnWithdrawalsRow.holds Try.pinned (OpenSpec.ofChange Rows.fnWithdrawalsSpec) :=
  OpenClaim.holds_of_wide 3 Try.f3 rfl rfl rfl rfl rfl rfl rfl ⟨rfl, rfl, rfl, rfl, rfl⟩ rfl rfl rfl rfl rfl (by kernel_rfl) Try.func3 closed
    (of_decide_eq_true (by kernel_rfl)) (by unfold Func.isWrapper; first | (rw [if_pos (by decide +kernel)]; kernel_rfl) | (rw [if_neg (by decide +kernel)]; exact ⟨rfl, rfl⟩))
    (fun os started H enc _ => lifted os started H enc)
end Go.Proofs.Ytahdgiaddhoaoaa.fnWithdrawals
namespace Go.Proofs.Ytahdgiaddhoaoaa
theorem fnWithdrawals_holds : Rows.FnWithdrawalsSaid := fnWithdrawals.over
#print axioms fnWithdrawals_holds
end Go.Proofs.Ytahdgiaddhoaoaa
