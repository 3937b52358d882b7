/- FnExactDecide: for every input the law returns true and leaves its arguments as they were. No conditions. -/
import Derived.Test.YtahdgiaddhoaoaaBase
import Derived.Test.YtahdgiaddhoaoaaOpenP
import Derived.Test.YtahdgiaddhoaoaaLawD
import Derived.JoinedOf
import Derived.Test.YtahdgiaddhoaoaaFa
import Derived.Test.YtahdgiaddhoaoaaFb
import Derived.Test.YtahdgiaddhoaoaaFc

set_option maxRecDepth 100000
set_option linter.unusedVariables false
namespace Go.Proofs.Ytahdgiaddhoaoaa.fnExactDecide
open Go.ChangeShapes Go.WideShapes Go.ChangeAt Go.RowKit Go.Sim
open Go.ChangeMaps (open_string shut_string)
theorem lifted (os : Os) (started : os.Started) (H : Type) (enc : TypeId × Value → H) :
    ReturnsInHanded {} Try.checked os 15 .any (Rows.fnExactDecideSpec.pre6 enc Try.prog Try.f15 Rows.fnExactDecideRow.domain false) (Rows.fnExactDecideSpec.post enc Try.prog Try.f15 false true false false) := by
  refine returnsInHanded_of_change_sized (C := Try.checked) own started (by kernel_rfl) Try.func15
    (ChangeSpec.witness6 (enc := enc) (C := Try.checked) false ⟨#[], #[.agg #[.slice none 0 0, .int .i64 0, .int .i64 0, .int .i64 0, .slice none 0 0, .bool false, .slice none 0 0, .slice none 0 0, .slice none 0 0], .slice none 0 0], []⟩ 8 (by kernel_rfl) (by kernel_rfl) (by kernel_rfl) (by kernel_rfl)) ?_
  intro W base args ds gs before hval0 hW hcnd hsz0 _
  have hval : ∀ (j : Nat) t v, Try.f15.params[j]? = some t → args[j]? = some v → Value.okWide Try.prog W .any base t v := hval0
  have hW' := hW
  obtain ⟨p, q, hA0, hV, rfl, hfz, hnd⟩ := hW
  have hA : DataW.TrodAll enc Try.prog W 0 (fun _ => true) true Try.f15.params.toList args.toList ds p := hA0
  rw [Try.params15] at hA hval
  obtain ⟨v0, vs0, d0, ds0, p0, q0, hargs, rfl, rfl, h0, r0⟩ := trodAll_cons hA
  obtain ⟨v1, vs1, d1, ds1, p1, q1, rfl, rfl, rfl, h1, r1⟩ := trodAll_cons r0
  obtain ⟨rfl, rfl, rfl⟩ := trodAll_nil r1
  obtain rfl : args = #[v0, v1] := by cases args; simp_all
  obtain ⟨rfl, rfl⟩ := trodVars_none hV
  have k0 := h0
  have lt0 : ∀ x ∈ p0, x.block < W.heap.size := by obtain ⟨m, hm⟩ := k0; exact DataW.trod_lt m _ _ _ hm
  obtain ⟨b0, wd0, rs0⟩ := open_book (hval 0 84 v0 rfl rfl) h0
  have k1 := h1
  have lt1 : ∀ x ∈ p1, x.block < W.heap.size := by obtain ⟨m, hm⟩ := k1; exact DataW.trod_lt m _ _ _ hm
  obtain ⟨nn1, b1, wd1, rs1⟩ := open_prots (hval 1 120 v1 rfl rfl) h1
  clear hA0 hval0 hsz0
  refine (walk_of_ct (law15 (b := b0) (nn := nn1) (l := b1) wd0 wd1) (us := #[v0, v1]) rfl (fun i v u hv hu => ?_)).mono fun e W' ⟨he, bel⟩ => ?_
  · match i with
    | 0 => simp at hv hu; subst hv; subst hu; exact rs0
    | 1 => simp at hv hu; subst hv; subst hu; exact rs1
    | i + 2 => simp at hv
  subst he
  exact ⟨_, rfl, _, _, _, [], _, [], hW', trodAll_mk1 (shut_bool Try.underlying4 _), (trodAll_cons_mk (Below.trod laidOut (by kernel_rfl) (of_decide_eq_true (by kernel_rfl)) k0 bel lt0) (trodAll_cons_mk (Below.trod laidOut (by kernel_rfl) (of_decide_eq_true (by kernel_rfl)) k1 bel lt1) trodAll_mk0)), rfl, bel.frame _, fun h => by cases h⟩
theorem fact1 : Try.prog.inPlace 15 = Rows.fnExactDecideRow.inPlace := by kernel_rfl
theorem fact2 : Try.prog.unfollowed 15 = true := by kernel_rfl
theorem fact3 : Try.prog.recurses 15 = true := by unfold Program.recurses; rw [fact2]; rfl
theorem fact4 : Try.prog.varsNamed 15 = [] := by kernel_rfl
theorem closed : joinedFacts Try.prog 15 Try.f15 Rows.fnExactDecideSpec Rows.fnExactDecideRow = true := by
  unfold joinedFacts
  rw [fact1, fact2, fact3, fact4, Facts.mayEnter, Facts.lifts, Facts.laid, Facts.rowed, Facts.heard, show (Try.prog.make == some Rows.fnExactDecideRow.make) = true from Facts.make]
  kernel_rfl
theorem over : Rows.fnExactDecideRow.holds Try.pinned (OpenSpec.ofChange Rows.fnExactDecideSpec) :=
  OpenClaim.holds_of_wide 15 Try.f15 rfl rfl rfl rfl rfl rfl rfl ⟨rfl, rfl, rfl, rfl, rfl⟩ rfl rfl rfl rfl rfl (by kernel_rfl) Try.func15 closed
    (of_decide_eq_true (by kernel_rfl)) (by unfold Func.isWrapper; first | (rw [if_pos (by decide +kernel)]; kernel_rfl) | (rw [if_neg (by decide +kernel)]; exact ⟨rfl, rfl⟩))
    (fun os started H enc _ => lifted os started H enc)
end Go.Proofs.Ytahdgiaddhoaoaa.fnExactDecide
namespace Go.Proofs.Ytahdgiaddhoaoaa
theorem fnExactDecide_holds : Rows.FnExactDecideSaid := fnExactDecide.over
#print axioms fnExactDecide_holds
end Go.Proofs.Ytahdgiaddhoaoaa
