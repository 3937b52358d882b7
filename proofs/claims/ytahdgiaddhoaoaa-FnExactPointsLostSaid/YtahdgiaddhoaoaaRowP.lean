/- FnExactPointsLost: for every input the law returns true and leaves its arguments as they were. No conditions. -/
import Derived.Test.YtahdgiaddhoaoaaBase
import Derived.Test.YtahdgiaddhoaoaaOpen
import Derived.Test.YtahdgiaddhoaoaaLawP
import Derived.JoinedOf
import Derived.Test.YtahdgiaddhoaoaaFa
import Derived.Test.YtahdgiaddhoaoaaFb
import Derived.Test.YtahdgiaddhoaoaaFc

set_option maxRecDepth 100000
set_option linter.unusedVariables false
namespace Go.Proofs.Ytahdgiaddhoaoaa.fnExactPointsLost
open Go.ChangeShapes Go.WideShapes Go.ChangeAt Go.RowKit Go.Sim
open Go.ChangeMaps (open_string shut_string)
theorem lifted (os : Os) (started : os.Started) (H : Type) (enc : TypeId × Value → H) :
    ReturnsInHanded {} Try.checked os 16 .any (Rows.fnExactPointsLostSpec.pre6 enc Try.prog Try.f16 Rows.fnExactPointsLostRow.domain false) (Rows.fnExactPointsLostSpec.post enc Try.prog Try.f16 false true false false) := by
  refine returnsInHanded_of_change_sized (C := Try.checked) own started (by kernel_rfl) Try.func16
    (ChangeSpec.witness6 (enc := enc) (C := Try.checked) false ⟨#[], #[.agg #[.slice none 0 0, .int .i64 0, .int .i64 0, .int .i64 0, .slice none 0 0, .bool false, .slice none 0 0, .slice none 0 0, .slice none 0 0], .int .i64 0, .int .i64 0], []⟩ 8 (by kernel_rfl) (by kernel_rfl) (by kernel_rfl) (by kernel_rfl)) ?_
  intro W base args ds gs before hval0 hW hcnd hsz0 _
  have hval : ∀ (j : Nat) t v, Try.f16.params[j]? = some t → args[j]? = some v → Value.okWide Try.prog W .any base t v := hval0
  have hW' := hW
  obtain ⟨p, q, hA0, hV, rfl, hfz, hnd⟩ := hW
  have hA : DataW.TrodAll enc Try.prog W 0 (fun _ => true) true Try.f16.params.toList args.toList ds p := hA0
  rw [Try.params16] at hA hval
  obtain ⟨v0, vs0, d0, ds0, p0, q0, hargs, rfl, rfl, h0, r0⟩ := trodAll_cons hA
  obtain ⟨v1, vs1, d1, ds1, p1, q1, rfl, rfl, rfl, h1, r1⟩ := trodAll_cons r0
  obtain ⟨v2, vs2, d2, ds2, p2, q2, rfl, rfl, rfl, h2, r2⟩ := trodAll_cons r1
  obtain ⟨rfl, rfl, rfl⟩ := trodAll_nil r2
  obtain rfl : args = #[v0, v1, v2] := by cases args; simp_all
  obtain ⟨rfl, rfl⟩ := trodVars_none hV
  have k0 := h0
  have lt0 : ∀ x ∈ p0, x.block < W.heap.size := by obtain ⟨m, hm⟩ := k0; exact DataW.trod_lt m _ _ _ hm
  obtain ⟨b0, wd0, rs0⟩ := open_book (hval 0 84 v0 rfl rfl) h0
  have k1 := h1
  have lt1 : ∀ x ∈ p1, x.block < W.heap.size := by obtain ⟨m, hm⟩ := k1; exact DataW.trod_lt m _ _ _ hm
  obtain ⟨b1, wd1, rs1⟩ := open_int1 (hval 1 3 v1 rfl rfl) h1
  have k2 := h2
  have lt2 : ∀ x ∈ p2, x.block < W.heap.size := by obtain ⟨m, hm⟩ := k2; exact DataW.trod_lt m _ _ _ hm
  obtain ⟨b2, wd2, rs2⟩ := open_int1 (hval 2 3 v2 rfl rfl) h2
  clear hA0 hval0 hsz0
  refine (walk_of_ct (law16 (b := b0) (t := b1) (rule := b2) wd0) (us := #[v0, v1, v2]) rfl (fun i v u hv hu => ?_)).mono fun e W' ⟨he, bel⟩ => ?_
  · match i with
    | 0 => simp at hv hu; subst hv; subst hu; exact rs0
    | 1 => simp at hv hu; subst hv; subst hu; exact rs1
    | 2 => simp at hv hu; subst hv; subst hu; exact rs2
    | i + 3 => simp at hv
  subst he
  exact ⟨_, rfl, _, _, _, [], _, [], hW', trodAll_mk1 (shut_bool Try.underlying4 _), (trodAll_cons_mk (Below.trod laidOut (by kernel_rfl) (of_decide_eq_true (by kernel_rfl)) k0 bel lt0) (trodAll_cons_mk (Below.trod laidOut (by kernel_rfl) (of_decide_eq_true (by kernel_rfl)) k1 bel lt1) (trodAll_cons_mk (Below.trod laidOut (by kernel_rfl) (of_decide_eq_true (by kernel_rfl)) k2 bel lt2) trodAll_mk0))), rfl, bel.frame _, fun h => by cases h⟩
theorem fact1 : Try.prog.inPlace 16 = Rows.fnExactPointsLostRow.inPlace := by kernel_rfl
theorem fact2 : Try.prog.unfollowed 16 = true := by kernel_rfl
theorem fact3 : Try.prog.recurses 16 = true := by unfold Program.recurses; rw [fact2]; rfl
theorem fact4 : Try.prog.varsNamed 16 = [] := by kernel_rfl
theorem closed : joinedFacts Try.prog 16 Try.f16 Rows.fnExactPointsLostSpec Rows.fnExactPointsLostRow = true := by
  unfold joinedFacts
  rw [fact1, fact2, fact3, fact4, Facts.mayEnter, Facts.lifts, Facts.laid, Facts.rowed, Facts.heard, show (Try.prog.make == some Rows.fnExactPointsLostRow.make) = true from Facts.make]
  kernel_rfl
theorem over : Rows.fnExactPointsLostRow.holds Try.pinned (OpenSpec.ofChange Rows.fnExactPointsLostSpec) :=
  OpenClaim.holds_of_wide 16 Try.f16 rfl rfl rfl rfl rfl rfl rfl ⟨rfl, rfl, rfl, rfl, rfl⟩ rfl rfl rfl rfl rfl (by kernel_rfl) Try.func16 closed
    (of_decide_eq_true (by kernel_rfl)) (by unfold Func.isWrapper; first | (rw [if_pos (by decide +kernel)]; kernel_rfl) | (rw [if_neg (by decide +kernel)]; exact ⟨rfl, rfl⟩))
    (fun os started H enc _ => lifted os started H enc)
end Go.Proofs.Ytahdgiaddhoaoaa.fnExactPointsLost
namespace Go.Proofs.Ytahdgiaddhoaoaa
theorem fnExactPointsLost_holds : Rows.FnExactPointsLostSaid := fnExactPointsLost.over
#print axioms fnExactPointsLost_holds
end Go.Proofs.Ytahdgiaddhoaoaa
