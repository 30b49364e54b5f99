/- Part of the proofs over this seat: MSb. -/
import Derived.Test.YteohopnpcanfpaaGreatDoorZOa
import Derived.Test.YteohopnpcanfpaaGreatDoorZMd
set_option maxRecDepth 100000
namespace Go.Proofs.YteohopnpcanfpaaGreatDoor
open Go Go.Pv Go.RowKit Go.ChangeShapes Go.WideShapes Go.ChangeAt
theorem migrateSteps_q10 : (Rows.migrateStepsRow.inPlace == Q.inPlace 12) = true := by kernel_rfl
theorem migrateSteps_q11 : (Rows.migrateStepsRow.unfollowed == Q.unfollowed 12) = true := by kernel_rfl
theorem migrateSteps_q12 : (Rows.migrateStepsRow.recurses == Q.recurses 12) = true := by kernel_rfl
theorem migrateSteps_q13 : (Rows.migrateStepsRow.named == Q.varsNamed 12) = true := by kernel_rfl
theorem migrateSteps_a : joinedFacts Q 12 Tryz.f12 Rows.migrateStepsSpec Rows.migrateStepsRow = true := by
  unfold joinedFacts
  refine and2 (and2 (and2 (and2 (and2 (and2 (and2 (and2 (and2 (and2 (and2 (and2 (and2 (and2 (and2 (and2 (and2 (and2 (and2 (and2 (and2 (and2 (and2 (and2 (and2 (and2 (and2 (and2 (and2 (and2 (and2 ?_ q2) q3) ?_) ?_) ?_) q7) ?_) q9) migrateSteps_q10) migrateSteps_q11) migrateSteps_q12) migrateSteps_q13) ?_) ?_) ?_) ?_) ?_) ?_) ?_) ?_) ?_) ?_) ?_) q25) q26) q27) q28) ?_) ?_) ?_) ?_
  all_goals as_aux_lemma => kernel_rfl
theorem migrateSteps_fn : Q.funcNamed "cleanse/cleanselaw43.MigrateSteps" = some 12 := by kernel_rfl
theorem migrateSteps_inst : Tryz.f12.isInstance Q Rows.migrateStepsRow.origin Rows.migrateStepsRow.targs := of_decide_eq_true (by kernel_rfl)
theorem migrateSteps_wrap : Tryz.f12.isWrapper Q Rows.migrateStepsRow.wrapper Rows.migrateStepsRow.mainSum := by
  unfold Func.isWrapper; first | (rw [if_pos (by decide +kernel)]; kernel_rfl) | (rw [if_neg (by decide +kernel)]; exact ⟨rfl, rfl⟩)
theorem migrateSteps_holds : Rows.MigrateStepsSaid :=
  OpenClaim.holds_of_wide 12 Tryz.f12 rfl rfl rfl rfl rfl rfl rfl ⟨rfl, rfl, rfl, rfl, rfl⟩ rfl rfl rfl rfl rfl migrateSteps_fn Tryz.func12 migrateSteps_a migrateSteps_inst migrateSteps_wrap
    (fun os started H enc _ => migrateSteps_lifted os started H enc)
end Go.Proofs.YteohopnpcanfpaaGreatDoor
