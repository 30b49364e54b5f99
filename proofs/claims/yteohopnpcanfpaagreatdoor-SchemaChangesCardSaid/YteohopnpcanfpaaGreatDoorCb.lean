/- Part of the proofs over this seat: RCb. -/
import Derived.Test.YteohopnpcanfpaaGreatDoorCa
import Derived.Test.YteohopnpcanfpaaGreatDoorRd
set_option maxRecDepth 100000
namespace Go.Proofs.YteohopnpcanfpaaGreatDoor
open Go Go.Pv Go.RowKit Go.ChangeShapes Go.WideShapes Go.ChangeAt
theorem schemaChanges_q10 : (Rows.schemaChangesRow.inPlace == Q.inPlace 4) = true := by kernel_rfl
theorem schemaChanges_q11 : (Rows.schemaChangesRow.unfollowed == Q.unfollowed 4) = true := by kernel_rfl
theorem schemaChanges_q12 : (Rows.schemaChangesRow.recurses == Q.recurses 4) = true := by kernel_rfl
theorem schemaChanges_q13 : (Rows.schemaChangesRow.named == Q.varsNamed 4) = true := by kernel_rfl
theorem schemaChanges_a : joinedFacts Q 4 Tryz.f4 Rows.schemaChangesSpec Rows.schemaChangesRow = true := by
  unfold joinedFacts
  refine and2 (and2 (and2 (and2 (and2 (and2 (and2 (and2 (and2 (and2 (and2 (and2 (and2 (and2 (and2 (and2 (and2 (and2 (and2 (and2 (and2 (and2 (and2 (and2 (and2 (and2 (and2 (and2 (and2 (and2 (and2 ?_ q2) q3) ?_) ?_) ?_) q7) ?_) q9) schemaChanges_q10) schemaChanges_q11) schemaChanges_q12) schemaChanges_q13) ?_) ?_) ?_) ?_) ?_) ?_) ?_) ?_) ?_) ?_) ?_) q25) q26) q27) q28) ?_) ?_) ?_) ?_
  all_goals as_aux_lemma => kernel_rfl
theorem schemaChanges_fn : Q.funcNamed "cleanse/cleanselaw06.SchemaChanges" = some 4 := by kernel_rfl
theorem schemaChanges_inst : Tryz.f4.isInstance Q Rows.schemaChangesRow.origin Rows.schemaChangesRow.targs := of_decide_eq_true (by kernel_rfl)
theorem schemaChanges_wrap : Tryz.f4.isWrapper Q Rows.schemaChangesRow.wrapper Rows.schemaChangesRow.mainSum := by
  unfold Func.isWrapper; first | (rw [if_pos (by decide +kernel)]; kernel_rfl) | (rw [if_neg (by decide +kernel)]; exact ⟨rfl, rfl⟩)
theorem schemaChanges_holds : Rows.SchemaChangesSaid :=
  OpenClaim.holds_of_wide 4 Tryz.f4 rfl rfl rfl rfl rfl rfl rfl ⟨rfl, rfl, rfl, rfl, rfl⟩ rfl rfl rfl rfl rfl schemaChanges_fn Tryz.func4 schemaChanges_a schemaChanges_inst schemaChanges_wrap
    (fun os started H enc _ => schemaChanges_lifted os started H enc)
end Go.Proofs.YteohopnpcanfpaaGreatDoor
