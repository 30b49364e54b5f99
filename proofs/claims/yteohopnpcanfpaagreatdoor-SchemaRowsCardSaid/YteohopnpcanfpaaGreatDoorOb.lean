/- Part of the proofs over this seat: RRb. -/
import Derived.Test.YteohopnpcanfpaaGreatDoorOa
import Derived.Test.YteohopnpcanfpaaGreatDoorRd
set_option maxRecDepth 100000
namespace Go.Proofs.YteohopnpcanfpaaGreatDoor
open Go Go.Pv Go.RowKit Go.ChangeShapes Go.WideShapes Go.ChangeAt
theorem schemaRows_q10 : (Rows.schemaRowsRow.inPlace == Q.inPlace 6) = true := by kernel_rfl
theorem schemaRows_q11 : (Rows.schemaRowsRow.unfollowed == Q.unfollowed 6) = true := by kernel_rfl
theorem schemaRows_q12 : (Rows.schemaRowsRow.recurses == Q.recurses 6) = true := by kernel_rfl
theorem schemaRows_q13 : (Rows.schemaRowsRow.named == Q.varsNamed 6) = true := by kernel_rfl
theorem schemaRows_a : joinedFacts Q 6 Tryz.f6 Rows.schemaRowsSpec Rows.schemaRowsRow = true := by
  unfold joinedFacts
  refine and2 (and2 (and2 (and2 (and2 (and2 (and2 (and2 (and2 (and2 (and2 (and2 (and2 (and2 (and2 (and2 (and2 (and2 (and2 (and2 (and2 (and2 (and2 (and2 (and2 (and2 (and2 (and2 (and2 (and2 (and2 ?_ q2) q3) ?_) ?_) ?_) q7) ?_) q9) schemaRows_q10) schemaRows_q11) schemaRows_q12) schemaRows_q13) ?_) ?_) ?_) ?_) ?_) ?_) ?_) ?_) ?_) ?_) ?_) q25) q26) q27) q28) ?_) ?_) ?_) ?_
  all_goals as_aux_lemma => kernel_rfl
theorem schemaRows_fn : Q.funcNamed "cleanse/cleanselaw06.SchemaRows" = some 6 := by kernel_rfl
theorem schemaRows_inst : Tryz.f6.isInstance Q Rows.schemaRowsRow.origin Rows.schemaRowsRow.targs := of_decide_eq_true (by kernel_rfl)
theorem schemaRows_wrap : Tryz.f6.isWrapper Q Rows.schemaRowsRow.wrapper Rows.schemaRowsRow.mainSum := by
  unfold Func.isWrapper; first | (rw [if_pos (by decide +kernel)]; kernel_rfl) | (rw [if_neg (by decide +kernel)]; exact ⟨rfl, rfl⟩)
theorem schemaRows_holds : Rows.SchemaRowsSaid :=
  OpenClaim.holds_of_wide 6 Tryz.f6 rfl rfl rfl rfl rfl rfl rfl ⟨rfl, rfl, rfl, rfl, rfl⟩ rfl rfl rfl rfl rfl schemaRows_fn Tryz.func6 schemaRows_a schemaRows_inst schemaRows_wrap
    (fun os started H enc _ => schemaRows_lifted os started H enc)
end Go.Proofs.YteohopnpcanfpaaGreatDoor
