/- Part of the proofs over this seat: RNb. -/
import Derived.Test.YteohopnpcanfpaaGreatDoorNa
import Derived.Test.YteohopnpcanfpaaGreatDoorRd
set_option maxRecDepth 100000
namespace Go.Proofs.YteohopnpcanfpaaGreatDoor
open Go Go.Pv Go.RowKit Go.ChangeShapes Go.WideShapes Go.ChangeAt
theorem schemaNames_q10 : (Rows.schemaNamesRow.inPlace == Q.inPlace 5) = true := by kernel_rfl
theorem schemaNames_q11 : (Rows.schemaNamesRow.unfollowed == Q.unfollowed 5) = true := by kernel_rfl
theorem schemaNames_q12 : (Rows.schemaNamesRow.recurses == Q.recurses 5) = true := by kernel_rfl
theorem schemaNames_q13 : (Rows.schemaNamesRow.named == Q.varsNamed 5) = true := by kernel_rfl
theorem schemaNames_a : joinedFacts Q 5 Tryz.f5 Rows.schemaNamesSpec Rows.schemaNamesRow = true := by
  unfold joinedFacts
  refine and2 (and2 (and2 (and2 (and2 (and2 (and2 (and2 (and2 (and2 (and2 (and2 (and2 (and2 (and2 (and2 (and2 (and2 (and2 (and2 (and2 (and2 (and2 (and2 (and2 (and2 (and2 (and2 (and2 (and2 (and2 ?_ q2) q3) ?_) ?_) ?_) q7) ?_) q9) schemaNames_q10) schemaNames_q11) schemaNames_q12) schemaNames_q13) ?_) ?_) ?_) ?_) ?_) ?_) ?_) ?_) ?_) ?_) ?_) q25) q26) q27) q28) ?_) ?_) ?_) ?_
  all_goals as_aux_lemma => kernel_rfl
theorem schemaNames_fn : Q.funcNamed "cleanse/cleanselaw06.SchemaNames" = some 5 := by kernel_rfl
theorem schemaNames_inst : Tryz.f5.isInstance Q Rows.schemaNamesRow.origin Rows.schemaNamesRow.targs := of_decide_eq_true (by kernel_rfl)
theorem schemaNames_wrap : Tryz.f5.isWrapper Q Rows.schemaNamesRow.wrapper Rows.schemaNamesRow.mainSum := by
  unfold Func.isWrapper; first | (rw [if_pos (by decide +kernel)]; kernel_rfl) | (rw [if_neg (by decide +kernel)]; exact ⟨rfl, rfl⟩)
theorem schemaNames_holds : Rows.SchemaNamesSaid :=
  OpenClaim.holds_of_wide 5 Tryz.f5 rfl rfl rfl rfl rfl rfl rfl ⟨rfl, rfl, rfl, rfl, rfl⟩ rfl rfl rfl rfl rfl schemaNames_fn Tryz.func5 schemaNames_a schemaNames_inst schemaNames_wrap
    (fun os started H enc _ => schemaNames_lifted os started H enc)
end Go.Proofs.YteohopnpcanfpaaGreatDoor
