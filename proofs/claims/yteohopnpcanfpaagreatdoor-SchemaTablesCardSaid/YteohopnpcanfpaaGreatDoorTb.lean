/- Part of the proofs over this seat: RTb. -/
import Derived.Test.YteohopnpcanfpaaGreatDoorTa
import Derived.Test.YteohopnpcanfpaaGreatDoorRd
set_option maxRecDepth 100000
namespace Go.Proofs.YteohopnpcanfpaaGreatDoor
open Go Go.Pv Go.RowKit Go.ChangeShapes Go.WideShapes Go.ChangeAt
theorem schemaTables_q10 : (Rows.schemaTablesRow.inPlace == Q.inPlace 8) = true := by kernel_rfl
theorem schemaTables_q11 : (Rows.schemaTablesRow.unfollowed == Q.unfollowed 8) = true := by kernel_rfl
theorem schemaTables_q12 : (Rows.schemaTablesRow.recurses == Q.recurses 8) = true := by kernel_rfl
theorem schemaTables_q13 : (Rows.schemaTablesRow.named == Q.varsNamed 8) = true := by kernel_rfl
theorem schemaTables_a : joinedFacts Q 8 Tryz.f8 Rows.schemaTablesSpec Rows.schemaTablesRow = true := by
  unfold joinedFacts
  refine and2 (and2 (and2 (and2 (and2 (and2 (and2 (and2 (and2 (and2 (and2 (and2 (and2 (and2 (and2 (and2 (and2 (and2 (and2 (and2 (and2 (and2 (and2 (and2 (and2 (and2 (and2 (and2 (and2 (and2 (and2 ?_ q2) q3) ?_) ?_) ?_) q7) ?_) q9) schemaTables_q10) schemaTables_q11) schemaTables_q12) schemaTables_q13) ?_) ?_) ?_) ?_) ?_) ?_) ?_) ?_) ?_) ?_) ?_) q25) q26) q27) q28) ?_) ?_) ?_) ?_
  all_goals as_aux_lemma => kernel_rfl
theorem schemaTables_fn : Q.funcNamed "cleanse/cleanselaw06.SchemaTables" = some 8 := by kernel_rfl
theorem schemaTables_inst : Tryz.f8.isInstance Q Rows.schemaTablesRow.origin Rows.schemaTablesRow.targs := of_decide_eq_true (by kernel_rfl)
theorem schemaTables_wrap : Tryz.f8.isWrapper Q Rows.schemaTablesRow.wrapper Rows.schemaTablesRow.mainSum := by
  unfold Func.isWrapper; first | (rw [if_pos (by decide +kernel)]; kernel_rfl) | (rw [if_neg (by decide +kernel)]; exact ⟨rfl, rfl⟩)
theorem schemaTables_holds : Rows.SchemaTablesSaid :=
  OpenClaim.holds_of_wide 8 Tryz.f8 rfl rfl rfl rfl rfl rfl rfl ⟨rfl, rfl, rfl, rfl, rfl⟩ rfl rfl rfl rfl rfl schemaTables_fn Tryz.func8 schemaTables_a schemaTables_inst schemaTables_wrap
    (fun os started H enc _ => schemaTables_lifted os started H enc)
end Go.Proofs.YteohopnpcanfpaaGreatDoor
