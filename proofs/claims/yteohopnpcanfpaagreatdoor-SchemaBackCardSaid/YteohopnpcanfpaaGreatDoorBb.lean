/- Part of the proofs over this seat: RBb. -/
import Derived.Test.YteohopnpcanfpaaGreatDoorBa
import Derived.Test.YteohopnpcanfpaaGreatDoorRd
set_option maxRecDepth 100000
namespace Go.Proofs.YteohopnpcanfpaaGreatDoor
open Go Go.Pv Go.RowKit Go.ChangeShapes Go.WideShapes Go.ChangeAt
theorem schemaBack_q10 : (Rows.schemaBackRow.inPlace == Q.inPlace 7) = true := by kernel_rfl
theorem schemaBack_q11 : (Rows.schemaBackRow.unfollowed == Q.unfollowed 7) = true := by kernel_rfl
theorem schemaBack_q12 : (Rows.schemaBackRow.recurses == Q.recurses 7) = true := by kernel_rfl
theorem schemaBack_q13 : (Rows.schemaBackRow.named == Q.varsNamed 7) = true := by kernel_rfl
theorem schemaBack_a : joinedFacts Q 7 Tryz.f7 Rows.schemaBackSpec Rows.schemaBackRow = true := by
  unfold joinedFacts
  refine and2 (and2 (and2 (and2 (and2 (and2 (and2 (and2 (and2 (and2 (and2 (and2 (and2 (and2 (and2 (and2 (and2 (and2 (and2 (and2 (and2 (and2 (and2 (and2 (and2 (and2 (and2 (and2 (and2 (and2 (and2 ?_ q2) q3) ?_) ?_) ?_) q7) ?_) q9) schemaBack_q10) schemaBack_q11) schemaBack_q12) schemaBack_q13) ?_) ?_) ?_) ?_) ?_) ?_) ?_) ?_) ?_) ?_) ?_) q25) q26) q27) q28) ?_) ?_) ?_) ?_
  all_goals as_aux_lemma => kernel_rfl
theorem schemaBack_fn : Q.funcNamed "cleanse/cleanselaw06.SchemaBack" = some 7 := by kernel_rfl
theorem schemaBack_inst : Tryz.f7.isInstance Q Rows.schemaBackRow.origin Rows.schemaBackRow.targs := of_decide_eq_true (by kernel_rfl)
theorem schemaBack_wrap : Tryz.f7.isWrapper Q Rows.schemaBackRow.wrapper Rows.schemaBackRow.mainSum := by
  unfold Func.isWrapper; first | (rw [if_pos (by decide +kernel)]; kernel_rfl) | (rw [if_neg (by decide +kernel)]; exact ⟨rfl, rfl⟩)
theorem schemaBack_holds : Rows.SchemaBackSaid :=
  OpenClaim.holds_of_wide 7 Tryz.f7 rfl rfl rfl rfl rfl rfl rfl ⟨rfl, rfl, rfl, rfl, rfl⟩ rfl rfl rfl rfl rfl schemaBack_fn Tryz.func7 schemaBack_a schemaBack_inst schemaBack_wrap
    (fun os started H enc _ => schemaBack_lifted os started H enc)
end Go.Proofs.YteohopnpcanfpaaGreatDoor
