/- Part of the proofs over this seat: MNb. -/
import Derived.Test.YteohopnpcanfpaaGreatDoorZNa
import Derived.Test.YteohopnpcanfpaaGreatDoorZMd
set_option maxRecDepth 100000
namespace Go.Proofs.YteohopnpcanfpaaGreatDoor
open Go Go.Pv Go.RowKit Go.ChangeShapes Go.WideShapes Go.ChangeAt
theorem migrateNothing_q10 : (Rows.migrateNothingRow.inPlace == Q.inPlace 11) = true := by kernel_rfl
theorem migrateNothing_q11 : (Rows.migrateNothingRow.unfollowed == Q.unfollowed 11) = true := by kernel_rfl
theorem migrateNothing_q12 : (Rows.migrateNothingRow.recurses == Q.recurses 11) = true := by kernel_rfl
theorem migrateNothing_q13 : (Rows.migrateNothingRow.named == Q.varsNamed 11) = true := by kernel_rfl
theorem migrateNothing_a : joinedFacts Q 11 Tryz.f11 Rows.migrateNothingSpec Rows.migrateNothingRow = true := by
  unfold joinedFacts
  refine and2 (and2 (and2 (and2 (and2 (and2 (and2 (and2 (and2 (and2 (and2 (and2 (and2 (and2 (and2 (and2 (and2 (and2 (and2 (and2 (and2 (and2 (and2 (and2 (and2 (and2 (and2 (and2 (and2 (and2 (and2 ?_ q2) q3) ?_) ?_) ?_) q7) ?_) q9) migrateNothing_q10) migrateNothing_q11) migrateNothing_q12) migrateNothing_q13) ?_) ?_) ?_) ?_) ?_) ?_) ?_) ?_) ?_) ?_) ?_) q25) q26) q27) q28) ?_) ?_) ?_) ?_
  all_goals as_aux_lemma => kernel_rfl
theorem migrateNothing_fn : Q.funcNamed "cleanse/cleanselaw43.MigrateNothing" = some 11 := by kernel_rfl
theorem migrateNothing_inst : Tryz.f11.isInstance Q Rows.migrateNothingRow.origin Rows.migrateNothingRow.targs := of_decide_eq_true (by kernel_rfl)
theorem migrateNothing_wrap : Tryz.f11.isWrapper Q Rows.migrateNothingRow.wrapper Rows.migrateNothingRow.mainSum := by
  unfold Func.isWrapper; first | (rw [if_pos (by decide +kernel)]; kernel_rfl) | (rw [if_neg (by decide +kernel)]; exact ⟨rfl, rfl⟩)
theorem migrateNothing_holds : Rows.MigrateNothingSaid :=
  OpenClaim.holds_of_wide 11 Tryz.f11 rfl rfl rfl rfl rfl rfl rfl ⟨rfl, rfl, rfl, rfl, rfl⟩ rfl rfl rfl rfl rfl migrateNothing_fn Tryz.func11 migrateNothing_a migrateNothing_inst migrateNothing_wrap
    (fun os started H enc _ => migrateNothing_lifted os started H enc)
end Go.Proofs.YteohopnpcanfpaaGreatDoor
