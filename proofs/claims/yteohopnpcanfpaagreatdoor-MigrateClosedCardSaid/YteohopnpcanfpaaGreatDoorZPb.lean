/- Part of the proofs over this seat: MCb. -/
import Derived.Test.YteohopnpcanfpaaGreatDoorZPa
import Derived.Test.YteohopnpcanfpaaGreatDoorZMd
set_option maxRecDepth 100000
namespace Go.Proofs.YteohopnpcanfpaaGreatDoor
open Go Go.Pv Go.RowKit Go.ChangeShapes Go.WideShapes Go.ChangeAt
theorem migrateClosed_q10 : (Rows.migrateClosedRow.inPlace == Q.inPlace 14) = true := by kernel_rfl
theorem migrateClosed_q11 : (Rows.migrateClosedRow.unfollowed == Q.unfollowed 14) = true := by kernel_rfl
theorem migrateClosed_q12 : (Rows.migrateClosedRow.recurses == Q.recurses 14) = true := by kernel_rfl
theorem migrateClosed_q13 : (Rows.migrateClosedRow.named == Q.varsNamed 14) = true := by kernel_rfl
theorem migrateClosed_a : joinedFacts Q 14 Tryz.f14 Rows.migrateClosedSpec Rows.migrateClosedRow = true := by
  unfold joinedFacts
  refine and2 (and2 (and2 (and2 (and2 (and2 (and2 (and2 (and2 (and2 (and2 (and2 (and2 (and2 (and2 (and2 (and2 (and2 (and2 (and2 (and2 (and2 (and2 (and2 (and2 (and2 (and2 (and2 (and2 (and2 (and2 ?_ q2) q3) ?_) ?_) ?_) q7) ?_) q9) migrateClosed_q10) migrateClosed_q11) migrateClosed_q12) migrateClosed_q13) ?_) ?_) ?_) ?_) ?_) ?_) ?_) ?_) ?_) ?_) ?_) q25) q26) q27) q28) ?_) ?_) ?_) ?_
  all_goals as_aux_lemma => kernel_rfl
theorem migrateClosed_fn : Q.funcNamed "cleanse/cleanselaw43.MigrateClosed" = some 14 := by kernel_rfl
theorem migrateClosed_inst : Tryz.f14.isInstance Q Rows.migrateClosedRow.origin Rows.migrateClosedRow.targs := of_decide_eq_true (by kernel_rfl)
theorem migrateClosed_wrap : Tryz.f14.isWrapper Q Rows.migrateClosedRow.wrapper Rows.migrateClosedRow.mainSum := by
  unfold Func.isWrapper; first | (rw [if_pos (by decide +kernel)]; kernel_rfl) | (rw [if_neg (by decide +kernel)]; exact ⟨rfl, rfl⟩)
theorem migrateClosed_holds : Rows.MigrateClosedSaid :=
  OpenClaim.holds_of_wide 14 Tryz.f14 rfl rfl rfl rfl rfl rfl rfl ⟨rfl, rfl, rfl, rfl, rfl⟩ rfl rfl rfl rfl rfl migrateClosed_fn Tryz.func14 migrateClosed_a migrateClosed_inst migrateClosed_wrap
    (fun os started H enc _ => migrateClosed_lifted os started H enc)
end Go.Proofs.YteohopnpcanfpaaGreatDoor
