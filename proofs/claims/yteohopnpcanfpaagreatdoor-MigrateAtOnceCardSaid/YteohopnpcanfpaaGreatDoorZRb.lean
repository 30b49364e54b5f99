/- Part of the proofs over this seat: MAb. -/
import Derived.Test.YteohopnpcanfpaaGreatDoorZRa
import Derived.Test.YteohopnpcanfpaaGreatDoorZMd
set_option maxRecDepth 100000
namespace Go.Proofs.YteohopnpcanfpaaGreatDoor
open Go Go.Pv Go.RowKit Go.ChangeShapes Go.WideShapes Go.ChangeAt
theorem migrateAtOnce_q10 : (Rows.migrateAtOnceRow.inPlace == Q.inPlace 10) = true := by kernel_rfl
theorem migrateAtOnce_q11 : (Rows.migrateAtOnceRow.unfollowed == Q.unfollowed 10) = true := by kernel_rfl
theorem migrateAtOnce_q12 : (Rows.migrateAtOnceRow.recurses == Q.recurses 10) = true := by kernel_rfl
theorem migrateAtOnce_q13 : (Rows.migrateAtOnceRow.named == Q.varsNamed 10) = true := by kernel_rfl
theorem migrateAtOnce_a : joinedFacts Q 10 Tryz.f10 Rows.migrateAtOnceSpec Rows.migrateAtOnceRow = true := by
  unfold joinedFacts
  refine and2 (and2 (and2 (and2 (and2 (and2 (and2 (and2 (and2 (and2 (and2 (and2 (and2 (and2 (and2 (and2 (and2 (and2 (and2 (and2 (and2 (and2 (and2 (and2 (and2 (and2 (and2 (and2 (and2 (and2 (and2 ?_ q2) q3) ?_) ?_) ?_) q7) ?_) q9) migrateAtOnce_q10) migrateAtOnce_q11) migrateAtOnce_q12) migrateAtOnce_q13) ?_) ?_) ?_) ?_) ?_) ?_) ?_) ?_) ?_) ?_) ?_) q25) q26) q27) q28) ?_) ?_) ?_) ?_
  all_goals as_aux_lemma => kernel_rfl
theorem migrateAtOnce_fn : Q.funcNamed "cleanse/cleanselaw43.MigrateAtOnce" = some 10 := by kernel_rfl
theorem migrateAtOnce_inst : Tryz.f10.isInstance Q Rows.migrateAtOnceRow.origin Rows.migrateAtOnceRow.targs := of_decide_eq_true (by kernel_rfl)
theorem migrateAtOnce_wrap : Tryz.f10.isWrapper Q Rows.migrateAtOnceRow.wrapper Rows.migrateAtOnceRow.mainSum := by
  unfold Func.isWrapper; first | (rw [if_pos (by decide +kernel)]; kernel_rfl) | (rw [if_neg (by decide +kernel)]; exact ⟨rfl, rfl⟩)
theorem migrateAtOnce_holds : Rows.MigrateAtOnceSaid :=
  OpenClaim.holds_of_wide 10 Tryz.f10 rfl rfl rfl rfl rfl rfl rfl ⟨rfl, rfl, rfl, rfl, rfl⟩ rfl rfl rfl rfl rfl migrateAtOnce_fn Tryz.func10 migrateAtOnce_a migrateAtOnce_inst migrateAtOnce_wrap
    (fun os started H enc _ => migrateAtOnce_lifted os started H enc)
end Go.Proofs.YteohopnpcanfpaaGreatDoor
