/- Part of the proofs over this seat: MVb. -/
import Derived.Test.YteohopnpcanfpaaGreatDoorZQa
import Derived.Test.YteohopnpcanfpaaGreatDoorZMd
set_option maxRecDepth 100000
namespace Go.Proofs.YteohopnpcanfpaaGreatDoor
open Go Go.Pv Go.RowKit Go.ChangeShapes Go.WideShapes Go.ChangeAt
theorem migrateValid_q10 : (Rows.migrateValidRow.inPlace == Q.inPlace 13) = true := by kernel_rfl
theorem migrateValid_q11 : (Rows.migrateValidRow.unfollowed == Q.unfollowed 13) = true := by kernel_rfl
theorem migrateValid_q12 : (Rows.migrateValidRow.recurses == Q.recurses 13) = true := by kernel_rfl
theorem migrateValid_q13 : (Rows.migrateValidRow.named == Q.varsNamed 13) = true := by kernel_rfl
theorem migrateValid_a : joinedFacts Q 13 Tryz.f13 Rows.migrateValidSpec Rows.migrateValidRow = true := by
  unfold joinedFacts
  refine and2 (and2 (and2 (and2 (and2 (and2 (and2 (and2 (and2 (and2 (and2 (and2 (and2 (and2 (and2 (and2 (and2 (and2 (and2 (and2 (and2 (and2 (and2 (and2 (and2 (and2 (and2 (and2 (and2 (and2 (and2 ?_ q2) q3) ?_) ?_) ?_) q7) ?_) q9) migrateValid_q10) migrateValid_q11) migrateValid_q12) migrateValid_q13) ?_) ?_) ?_) ?_) ?_) ?_) ?_) ?_) ?_) ?_) ?_) q25) q26) q27) q28) ?_) ?_) ?_) ?_
  all_goals as_aux_lemma => kernel_rfl
theorem migrateValid_fn : Q.funcNamed "cleanse/cleanselaw43.MigrateValid" = some 13 := by kernel_rfl
theorem migrateValid_inst : Tryz.f13.isInstance Q Rows.migrateValidRow.origin Rows.migrateValidRow.targs := of_decide_eq_true (by kernel_rfl)
theorem migrateValid_wrap : Tryz.f13.isWrapper Q Rows.migrateValidRow.wrapper Rows.migrateValidRow.mainSum := by
  unfold Func.isWrapper; first | (rw [if_pos (by decide +kernel)]; kernel_rfl) | (rw [if_neg (by decide +kernel)]; exact ⟨rfl, rfl⟩)
theorem migrateValid_holds : Rows.MigrateValidSaid :=
  OpenClaim.holds_of_wide 13 Tryz.f13 rfl rfl rfl rfl rfl rfl rfl ⟨rfl, rfl, rfl, rfl, rfl⟩ rfl rfl rfl rfl rfl migrateValid_fn Tryz.func13 migrateValid_a migrateValid_inst migrateValid_wrap
    (fun os started H enc _ => migrateValid_lifted os started H enc)
end Go.Proofs.YteohopnpcanfpaaGreatDoor
