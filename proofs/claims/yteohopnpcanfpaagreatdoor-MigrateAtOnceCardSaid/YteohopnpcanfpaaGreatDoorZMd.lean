/- Part of the proofs over this seat: R3. -/
import Derived.Test.YteohopnpcanfpaaGreatDoorZMb
set_option maxRecDepth 100000
namespace Go.Proofs.YteohopnpcanfpaaGreatDoor
open Go Go.Pv Go.RowKit Go.ChangeShapes Go.WideShapes Go.ChangeAt
noncomputable abbrev Q : Program := Tryz.pinned.checked.prog
theorem and2 {a b : Bool} (h : a = true) (k : b = true) : (a && b) = true := by rw [h, k]; rfl
theorem q2 : laidOutB Q = true := by kernel_rfl
theorem q3 : mapsRowed Q = true := by kernel_rfl
theorem q7 : (Q.stops == []) = true := by kernel_rfl
theorem q9 : (Q.stopKnobs == []) = true := by kernel_rfl
theorem q23 : Q.plainKeys = true := by kernel_rfl
theorem q25 : Q.stopsHeard = true := by kernel_rfl
theorem q26 : Q.mayEnter = true := by kernel_rfl
theorem q27 : (Rows.schemaChangesRow.lifted == Q.liftsFinal) = true := by kernel_rfl
theorem q28 : (Q.make == some Rows.schemaChangesRow.make) = true := by kernel_rfl
end Go.Proofs.YteohopnpcanfpaaGreatDoor
