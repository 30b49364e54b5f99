/- For all its arguments, the law cleanselaw43.MigrateNothing returns true, and its arguments read behind the call as they read before: the tied card of the statement. Its conditions are the card's own: the five listed library variables start as the program's text lays them. -/
import Derived.Test.YteohopnpcanfpaaGreatDoorZNb
set_option maxRecDepth 100000
namespace Go.Proofs.YteohopnpcanfpaaGreatDoor
open Go Go.Pv Go.RowKit Go.ChangeShapes Go.WideShapes Go.ChangeAt
theorem migrateNothing_mainIs : Q.mainIs = some (true, "05ce747e7a4f74ffe8885c1ba21601b2df627043328f3ccbf574d43a87356883".toList) := by kernel_rfl
theorem migrateNothing_looks : true = Q.looks [] := by kernel_rfl
theorem migrateNothing_stand24 : Tryz.prog.wantsStandIn 24 = false := by kernel_rfl
theorem migrateNothing_stand28 : Tryz.prog.wantsStandIn 28 = false := by kernel_rfl
theorem migrateNothing_stand58 : Tryz.prog.wantsStandIn 58 = false := by kernel_rfl
theorem migrateNothing_stand59 : Tryz.prog.wantsStandIn 59 = false := by kernel_rfl
theorem migrateNothing_wf : Rows.migrateNothingRow.wfByText (OpenSpec.ofChange Rows.migrateNothingSpec) = true := by kernel_rfl
theorem migrateNothing_goes : false = Rows.migrateNothingRow.goesBy Q := by kernel_rfl
theorem migrateNothing_card : Rows.MigrateNothingCardSaid :=
  Claim7.holds_tied_plain_at .later [] [.data, .data, .data, .sentinel, .sentinel] true (true, "05ce747e7a4f74ffe8885c1ba21601b2df627043328f3ccbf574d43a87356883") true
    migrateNothing_holds (fun _ h => by cases h) migrateNothing_wf (fun _ h => by cases h) migrateNothing_row_tie rfl ⟨rfl, rfl⟩ migrateNothing_mainIs rfl
    (fun f fn hf hfn => by
      obtain rfl : f = 11 := Option.some.inj (migrateNothing_fn.symm.trans hf) |>.symm
      obtain rfl : fn = Tryz.f11 := (Option.some.inj (Tryz.func11.symm.trans hfn)).symm
      exact ⟨migrateNothing_looks, fun j t ht => by
        rw [Tryz.params11] at ht
        have h3 : t ∈ [24, 28, 58, 59] := by simpa using Array.mem_of_getElem? ht
        simp only [List.mem_cons, List.mem_nil_iff, or_false] at h3
        rcases h3 with rfl | rfl | rfl | rfl
        · exact migrateNothing_stand24
        · exact migrateNothing_stand28
        · exact migrateNothing_stand58
        · exact migrateNothing_stand59⟩)
    migrateNothing_goes
end Go.Proofs.YteohopnpcanfpaaGreatDoor
