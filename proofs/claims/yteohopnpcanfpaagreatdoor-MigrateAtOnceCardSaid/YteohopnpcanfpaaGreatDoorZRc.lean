/- For all its arguments, the law cleanselaw43.MigrateAtOnce returns true, and its arguments read behind the call as they read before: the tied card of the statement. Its conditions are the card's own: the five listed library variables start as the program's text lays them. -/
import Derived.Test.YteohopnpcanfpaaGreatDoorZRb
set_option maxRecDepth 100000
namespace Go.Proofs.YteohopnpcanfpaaGreatDoor
open Go Go.Pv Go.RowKit Go.ChangeShapes Go.WideShapes Go.ChangeAt
theorem migrateAtOnce_mainIs : Q.mainIs = some (true, "05ce747e7a4f74ffe8885c1ba21601b2df627043328f3ccbf574d43a87356883".toList) := by kernel_rfl
theorem migrateAtOnce_looks : true = Q.looks [] := by kernel_rfl
theorem migrateAtOnce_stand24 : Tryz.prog.wantsStandIn 24 = false := by kernel_rfl
theorem migrateAtOnce_stand28 : Tryz.prog.wantsStandIn 28 = false := by kernel_rfl
theorem migrateAtOnce_stand58 : Tryz.prog.wantsStandIn 58 = false := by kernel_rfl
theorem migrateAtOnce_stand59 : Tryz.prog.wantsStandIn 59 = false := by kernel_rfl
theorem migrateAtOnce_wf : Rows.migrateAtOnceRow.wfByText (OpenSpec.ofChange Rows.migrateAtOnceSpec) = true := by kernel_rfl
theorem migrateAtOnce_goes : false = Rows.migrateAtOnceRow.goesBy Q := by kernel_rfl
theorem migrateAtOnce_card : Rows.MigrateAtOnceCardSaid :=
  Claim7.holds_tied_plain_at .later [] [.data, .data, .data, .sentinel, .sentinel] true (true, "05ce747e7a4f74ffe8885c1ba21601b2df627043328f3ccbf574d43a87356883") true
    migrateAtOnce_holds (fun _ h => by cases h) migrateAtOnce_wf (fun _ h => by cases h) migrateAtOnce_row_tie rfl ⟨rfl, rfl⟩ migrateAtOnce_mainIs rfl
    (fun f fn hf hfn => by
      obtain rfl : f = 10 := Option.some.inj (migrateAtOnce_fn.symm.trans hf) |>.symm
      obtain rfl : fn = Tryz.f10 := (Option.some.inj (Tryz.func10.symm.trans hfn)).symm
      exact ⟨migrateAtOnce_looks, fun j t ht => by
        rw [Tryz.params10] at ht
        have h3 : t ∈ [24, 28, 58, 59] := by simpa using Array.mem_of_getElem? ht
        simp only [List.mem_cons, List.mem_nil_iff, or_false] at h3
        rcases h3 with rfl | rfl | rfl | rfl
        · exact migrateAtOnce_stand24
        · exact migrateAtOnce_stand28
        · exact migrateAtOnce_stand58
        · exact migrateAtOnce_stand59⟩)
    migrateAtOnce_goes
end Go.Proofs.YteohopnpcanfpaaGreatDoor
