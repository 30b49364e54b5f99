/- For all its arguments, the law cleanselaw43.MigrateClosed returns true, and its arguments read behind the call as they read before: the tied card of the statement. Its conditions are the card's own: the five listed library variables start as the program's text lays them. -/
import Derived.Test.YteohopnpcanfpaaGreatDoorZPb
set_option maxRecDepth 100000
namespace Go.Proofs.YteohopnpcanfpaaGreatDoor
open Go Go.Pv Go.RowKit Go.ChangeShapes Go.WideShapes Go.ChangeAt
theorem migrateClosed_mainIs : Q.mainIs = some (true, "05ce747e7a4f74ffe8885c1ba21601b2df627043328f3ccbf574d43a87356883".toList) := by kernel_rfl
theorem migrateClosed_looks : true = Q.looks [] := by kernel_rfl
theorem migrateClosed_stand4 : Tryz.prog.wantsStandIn 4 = false := by kernel_rfl
theorem migrateClosed_stand24 : Tryz.prog.wantsStandIn 24 = false := by kernel_rfl
theorem migrateClosed_stand28 : Tryz.prog.wantsStandIn 28 = false := by kernel_rfl
theorem migrateClosed_stand58 : Tryz.prog.wantsStandIn 58 = false := by kernel_rfl
theorem migrateClosed_stand59 : Tryz.prog.wantsStandIn 59 = false := by kernel_rfl
theorem migrateClosed_wf : Rows.migrateClosedRow.wfByText (OpenSpec.ofChange Rows.migrateClosedSpec) = true := by kernel_rfl
theorem migrateClosed_goes : false = Rows.migrateClosedRow.goesBy Q := by kernel_rfl
theorem migrateClosed_card : Rows.MigrateClosedCardSaid :=
  Claim7.holds_tied_plain_at .later [] [.data, .data, .data, .sentinel, .sentinel] true (true, "05ce747e7a4f74ffe8885c1ba21601b2df627043328f3ccbf574d43a87356883") true
    migrateClosed_holds (fun _ h => by cases h) migrateClosed_wf (fun _ h => by cases h) migrateClosed_row_tie rfl ⟨rfl, rfl⟩ migrateClosed_mainIs rfl
    (fun f fn hf hfn => by
      obtain rfl : f = 14 := Option.some.inj (migrateClosed_fn.symm.trans hf) |>.symm
      obtain rfl : fn = Tryz.f14 := (Option.some.inj (Tryz.func14.symm.trans hfn)).symm
      exact ⟨migrateClosed_looks, fun j t ht => by
        rw [Tryz.params14] at ht
        have h3 : t ∈ [24, 28, 58, 59, 4] := by simpa using Array.mem_of_getElem? ht
        simp only [List.mem_cons, List.mem_nil_iff, or_false] at h3
        rcases h3 with rfl | rfl | rfl | rfl | rfl
        · exact migrateClosed_stand24
        · exact migrateClosed_stand28
        · exact migrateClosed_stand58
        · exact migrateClosed_stand59
        · exact migrateClosed_stand4⟩)
    migrateClosed_goes
end Go.Proofs.YteohopnpcanfpaaGreatDoor
