/- For all its arguments, the law cleanselaw43.MigrateValid returns true, and its arguments read behind the call as they read before: the tied card of the statement. Its conditions are the card's own: the five listed library variables start as the program's text lays them. -/
import Derived.Test.YteohopnpcanfpaaGreatDoorZQb
set_option maxRecDepth 100000
namespace Go.Proofs.YteohopnpcanfpaaGreatDoor
open Go Go.Pv Go.RowKit Go.ChangeShapes Go.WideShapes Go.ChangeAt
theorem migrateValid_mainIs : Q.mainIs = some (true, "05ce747e7a4f74ffe8885c1ba21601b2df627043328f3ccbf574d43a87356883".toList) := by kernel_rfl
theorem migrateValid_looks : true = Q.looks [] := by kernel_rfl
theorem migrateValid_stand24 : Tryz.prog.wantsStandIn 24 = false := by kernel_rfl
theorem migrateValid_stand28 : Tryz.prog.wantsStandIn 28 = false := by kernel_rfl
theorem migrateValid_stand58 : Tryz.prog.wantsStandIn 58 = false := by kernel_rfl
theorem migrateValid_stand59 : Tryz.prog.wantsStandIn 59 = false := by kernel_rfl
theorem migrateValid_wf : Rows.migrateValidRow.wfByText (OpenSpec.ofChange Rows.migrateValidSpec) = true := by kernel_rfl
theorem migrateValid_goes : false = Rows.migrateValidRow.goesBy Q := by kernel_rfl
theorem migrateValid_card : Rows.MigrateValidCardSaid :=
  Claim7.holds_tied_plain_at .later [] [.data, .data, .data, .sentinel, .sentinel] true (true, "05ce747e7a4f74ffe8885c1ba21601b2df627043328f3ccbf574d43a87356883") true
    migrateValid_holds (fun _ h => by cases h) migrateValid_wf (fun _ h => by cases h) migrateValid_row_tie rfl ⟨rfl, rfl⟩ migrateValid_mainIs rfl
    (fun f fn hf hfn => by
      obtain rfl : f = 13 := Option.some.inj (migrateValid_fn.symm.trans hf) |>.symm
      obtain rfl : fn = Tryz.f13 := (Option.some.inj (Tryz.func13.symm.trans hfn)).symm
      exact ⟨migrateValid_looks, fun j t ht => by
        rw [Tryz.params13] at ht
        have h3 : t ∈ [24, 28, 28, 58, 59] := by simpa using Array.mem_of_getElem? ht
        simp only [List.mem_cons, List.mem_nil_iff, or_false] at h3
        rcases h3 with rfl | rfl | rfl | rfl | rfl
        · exact migrateValid_stand24
        · exact migrateValid_stand28
        · exact migrateValid_stand28
        · exact migrateValid_stand58
        · exact migrateValid_stand59⟩)
    migrateValid_goes
end Go.Proofs.YteohopnpcanfpaaGreatDoor
