/- For all its arguments, the law cleanselaw06.SchemaChanges returns true, and its arguments read behind the call as they read before: the tied card of the statement. Its conditions are the card's own: the five listed library variables start as the program's text lays them. -/
import Derived.Test.YteohopnpcanfpaaGreatDoorCb
set_option maxRecDepth 100000
namespace Go.Proofs.YteohopnpcanfpaaGreatDoor
open Go Go.Pv Go.RowKit Go.ChangeShapes Go.WideShapes Go.ChangeAt
theorem schemaChanges_mainIs : Q.mainIs = some (true, "05ce747e7a4f74ffe8885c1ba21601b2df627043328f3ccbf574d43a87356883".toList) := by kernel_rfl
theorem schemaChanges_looks : true = Q.looks [] := by kernel_rfl
theorem schemaChanges_stand24 : Tryz.prog.wantsStandIn 24 = false := by kernel_rfl
theorem schemaChanges_stand28 : Tryz.prog.wantsStandIn 28 = false := by kernel_rfl
theorem schemaChanges_wf : Rows.schemaChangesRow.wfByText (OpenSpec.ofChange Rows.schemaChangesSpec) = true := by kernel_rfl
theorem schemaChanges_goes : false = Rows.schemaChangesRow.goesBy Q := by kernel_rfl
theorem schemaChanges_card : Rows.SchemaChangesCardSaid :=
  Claim7.holds_tied_plain_at .later [] [.data, .data, .data, .sentinel, .sentinel] true (true, "05ce747e7a4f74ffe8885c1ba21601b2df627043328f3ccbf574d43a87356883") true
    schemaChanges_holds (fun _ h => by cases h) schemaChanges_wf (fun _ h => by cases h) schemaChanges_row_tie rfl ⟨rfl, rfl⟩ schemaChanges_mainIs rfl
    (fun f fn hf hfn => by
      obtain rfl : f = 4 := Option.some.inj (schemaChanges_fn.symm.trans hf) |>.symm
      obtain rfl : fn = Tryz.f4 := (Option.some.inj (Tryz.func4.symm.trans hfn)).symm
      exact ⟨schemaChanges_looks, fun j t ht => by
        rw [Tryz.params4] at ht
        have h3 : t ∈ [24, 28] := by simpa using Array.mem_of_getElem? ht
        simp only [List.mem_cons, List.mem_nil_iff, or_false] at h3
        rcases h3 with rfl | rfl
        · exact schemaChanges_stand24
        · exact schemaChanges_stand28⟩)
    schemaChanges_goes
end Go.Proofs.YteohopnpcanfpaaGreatDoor
