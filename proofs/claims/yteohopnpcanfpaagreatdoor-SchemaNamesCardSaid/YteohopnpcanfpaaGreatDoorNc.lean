/- For all its arguments, the law cleanselaw06.SchemaNames returns true, and its arguments read behind the call as they read before: the tied card of the statement. Its conditions are the card's own: the five listed library variables start as the program's text lays them. -/
import Derived.Test.YteohopnpcanfpaaGreatDoorNb
set_option maxRecDepth 100000
namespace Go.Proofs.YteohopnpcanfpaaGreatDoor
open Go Go.Pv Go.RowKit Go.ChangeShapes Go.WideShapes Go.ChangeAt
theorem schemaNames_mainIs : Q.mainIs = some (true, "05ce747e7a4f74ffe8885c1ba21601b2df627043328f3ccbf574d43a87356883".toList) := by kernel_rfl
theorem schemaNames_looks : true = Q.looks [] := by kernel_rfl
theorem schemaNames_stand24 : Tryz.prog.wantsStandIn 24 = false := by kernel_rfl
theorem schemaNames_stand28 : Tryz.prog.wantsStandIn 28 = false := by kernel_rfl
theorem schemaNames_wf : Rows.schemaNamesRow.wfByText (OpenSpec.ofChange Rows.schemaNamesSpec) = true := by kernel_rfl
theorem schemaNames_goes : false = Rows.schemaNamesRow.goesBy Q := by kernel_rfl
theorem schemaNames_card : Rows.SchemaNamesCardSaid :=
  Claim7.holds_tied_plain_at .later [] [.data, .data, .data, .sentinel, .sentinel] true (true, "05ce747e7a4f74ffe8885c1ba21601b2df627043328f3ccbf574d43a87356883") true
    schemaNames_holds (fun _ h => by cases h) schemaNames_wf (fun _ h => by cases h) schemaNames_row_tie rfl ⟨rfl, rfl⟩ schemaNames_mainIs rfl
    (fun f fn hf hfn => by
      obtain rfl : f = 5 := Option.some.inj (schemaNames_fn.symm.trans hf) |>.symm
      obtain rfl : fn = Tryz.f5 := (Option.some.inj (Tryz.func5.symm.trans hfn)).symm
      exact ⟨schemaNames_looks, fun j t ht => by
        rw [Tryz.params5] at ht
        have h3 : t ∈ [24, 28] := by simpa using Array.mem_of_getElem? ht
        simp only [List.mem_cons, List.mem_nil_iff, or_false] at h3
        rcases h3 with rfl | rfl
        · exact schemaNames_stand24
        · exact schemaNames_stand28⟩)
    schemaNames_goes
end Go.Proofs.YteohopnpcanfpaaGreatDoor
