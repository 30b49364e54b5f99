/- For all its arguments, the law cleanselaw06.SchemaRows returns true, and its arguments read behind the call as they read before: the tied card of the statement. Its conditions are the card's own: the five listed library variables start as the program's text lays them. -/
import Derived.Test.YteohopnpcanfpaaGreatDoorOb
set_option maxRecDepth 100000
namespace Go.Proofs.YteohopnpcanfpaaGreatDoor
open Go Go.Pv Go.RowKit Go.ChangeShapes Go.WideShapes Go.ChangeAt
theorem schemaRows_mainIs : Q.mainIs = some (true, "05ce747e7a4f74ffe8885c1ba21601b2df627043328f3ccbf574d43a87356883".toList) := by kernel_rfl
theorem schemaRows_looks : true = Q.looks [] := by kernel_rfl
theorem schemaRows_stand5 : Tryz.prog.wantsStandIn 5 = false := by kernel_rfl
theorem schemaRows_stand24 : Tryz.prog.wantsStandIn 24 = false := by kernel_rfl
theorem schemaRows_stand28 : Tryz.prog.wantsStandIn 28 = false := by kernel_rfl
theorem schemaRows_stand29 : Tryz.prog.wantsStandIn 29 = false := by kernel_rfl
theorem schemaRows_wf : Rows.schemaRowsRow.wfByText (OpenSpec.ofChange Rows.schemaRowsSpec) = true := by kernel_rfl
theorem schemaRows_goes : false = Rows.schemaRowsRow.goesBy Q := by kernel_rfl
theorem schemaRows_card : Rows.SchemaRowsCardSaid :=
  Claim7.holds_tied_plain_at .later [] [.data, .data, .data, .sentinel, .sentinel] true (true, "05ce747e7a4f74ffe8885c1ba21601b2df627043328f3ccbf574d43a87356883") true
    schemaRows_holds (fun _ h => by cases h) schemaRows_wf (fun _ h => by cases h) schemaRows_row_tie rfl ⟨rfl, rfl⟩ schemaRows_mainIs rfl
    (fun f fn hf hfn => by
      obtain rfl : f = 6 := Option.some.inj (schemaRows_fn.symm.trans hf) |>.symm
      obtain rfl : fn = Tryz.f6 := (Option.some.inj (Tryz.func6.symm.trans hfn)).symm
      exact ⟨schemaRows_looks, fun j t ht => by
        rw [Tryz.params6] at ht
        have h3 : t ∈ [24, 28, 5, 29] := by simpa using Array.mem_of_getElem? ht
        simp only [List.mem_cons, List.mem_nil_iff, or_false] at h3
        rcases h3 with rfl | rfl | rfl | rfl
        · exact schemaRows_stand24
        · exact schemaRows_stand28
        · exact schemaRows_stand5
        · exact schemaRows_stand29⟩)
    schemaRows_goes
end Go.Proofs.YteohopnpcanfpaaGreatDoor
