/- For all its arguments, the law cleanselaw06.SchemaTables returns true, and its arguments read behind the call as they read before: the tied card of the statement. Its conditions are the card's own: the five listed library variables start as the program's text lays them. -/
import Derived.Test.YteohopnpcanfpaaGreatDoorTb
set_option maxRecDepth 100000
namespace Go.Proofs.YteohopnpcanfpaaGreatDoor
open Go Go.Pv Go.RowKit Go.ChangeShapes Go.WideShapes Go.ChangeAt
theorem schemaTables_mainIs : Q.mainIs = some (true, "05ce747e7a4f74ffe8885c1ba21601b2df627043328f3ccbf574d43a87356883".toList) := by kernel_rfl
theorem schemaTables_looks : true = Q.looks [] := by kernel_rfl
theorem schemaTables_stand5 : Tryz.prog.wantsStandIn 5 = false := by kernel_rfl
theorem schemaTables_stand24 : Tryz.prog.wantsStandIn 24 = false := by kernel_rfl
theorem schemaTables_stand28 : Tryz.prog.wantsStandIn 28 = false := by kernel_rfl
theorem schemaTables_stand29 : Tryz.prog.wantsStandIn 29 = false := by kernel_rfl
theorem schemaTables_wf : Rows.schemaTablesRow.wfByText (OpenSpec.ofChange Rows.schemaTablesSpec) = true := by kernel_rfl
theorem schemaTables_goes : false = Rows.schemaTablesRow.goesBy Q := by kernel_rfl
theorem schemaTables_card : Rows.SchemaTablesCardSaid :=
  Claim7.holds_tied_plain_at .later [] [.data, .data, .data, .sentinel, .sentinel] true (true, "05ce747e7a4f74ffe8885c1ba21601b2df627043328f3ccbf574d43a87356883") true
    schemaTables_holds (fun _ h => by cases h) schemaTables_wf (fun _ h => by cases h) schemaTables_row_tie rfl ⟨rfl, rfl⟩ schemaTables_mainIs rfl
    (fun f fn hf hfn => by
      obtain rfl : f = 8 := Option.some.inj (schemaTables_fn.symm.trans hf) |>.symm
      obtain rfl : fn = Tryz.f8 := (Option.some.inj (Tryz.func8.symm.trans hfn)).symm
      exact ⟨schemaTables_looks, fun j t ht => by
        rw [Tryz.params8] at ht
        have h3 : t ∈ [24, 28, 28, 5, 29] := by simpa using Array.mem_of_getElem? ht
        simp only [List.mem_cons, List.mem_nil_iff, or_false] at h3
        rcases h3 with rfl | rfl | rfl | rfl | rfl
        · exact schemaTables_stand24
        · exact schemaTables_stand28
        · exact schemaTables_stand28
        · exact schemaTables_stand5
        · exact schemaTables_stand29⟩)
    schemaTables_goes
end Go.Proofs.YteohopnpcanfpaaGreatDoor
