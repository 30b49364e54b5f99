/- For all its arguments, the law cleanselaw06.SchemaBack returns true, and its arguments read behind the call as they read before: the tied card of the statement. Its conditions are the card's own: the five listed library variables start as the program's text lays them. -/
import Derived.Test.YteohopnpcanfpaaGreatDoorBb
set_option maxRecDepth 100000
namespace Go.Proofs.YteohopnpcanfpaaGreatDoor
open Go Go.Pv Go.RowKit Go.ChangeShapes Go.WideShapes Go.ChangeAt
theorem schemaBack_mainIs : Q.mainIs = some (true, "05ce747e7a4f74ffe8885c1ba21601b2df627043328f3ccbf574d43a87356883".toList) := by kernel_rfl
theorem schemaBack_looks : true = Q.looks [] := by kernel_rfl
theorem schemaBack_stand5 : Tryz.prog.wantsStandIn 5 = false := by kernel_rfl
theorem schemaBack_stand24 : Tryz.prog.wantsStandIn 24 = false := by kernel_rfl
theorem schemaBack_stand28 : Tryz.prog.wantsStandIn 28 = false := by kernel_rfl
theorem schemaBack_stand29 : Tryz.prog.wantsStandIn 29 = false := by kernel_rfl
theorem schemaBack_wf : Rows.schemaBackRow.wfByText (OpenSpec.ofChange Rows.schemaBackSpec) = true := by kernel_rfl
theorem schemaBack_goes : false = Rows.schemaBackRow.goesBy Q := by kernel_rfl
theorem schemaBack_card : Rows.SchemaBackCardSaid :=
  Claim7.holds_tied_plain_at .later [] [.data, .data, .data, .sentinel, .sentinel] true (true, "05ce747e7a4f74ffe8885c1ba21601b2df627043328f3ccbf574d43a87356883") true
    schemaBack_holds (fun _ h => by cases h) schemaBack_wf (fun _ h => by cases h) schemaBack_row_tie rfl ⟨rfl, rfl⟩ schemaBack_mainIs rfl
    (fun f fn hf hfn => by
      obtain rfl : f = 7 := Option.some.inj (schemaBack_fn.symm.trans hf) |>.symm
      obtain rfl : fn = Tryz.f7 := (Option.some.inj (Tryz.func7.symm.trans hfn)).symm
      exact ⟨schemaBack_looks, fun j t ht => by
        rw [Tryz.params7] at ht
        have h3 : t ∈ [24, 28, 5, 29] := by simpa using Array.mem_of_getElem? ht
        simp only [List.mem_cons, List.mem_nil_iff, or_false] at h3
        rcases h3 with rfl | rfl | rfl | rfl
        · exact schemaBack_stand24
        · exact schemaBack_stand28
        · exact schemaBack_stand5
        · exact schemaBack_stand29⟩)
    schemaBack_goes
end Go.Proofs.YteohopnpcanfpaaGreatDoor
