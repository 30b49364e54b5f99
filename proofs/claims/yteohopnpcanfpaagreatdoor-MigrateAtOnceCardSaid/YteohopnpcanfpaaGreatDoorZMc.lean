/- Part of the proofs over this seat: R2c. -/
import Derived.Test.YteohopnpcanfpaaGreatDoorZKr
import Derived.Test.YteohopnpcanfpaaGreatDoorZMb
set_option maxRecDepth 100000
namespace Go.Pv
theorem TsW.wide {l : List Tb} (h : TsW l) : WideS l := fun t ht s hs => by
  obtain ⟨a, ha, hs⟩ := mem_names.1 hs
  rcases hs with rfl | hs
  · exact ((h.tabs t ht).attrs a ha).name
  · exact ((h.tabs t ht).attrs a ha).was s hs
end Go.Pv
