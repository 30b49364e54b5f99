/- Part of the proofs over this seat: V26. -/
import Derived.Test.YteohopnpcanfpaaGreatDoorZKq
import Derived.Test.YteohopnpcanfpaaGreatDoorZKr
set_option maxRecDepth 100000
namespace Go.Pv
open Go.RowKit Go.Proofs

set_option maxHeartbeats 4000000 in
/-- cleanselaw06.SchemaChanges. -/
theorem f4 (l : List Tb) (c : Ch) (hw : WideS l) : AF Tryz.prog 4 [.d (.agg [eTs l]), .d (eC c)] [] (fun o p => o = .ret (.d (.lit (.bool true))) ∧ p = []) := by
  refine AF.intro hT Tryz.func4 rfl (by kernel_rfl) (Nat.le_of_ble_eq_true rfl) ?_
  repeat (first | refine wA0 rfl rfl rfl rfl ?_ | refine AL.nil ?_ | refine AW.seq ?_ | refine AW.region ?_ | refine bA rfl rfl rfl rfl rfl rfl ?_)
  refine AL.call0 rfl rfl rfl (f15) rfl rfl rfl ?_
  repeat (first | refine wA0 rfl rfl rfl rfl ?_ | refine AL.nil ?_ | refine AW.seq ?_ | refine AW.region ?_)
  refine AL.call0 rfl rfl rfl (f16n l c) rfl rfl rfl ?_
  repeat (first | refine wA0 rfl rfl rfl rfl ?_ | refine AL.nil ?_)
  refine AW.cond rfl (fun h0 => ?_) (fun h0 => ?_)
  · repeat' (first | refine wA0 rfl rfl rfl rfl ?_ | refine AL.nil ?_ | refine AW.seq ?_ | refine AW.region ?_ | (refine AW.ret ?_; refine ⟨[], _, _, rfl, rfl, ⟨?_, rfl⟩, rfl⟩))
    rfl
  · have h0' : (!smallF l c 0) = false := h0
    have hsF : smallF l c 0 = true := by simpa using h0'
    obtain ⟨hS, hcn, _, _⟩ := smallF_ok hsF
    have big : (1000000 : Nat) ≤ maxLen := by decide
    have hl : OkS l := hS.okS hw
    have hcc : OkC c := ⟨by omega⟩
    have hllen := hl.len
    rcases f17_any l c hl hcc hS.okB with ⟨e, he, h17⟩ | ⟨ti, u, hti, hfi, hv, hu, h17⟩
    · repeat (first | refine wA0 rfl rfl rfl rfl ?_ | refine AW.seq ?_ | refine AW.region ?_ | refine AW.skip ?_)
      refine AL.call0 rfl rfl rfl (h17) rfl rfl rfl ?_
      repeat (first | refine wA0 rfl rfl rfl rfl ?_ | refine AL.nil ?_ | refine AW.seq ?_ | refine AW.region ?_ | refine sA rfl rfl rfl rfl rfl rfl rfl rfl rfl ?_ | refine bA rfl rfl rfl rfl rfl rfl ?_)
      refine AW.condT rfl (show (!(e == 0)) = true from by rw [he]; rfl) ?_
      repeat' (first | refine wA0 rfl rfl rfl rfl ?_ | refine wA1 rfl rfl rfl rfl rfl ?_ | refine AL.nil ?_ | refine AW.seq ?_ | refine AW.region ?_ | (refine AW.ret ?_; refine ⟨[], _, _, rfl, rfl, ⟨?_, rfl⟩, rfl⟩))
      rfl
    · have hl' : OkS (l.set ti u) := hl.set hS hv hti hu
      have hv' : ValidP (l.set ti u) := hv.set hti hu
      have hvF : validF l = true := (validF_iff l).2 hv
      have hvF' : validF (l.set ti u) = true := (validF_iff _).2 hv'
      have hlen : (l.set ti u).length = l.length := List.length_set ..
      repeat (first | refine wA0 rfl rfl rfl rfl ?_ | refine AW.seq ?_ | refine AW.region ?_ | refine AW.skip ?_)
      refine AL.call0 rfl rfl rfl (h17) rfl rfl rfl ?_
      repeat (first | refine wA0 rfl rfl rfl rfl ?_ | refine AL.nil ?_ | refine AW.seq ?_ | refine AW.region ?_ | refine sA rfl rfl rfl rfl rfl rfl rfl rfl rfl ?_ | refine bA rfl rfl rfl rfl rfl rfl ?_)
      refine AW.condF rfl rfl ?_
      repeat (first | refine wA0 rfl rfl rfl rfl ?_ | refine AW.seq ?_ | refine AW.region ?_ | refine AW.skip ?_)
      refine AL.call0 rfl rfl rfl (f23 l hl) rfl rfl rfl ?_
      repeat (first | refine wA0 rfl rfl rfl rfl ?_ | refine wA1 rfl rfl rfl rfl rfl ?_)
      refine kA1 rfl rfl rfl rfl (fun hγ => f23 (l.set ti u) hl') rfl rfl rfl ?_
      repeat (first | refine wA0 rfl rfl rfl rfl ?_ | refine wA1 rfl rfl rfl rfl rfl ?_ | refine AL.nil ?_)
      refine AW.condF rfl (show (bif bif !validF l then true else !validF (l.set ti u) then true else !(((l.set ti u).length : Int) == (l.length : Int))) = false from by rw [hvF, hvF', hlen, beq_self_eq_true]; rfl) ?_
      repeat (first | refine wA0 rfl rfl rfl rfl ?_ | refine AL.nil ?_ | refine AW.seq ?_ | refine AW.region ?_ | refine AW.skip ?_ | refine AW.block ?_)
      refine AW.weak (Weak.keep [2,3,5,6,8] [.loc 2,.loc 3,.loc 6] rfl rfl) ?_
      refine AW.loop (I := fun n st => ∃ i : Nat, i + n = l.length ∧ st = ⟨116, [(2, .ptr (.loc 2) 0), (3, .ptr (.loc 3) 0), (5, .d (.lit (.bool true))), (6, .ptr (.loc 6) 0), (8, .d (eI i))], [(.loc 2, .cells [.d (eTs l)]), (.loc 3, .cells ((eC c).cells.map PV.d)), (.loc 6, .cells [.d (eTs (l.set ti u))])]⟩) l.length ⟨0, by omega, rfl⟩ ?_
      rintro n st ⟨i, hi, rfl⟩
      repeat (first | refine wA0 rfl rfl rfl rfl ?_ | refine AL.nil ?_ | refine AW.seq ?_ | refine AW.region ?_)
      refine AW.cond rfl (fun hlt => ?_) (fun hlt => ?_)
      · have hlt' : i < l.length := by simpa using hlt
        have hia : (0 : Int) ≤ (i : Int) ∧ (i : Int) < (l.length : Int) := by omega
        have hib : (0 : Int) ≤ (i : Int) ∧ (i : Int) < ((l.set ti u).length : Int) := by omega
        repeat (first | refine AW.seq ?_ | refine AW.skip ?_ | refine AW.block ?_ | refine dW ?_ | refine wG0 rfl rfl rfl rfl ?_ | refine wG1 rfl rfl rfl rfl rfl ?_)
        refine kG1 rfl rfl rfl rfl (fun hγ => f31 (l.getD i default) ((l.set ti u).getD i default) (hl.t _ (mem_getD hlt'))) rfl rfl rfl ?_
        repeat (first | refine wG0 rfl rfl rfl rfl ?_ | refine wG1 rfl rfl rfl rfl rfl ?_ | refine nG ?_)
        refine AW.condF rfl (show (bif !(eqS (l.getD i default).name ((l.set ti u).getD i default).name) then true else bif !(eqS (l.getD i default).name c.table) then !(sameT (l.getD i default) ((l.set ti u).getD i default)) else false) = false from ?_) ?_
        · rw [set_name hti hu.name, eqS_refl, Bool.not_true, cond_false]
          cases hne : eqS (l.getD i default).name c.table with
          | true => rfl
          | false => rw [set_same hlt' hfi hne, sameT_refl]; rfl
        repeat (first | refine wA0 rfl rfl rfl rfl ?_ | refine AL.nil ?_ | refine AW.region ?_ | refine AW.skip ?_)
        refine ⟨n - 1, _, by omega, Weak.keep [2,3,5,6,8] [.loc 2,.loc 3,.loc 6] rfl rfl, i + 1, by omega, ?_⟩
        rw [i64s (by omega)]
        rfl
      · have hti2 : (0 : Int) ≤ (ti : Int) ∧ (ti : Int) < (l.length : Int) := by omega
        have hti3 : (0 : Int) ≤ (ti : Int) ∧ (ti : Int) < ((l.set ti u).length : Int) := by omega
        have h25 := f25 l c.table hl.len
        rw [hfi] at h25
        refine AW.exit ?_
        repeat (first | refine wA0 rfl rfl rfl rfl ?_ | refine AW.seq ?_ | refine AW.region ?_)
        refine AL.call0 rfl rfl rfl (h25) rfl rfl rfl ?_
        repeat (first | refine wA0 rfl rfl rfl rfl ?_ | refine AL.nil ?_ | refine AW.seq ?_ | refine dW ?_ | refine wG0 rfl rfl rfl rfl ?_ | refine wG1 rfl rfl rfl rfl rfl ?_)
        refine kG1 rfl rfl rfl rfl (fun hγ => f31 (l.getD ti default) ((l.set ti u).getD ti default) (hl.t _ (mem_getD hti))) rfl rfl rfl ?_
        repeat' (first | refine wG0 rfl rfl rfl rfl ?_ | refine wG1 rfl rfl rfl rfl rfl ?_ | refine nG ?_ | (refine AW.ret ?_; refine ⟨[], _, _, rfl, rfl, ⟨?_, rfl⟩, rfl⟩))
        refine congrArg (fun b => AOut.ret (.d (.lit (.bool b)))) ?_
        have : decide ((ti : Int) ≥ 0) = true := decide_eq_true (by omega)
        rw [this, getD_set_same hti, hu.differs]
        rfl
end Go.Pv
