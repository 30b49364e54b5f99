/- Part of the proofs over this seat: Lw2 V25. -/
import Derived.Test.YteohopnpcanfpaaGreatDoorZKp
set_option maxRecDepth 100000
namespace Go.Pv
open Go.RowKit Go.Proofs

/-- right and Valid in a form that reckons. -/
def rightR (t : Tb) : Bool :=
  bif (bif (bif (bif !nameF t.name then true else (t.attrs.length : Int) == 0) then true else decide ((t.attrs.length : Int) > 12)) then true else (t.key.length : Int) == 0) then false
  else bif t.attrs.any attrBad then false
  else bif badNames (namesOf t.attrs) then false
  else bif !decide (((namesOf t.attrs).map raw).Nodup) then false
  else !(List.range t.key.length).any (keyBad t)
theorem rightF_eq (t : Tb) : rightF t = rightR t := by simp only [rightF, rightR, dup_iff]
def validR (l : List Tb) : Bool := bif decide ((l.length : Int) > 20) then false else !(List.range l.length).any (fun i => bif !rightR (l.getD i default) then true else !(findF l (l.getD i default).name == (i : Int)))
theorem validF_eq (l : List Tb) : validF l = validR l := by
  have : tabBad l = fun i => bif !rightR (l.getD i default) then true else !(findF l (l.getD i default).name == (i : Int)) := by
    funext i
    simp only [tabBad, rightF_eq]
  simp only [validF, validR, this]
theorem samp_valid : validF sampL = true := by rw [validF_eq]; decide +kernel
def c1 : Ch := ⟨1, sT, ⟨#[]⟩, sBorn, 3, zV⟩
def c2 : Ch := ⟨4, sT, sAge, ⟨#[]⟩, 1, zV⟩
def c3 : Ch := ⟨2, sT, sName, ⟨#[]⟩, 0, zV⟩
def c4 : Ch := ⟨3, sT, sAge, sYears, 0, zV⟩
def c5 : Ch := ⟨4, sT, sName, ⟨#[]⟩, 2, zV⟩
def c6 : Ch := ⟨2, sT, sYears, ⟨#[]⟩, 0, zV⟩
theorem h1 : findR (formA c1) false (checkA (tabOf sampL c1) c1) sampL c1 = (((0 : Nat) : Int), -1, 0) := by rw [findR, samp_valid]; decide +kernel
theorem h2 : findR (formC c2) true (checkC (tabOf sampL c2) c2 (colOf sampL c2).toNat) sampL c2 = (((0 : Nat) : Int), ((1 : Nat) : Int), 0) := by rw [findR, samp_valid]; decide +kernel
theorem h3 : findR (formD c3) true (checkD (tabOf sampL c3) (colOf sampL c3)) sampL c3 = (0, 0, 1) := by rw [findR, samp_valid]; decide +kernel
theorem h4 : findR (formR c4) true (freshF (tabOf sampL c4) c4) sampL c4 = (0, 1, 9) := by rw [findR, samp_valid]; decide +kernel
theorem h5 : findR (formC c5) true (checkC (tabOf sampL c5) c5 (colOf sampL c5).toNat) sampL c5 = (((0 : Nat) : Int), ((0 : Nat) : Int), 0) := by rw [findR, samp_valid]; decide +kernel
theorem h6 : findR (formD c6) true (checkD (tabOf sampL c6) (colOf sampL c6)) sampL c6 = (((0 : Nat) : Int), ((1 : Nat) : Int), 0) := by rw [findR, samp_valid]; decide +kernel
theorem samp_fits : fitsF (sampL.getD 0 default) sampR = true := by decide +kernel
theorem cast2 : ((castF (sampR.getD 1 default) c2.to).2 == 0) = true := by decide +kernel
theorem cast5 : ((castF (sampR.getD 0 default) c5.to).2 == 0) = false := by decide +kernel
end Go.Pv
namespace Go.Pv
open Go.RowKit Go.Proofs

theorem samp_mem {t : Tb} (h : t ∈ sampL) : t = sampT := by simpa [sampL] using h
theorem samp_okN : OkN sampT := by
  refine ⟨by decide, fun s hs => ?_, by decide, by decide, by decide⟩
  have : s = sName ∨ s = sAge ∨ s = sYears := by simpa [sampT, namesOf, sampA] using hs
  rcases this with rfl | rfl | rfl <;> decide
theorem samp_okT : OkT sampT := by
  refine ⟨by decide, fun a ha => ?_, by decide⟩
  have : a = ⟨sName, 1, [], zV⟩ ∨ a = ⟨sAge, 2, [sYears], zV⟩ := by simpa [sampT, sampA] using ha
  rcases this with rfl | rfl <;> decide
theorem samp_okS : OkS sampL := ⟨by decide, fun t h => by rw [samp_mem h]; exact samp_okN, fun t h => by rw [samp_mem h]; exact samp_okT⟩
theorem samp_okB : OkB sampL := by
  refine ⟨by decide, fun t h => by rw [samp_mem h]; decide, fun t h => by rw [samp_mem h]; decide, fun t h a ha => ?_⟩
  rw [samp_mem h] at ha
  have : a = ⟨sName, 1, [], zV⟩ ∨ a = ⟨sAge, 2, [sYears], zV⟩ := by simpa [sampT, sampA] using ha
  rcases this with rfl | rfl <;> decide
def add1 : List Tb := sampL.set 0 (addT (sampL.getD 0 default) c1)
def drp6 : List Tb := sampL.set 0 (drpT (sampL.getD 0 default) 1)
theorem a1 : AF Tryz.prog 17 [.d (.agg [eTs sampL]), .d (eC c1)] [] (fun o p => o = .ret (.tup [.d (.agg [eTs add1]), .d (eI 0)]) ∧ p = []) :=
  f17oa sampL c1 rfl samp_okS ⟨by decide⟩ samp_okB 0 (-1) (by decide) h1
theorem a2 : AF Tryz.prog 19 [.d (.agg [eTs sampL]), .d (eC c2), .d (eI 0), .d (eVs sampR)] [] (fun o p => o = .ret (.tup [.d (eVs (rowC sampR c2 1)), .d (eI 0)]) ∧ p = []) := by
  have h := f19c sampL c2 sampR 0 1 rfl samp_okS h2 (by decide) (by decide) samp_fits (by decide) (by decide +kernel)
  rw [cast2] at h
  exact h
theorem a3 : AF Tryz.prog 17 [.d (.agg [eTs sampL]), .d (eC c3)] [] (fun o p => o = .ret (.tup [.d (.agg [eTs []]), .d (eI 1)]) ∧ p = []) := by
  have h := f17ed sampL c3 rfl samp_okS (by rw [h3]; rfl)
  rw [h3] at h
  exact h
theorem a4 : AF Tryz.prog 17 [.d (.agg [eTs sampL]), .d (eC c4)] [] (fun o p => o = .ret (.tup [.d (.agg [eTs []]), .d (eI 9)]) ∧ p = []) := by
  have h := f17er sampL c4 rfl samp_okS ⟨by decide⟩ (by rw [h4]; rfl)
  rw [h4] at h
  exact h
theorem a5 : AF Tryz.prog 19 [.d (.agg [eTs sampL]), .d (eC c5), .d (eI 0), .d (eVs sampR)] [] (fun o p => o = .ret (.tup [.d (eVs []), .d (eI 15)]) ∧ p = []) := by
  have h := f19c sampL c5 sampR 0 0 rfl samp_okS h5 (by decide) (by decide) samp_fits (by decide) (by decide +kernel)
  rw [cast5] at h
  exact h
theorem a6 : AF Tryz.prog 17 [.d (.agg [eTs sampL]), .d (eC c6)] [] (fun o p => o = .ret (.tup [.d (.agg [eTs drp6]), .d (eI 0)]) ∧ p = []) :=
  f17od sampL c6 rfl samp_okS samp_okB 0 1 (by decide) (by decide) (fun k hk => by
    have : k = 0 := by simpa [sampL, sampT] using hk
    omega) h6
theorem a7 : AF Tryz.prog 23 [.d (.agg [eTs sampL])] [] (fun o p => o = .ret (.d (.lit (.bool true))) ∧ p = []) := by
  have h := f23 sampL samp_okS
  rw [samp_valid] at h
  exact h
theorem a8 : AF Tryz.prog 27 [.d (eT sampT), .d (eVs sampR)] [] (fun o p => o = .ret (.d (.lit (.bool true))) ∧ p = []) := by
  have h := f27 sampT sampR (by decide)
  have e : fitsF sampT sampR = true := samp_fits
  rw [e] at h
  exact h
theorem a9 : AF Tryz.prog 29 [.d (eT sampT), .d (eS sYears)] [] (fun o p => o = .ret (.d (eI 1)) ∧ p = []) := by
  have h := f29 sampT sYears samp_okT.attrs samp_okT.was
  have e : columnF sampT.attrs sYears = 1 := by decide +kernel
  rw [e] at h
  exact h
set_option maxHeartbeats 4000000 in
theorem f15 : AF Tryz.prog 15 [] [] (fun o p => o = .ret (.d (.lit (.bool true))) ∧ p = []) := by
  have l0 : sampL.length = 1 := rfl
  have l1 : add1.length = 1 := by decide
  have l6 : drp6.length = 1 := by decide
  have l2 : (rowC sampR c2 1).length = 2 := by decide
  refine AF.intro hT Tryz.func15 rfl (by kernel_rfl) (Nat.le_of_ble_eq_true rfl) ?_
  repeat (first | refine wA0 rfl rfl rfl rfl ?_ | refine AL.nil ?_ | refine AW.seq ?_ | refine AW.region ?_)
  refine AL.call0 rfl rfl rfl (f48) rfl rfl rfl ?_
  repeat (first | refine wA0 rfl rfl rfl rfl ?_ | refine AL.nil ?_ | refine AW.seq ?_ | refine AW.region ?_ | refine sA rfl rfl rfl rfl rfl rfl rfl rfl rfl ?_ | refine bA rfl rfl rfl rfl rfl rfl ?_)
  refine AL.call0 rfl rfl rfl (a1) rfl rfl rfl ?_
  repeat (first | refine wA0 rfl rfl rfl rfl ?_ | refine AL.nil ?_ | refine AW.seq ?_ | refine dW ?_ | refine wG0 rfl rfl rfl rfl ?_ | refine sA rfl rfl rfl rfl rfl rfl rfl rfl rfl ?_ | refine bA rfl rfl rfl rfl rfl rfl ?_)
  refine DG.call0 rfl rfl rfl (f49) rfl rfl rfl ?_
  skip
  refine DG.call0 rfl rfl rfl (a2) rfl rfl rfl ?_
  repeat (first | refine wA0 rfl rfl rfl rfl ?_ | refine AW.seq ?_ | refine AW.region ?_ | refine wG0 rfl rfl rfl rfl ?_ | refine nG ?_)
  refine AL.call0 rfl rfl rfl (a3) rfl rfl rfl ?_
  repeat (first | refine wA0 rfl rfl rfl rfl ?_ | refine AL.nil ?_ | refine AW.seq ?_ | refine AW.region ?_ | refine sA rfl rfl rfl rfl rfl rfl rfl rfl rfl ?_ | refine bA rfl rfl rfl rfl rfl rfl ?_)
  refine AL.call0 rfl rfl rfl (a4) rfl rfl rfl ?_
  repeat (first | refine wA0 rfl rfl rfl rfl ?_ | refine AL.nil ?_ | refine AW.seq ?_ | refine dW ?_ | refine wG0 rfl rfl rfl rfl ?_ | refine sA rfl rfl rfl rfl rfl rfl rfl rfl rfl ?_ | refine bA rfl rfl rfl rfl rfl rfl ?_)
  refine DG.call0 rfl rfl rfl (f49) rfl rfl rfl ?_
  skip
  refine DG.call0 rfl rfl rfl (a5) rfl rfl rfl ?_
  repeat (first | refine wA0 rfl rfl rfl rfl ?_ | refine AW.seq ?_ | refine AW.region ?_ | refine wG0 rfl rfl rfl rfl ?_ | refine nG ?_)
  refine AL.call0 rfl rfl rfl (a6) rfl rfl rfl ?_
  repeat (first | refine wA0 rfl rfl rfl rfl ?_ | refine wA1 rfl rfl rfl rfl rfl ?_ | refine AL.nil ?_ | refine AW.seq ?_ | refine AW.region ?_ | refine sA rfl rfl rfl rfl rfl rfl rfl rfl rfl ?_ | refine bA rfl rfl rfl rfl rfl rfl ?_)
  refine AW.condF rfl (show (bif bif (add1.length : Int) != 1 then true else (drp6.length : Int) != 1 then true else ((rowC sampR c2 1).length : Int) != 2) = false from by rw [l1, l6, l2]; rfl) ?_
  have b1 : (0 : Int) ≤ 0 ∧ (0 : Int) < (add1.length : Int) := by rw [l1]; omega
  have b6 : (0 : Int) ≤ 0 ∧ (0 : Int) < (drp6.length : Int) := by rw [l6]; omega
  have b2 : (0 : Int) ≤ 1 ∧ (1 : Int) < ((rowC sampR c2 1).length : Int) := by rw [l2]; omega
  repeat (first | refine wA0 rfl rfl rfl rfl ?_ | refine wA1 rfl rfl rfl rfl rfl ?_ | refine AL.nil ?_ | refine AW.seq ?_ | refine AW.region ?_ | refine AW.skip ?_ | refine dW ?_ | refine wG0 rfl rfl rfl rfl ?_ | refine wG1 rfl rfl rfl rfl rfl ?_)
  refine kG1 rfl rfl rfl rfl (fun hγ => a7) rfl rfl rfl ?_
  repeat (first | refine wG0 rfl rfl rfl rfl ?_ | refine wG1 rfl rfl rfl rfl rfl ?_)
  refine kG1 rfl rfl rfl rfl (fun hγ => f49) rfl rfl rfl ?_
  refine kG1 rfl rfl rfl rfl (fun hγ => a8) rfl rfl rfl ?_
  repeat (first | refine wG0 rfl rfl rfl rfl ?_ | refine wG1 rfl rfl rfl rfl rfl ?_)
  refine kG1 rfl rfl rfl rfl (fun hγ => a9) rfl rfl rfl ?_
  repeat' (first | refine wG0 rfl rfl rfl rfl ?_ | refine wG1 rfl rfl rfl rfl rfl ?_ | refine nG ?_ | (refine AW.ret ?_; refine ⟨[], _, _, rfl, rfl, ⟨?_, rfl⟩, rfl⟩))
  refine congrArg (fun b => AOut.ret (.d (.lit (.bool b)))) ?_
  decide +kernel
end Go.Pv
