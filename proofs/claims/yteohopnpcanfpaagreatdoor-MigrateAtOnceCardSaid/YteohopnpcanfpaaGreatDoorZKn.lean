/- Part of the proofs over this seat: V20 V21. -/
import Derived.Test.YteohopnpcanfpaaGreatDoorZKm
set_option maxRecDepth 100000
namespace Go.Pv
open Go.RowKit Go.Proofs

structure OkB (l : List Tb) : Prop where
  len : l.length ≤ 1000000
  attrs : ∀ t, t ∈ l → t.attrs.length ≤ 1000000
  key : ∀ t, t ∈ l → t.key.length ≤ 1000000
  was : ∀ t, t ∈ l → ∀ a, a ∈ t.attrs → a.was.length ≤ 1000000
theorem FT_set {l : List Tb} {a : Nat} {x : Tb} (ha : a < l.length) : FT (l.set a x) a = (eT x).cells := by
  simp [FT, List.getD_eq_getElem?_getD, ha]
theorem FT_other {l : List Tb} {a q : Nat} {x : Tb} (h : q ≠ a) : FT (l.set a x) q = FT l q := by
  have h' : a ≠ q := fun e => h e.symm
  simp [FT, List.getD_eq_getElem?_getD, List.getElem?_set_ne h']
def addT (t : Tb) (c : Ch) : Tb := ⟨t.name, t.attrs ++ [newAt c], t.key⟩
def drpT (t : Tb) (a : Nat) : Tb := ⟨t.name, t.attrs.eraseIdx a, t.key.map (shK a)⟩
def renT (t : Tb) (c : Ch) (a : Nat) : Tb := ⟨t.name, t.attrs.set a (renAt (t.attrs.getD a default) c.name), t.key⟩
def casT (t : Tb) (c : Ch) (a : Nat) : Tb := ⟨t.name, t.attrs.set a (casAt (t.attrs.getD a default) c), t.key⟩
theorem f17ea (l : List Tb) (c : Ch) (hk : c.kind = 1) (hl : OkS l) (hc : OkC c) (he : ((findR (formA c) false (checkA (tabOf l c) c) l c).2.2 == 0) = false) : AF Tryz.prog 17 [.d (.agg [eTs l]), .d (eC c)] [] (fun o p => o = .ret (.tup [.d (.agg [eTs []]), .d (eI (findR (formA c) false (checkA (tabOf l c) c) l c).2.2)]) ∧ p = []) := by
  have he' : (!((findR (formA c) false (checkA (tabOf l c) c) l c).2.2 == 0)) = true := by rw [he]; rfl
  refine AF.intro hT Tryz.func17 rfl (by kernel_rfl) (Nat.le_of_ble_eq_true rfl) ?_
  repeat (first | refine wA0 rfl rfl rfl rfl ?_ | refine AL.nil ?_ | refine AW.seq ?_ | refine AW.region ?_ | refine bA rfl rfl rfl rfl rfl rfl ?_)
  refine AL.call0 rfl rfl rfl (f51a l c hk hl hc) rfl rfl rfl ?_
  repeat (first | refine wA0 rfl rfl rfl rfl ?_ | refine AL.nil ?_ | refine AW.seq ?_ | refine AW.region ?_ | refine sA rfl rfl rfl rfl rfl rfl rfl rfl rfl ?_ | refine bA rfl rfl rfl rfl rfl rfl ?_)
  refine AW.condT rfl he' ?_
  repeat (first | refine wA0 rfl rfl rfl rfl ?_ | refine AL.nil ?_ | refine AW.seq ?_ | refine AW.region ?_ | refine sA rfl rfl rfl rfl rfl rfl rfl rfl rfl ?_)
  refine AW.weak (Weak.nilBox (.loc 4) 0 3 (fun i => eT (([] : List Tb).getD i default)) rfl rfl rfl) ?_
  refine AW.ret ?_
  exact ⟨[], _, _, rfl, rfl, ⟨rfl, rfl⟩, rfl⟩
set_option maxHeartbeats 4000000 in
theorem f17oa (l : List Tb) (c : Ch) (hk : c.kind = 1) (hl : OkS l) (hc : OkC c) (hB : OkB l) (ti : Nat) (ac : Int) (hti : ti < l.length)  (hfr : findR (formA c) false (checkA (tabOf l c) c) l c = ((ti : Int), ac, 0)) :
    AF Tryz.prog 17 [.d (.agg [eTs l]), .d (eC c)] [] (fun o p => o = .ret (.tup [.d (.agg [eTs (l.set ti (addT (l.getD ti default) c))]), .d (eI 0)]) ∧ p = []) := by
  have h51 := f51a l c hk hl hc
  rw [hfr] at h51
  have hlen := hB.len
  have hm : l.getD ti default ∈ l := mem_getD hti
  have hat := hB.attrs _ hm
  have hke := hB.key _ hm
  refine AF.intro hT Tryz.func17 rfl (by kernel_rfl) (Nat.le_of_ble_eq_true rfl) ?_
  repeat (first | refine wA0 rfl rfl rfl rfl ?_ | refine AL.nil ?_ | refine AW.seq ?_ | refine AW.region ?_ | refine bA rfl rfl rfl rfl rfl rfl ?_)
  refine AL.call0 rfl rfl rfl (h51) rfl rfl rfl ?_
  repeat (first | refine wA0 rfl rfl rfl rfl ?_ | refine AL.nil ?_ | refine AW.seq ?_ | refine AW.region ?_ | refine sA rfl rfl rfl rfl rfl rfl rfl rfl rfl ?_ | refine bA rfl rfl rfl rfl rfl rfl ?_)
  refine AW.condF rfl rfl ?_
  repeat (first | refine wA0 rfl rfl rfl rfl ?_ | refine AW.seq ?_ | refine AW.region ?_ | refine AW.skip ?_)
  refine AL.effN _ (VE.call [] [.loc 26] rfl rfl rfl rfl rfl (f52 l.length (fun i => eT (l.getD i default)) (by simp only [maxLen]; omega) (by omega)) (fun _ _ h => h) rfl) rfl rfl rfl rfl rfl ?_
  repeat (first | refine wA0 rfl rfl rfl rfl ?_ | refine AL.nil ?_ | refine AW.seq ?_ | refine AW.region ?_ | refine sA rfl rfl rfl rfl rfl rfl rfl rfl rfl ?_ | refine bA rfl rfl rfl rfl rfl rfl ?_)
  refine AW.weak (Weak.trans (Weak.focusN (.loc 26) ti rfl rfl hti rfl) (Weak.fixN 26 true rfl rfl)) ?_
  repeat (first | refine dW ?_ | refine wG0 rfl rfl rfl rfl ?_)
  refine DG.effN _ (VE.call [] [.loc 38] rfl rfl rfl rfl rfl (f53 (l.getD ti default).attrs.length (fun i => eA ((l.getD ti default).attrs.getD i default)) (by simp only [maxLen]; omega) (by omega)) (fun _ _ h => h) rfl) rfl rfl rfl rfl ?_
  repeat (refine wG0 rfl rfl rfl rfl ?_)
  refine DG.effN _ (VE.call [] [.loc 43] rfl rfl rfl rfl rfl (f54 (l.getD ti default).key.length (fun i => eI ((l.getD ti default).key.getD i 0)) (by simp only [maxLen]; omega) (by omega)) (fun _ _ h => h) rfl) rfl rfl rfl rfl ?_
  repeat (refine wG0 rfl rfl rfl rfl ?_)
  refine DG.effS _ (VE.storeE hT (FT l) rfl rfl rfl rfl rfl rfl rfl hti (.inr ⟨_, rfl, rfl, rfl⟩)) rfl rfl ?_
  repeat (refine wG0 rfl rfl rfl rfl ?_)
  refine DG.effS _ (VE.storeE hT (FT l) rfl rfl rfl rfl rfl rfl rfl hti (.inr ⟨_, rfl, rfl, rfl⟩)) rfl rfl ?_
  repeat (first | refine wA0 rfl rfl rfl rfl ?_ | refine AW.seq ?_ | refine AW.region ?_ | refine nG ?_)
  refine AL.weak (Weak.trans (Weak.fixN 38 true rfl rfl) (Weak.fixN 43 true rfl rfl)) ?_
  refine AL.effN _ (VE.call [.loc 26, .loc 38, .loc 43] [.loc 53] rfl rfl rfl rfl rfl (f133 l.length ti (FT l) (l.getD ti default).name (l.getD ti default).attrs (l.getD ti default).key c ac hti (by omega)) (fun _ _ h => h) rfl) rfl rfl rfl rfl rfl ?_
  repeat (first | refine wA0 rfl rfl rfl rfl ?_ | refine AL.nil ?_ | refine AW.seq ?_ | refine AW.region ?_ | refine sA rfl rfl rfl rfl rfl rfl rfl rfl rfl ?_)
  refine AW.weak (Weak.trans (Weak.freezeFoc (.loc 26) (.loc 53) 1 (fun q => eA ((addT (l.getD ti default) c).attrs.getD q default)) rfl rfl rfl rfl rfl (fun q hq => rfl) rfl) (Weak.trans (Weak.freezeFoc (.loc 26) (.loc 43) 2 (fun q => eI ((addT (l.getD ti default) c).key.getD q 0)) rfl rfl rfl rfl rfl (fun q hq => rfl) rfl)
    (Weak.trans (Weak.unfocusN (.loc 26) (FT (l.set ti (addT (l.getD ti default) c))) rfl rfl rfl ?_ (fun q hq hne => FT_other hne) rfl) (Weak.freezeBox (.loc 4) (.loc 26) 0 (fun q => eT ((l.set ti (addT (l.getD ti default) c)).getD q default)) rfl rfl rfl rfl rfl (fun q hq => rfl) rfl)))) ?_
  · show FT _ ti = _
    rw [FT_set hti]
    simp only [eT, D.cells, eAs, eIs, addT, List.length_append, List.length_singleton]
    rfl
  refine AW.ret ?_
  refine ⟨[], _, _, rfl, rfl, ⟨?_, rfl⟩, rfl⟩
  show AOut.ret (.tup [.d (.agg [.sl 3 l.length _]), .d (eI 0)]) = _
  simp only [eTs, List.length_set]
theorem f17ed (l : List Tb) (c : Ch) (hk : c.kind = 2) (hl : OkS l) (he : ((findR (formD c) true (checkD (tabOf l c) (colOf l c)) l c).2.2 == 0) = false) : AF Tryz.prog 17 [.d (.agg [eTs l]), .d (eC c)] [] (fun o p => o = .ret (.tup [.d (.agg [eTs []]), .d (eI (findR (formD c) true (checkD (tabOf l c) (colOf l c)) l c).2.2)]) ∧ p = []) := by
  have he' : (!((findR (formD c) true (checkD (tabOf l c) (colOf l c)) l c).2.2 == 0)) = true := by rw [he]; rfl
  refine AF.intro hT Tryz.func17 rfl (by kernel_rfl) (Nat.le_of_ble_eq_true rfl) ?_
  repeat (first | refine wA0 rfl rfl rfl rfl ?_ | refine AL.nil ?_ | refine AW.seq ?_ | refine AW.region ?_ | refine bA rfl rfl rfl rfl rfl rfl ?_)
  refine AL.call0 rfl rfl rfl (f51d l c hk hl) rfl rfl rfl ?_
  repeat (first | refine wA0 rfl rfl rfl rfl ?_ | refine AL.nil ?_ | refine AW.seq ?_ | refine AW.region ?_ | refine sA rfl rfl rfl rfl rfl rfl rfl rfl rfl ?_ | refine bA rfl rfl rfl rfl rfl rfl ?_)
  refine AW.condT rfl he' ?_
  repeat (first | refine wA0 rfl rfl rfl rfl ?_ | refine AL.nil ?_ | refine AW.seq ?_ | refine AW.region ?_ | refine sA rfl rfl rfl rfl rfl rfl rfl rfl rfl ?_)
  refine AW.weak (Weak.nilBox (.loc 4) 0 3 (fun i => eT (([] : List Tb).getD i default)) rfl rfl rfl) ?_
  refine AW.ret ?_
  exact ⟨[], _, _, rfl, rfl, ⟨rfl, rfl⟩, rfl⟩
set_option maxHeartbeats 4000000 in
theorem f17od (l : List Tb) (c : Ch) (hk : c.kind = 2) (hl : OkS l) (hB : OkB l) (ti : Nat) (a : Nat) (hti : ti < l.length) (ha : a < (l.getD ti default).attrs.length) (hkk : ∀ k, k ∈ (l.getD ti default).key → k ≤ 9223372036854775807) (hfr : findR (formD c) true (checkD (tabOf l c) (colOf l c)) l c = ((ti : Int), (a : Int), 0)) :
    AF Tryz.prog 17 [.d (.agg [eTs l]), .d (eC c)] [] (fun o p => o = .ret (.tup [.d (.agg [eTs (l.set ti (drpT (l.getD ti default) a))]), .d (eI 0)]) ∧ p = []) := by
  have h51 := f51d l c hk hl
  rw [hfr] at h51
  have hlen := hB.len
  have hm : l.getD ti default ∈ l := mem_getD hti
  have hat := hB.attrs _ hm
  have hke := hB.key _ hm
  refine AF.intro hT Tryz.func17 rfl (by kernel_rfl) (Nat.le_of_ble_eq_true rfl) ?_
  repeat (first | refine wA0 rfl rfl rfl rfl ?_ | refine AL.nil ?_ | refine AW.seq ?_ | refine AW.region ?_ | refine bA rfl rfl rfl rfl rfl rfl ?_)
  refine AL.call0 rfl rfl rfl (h51) rfl rfl rfl ?_
  repeat (first | refine wA0 rfl rfl rfl rfl ?_ | refine AL.nil ?_ | refine AW.seq ?_ | refine AW.region ?_ | refine sA rfl rfl rfl rfl rfl rfl rfl rfl rfl ?_ | refine bA rfl rfl rfl rfl rfl rfl ?_)
  refine AW.condF rfl rfl ?_
  repeat (first | refine wA0 rfl rfl rfl rfl ?_ | refine AW.seq ?_ | refine AW.region ?_ | refine AW.skip ?_)
  refine AL.effN _ (VE.call [] [.loc 26] rfl rfl rfl rfl rfl (f52 l.length (fun i => eT (l.getD i default)) (by simp only [maxLen]; omega) (by omega)) (fun _ _ h => h) rfl) rfl rfl rfl rfl rfl ?_
  repeat (first | refine wA0 rfl rfl rfl rfl ?_ | refine AL.nil ?_ | refine AW.seq ?_ | refine AW.region ?_ | refine sA rfl rfl rfl rfl rfl rfl rfl rfl rfl ?_ | refine bA rfl rfl rfl rfl rfl rfl ?_)
  refine AW.weak (Weak.trans (Weak.focusN (.loc 26) ti rfl rfl hti rfl) (Weak.fixN 26 true rfl rfl)) ?_
  repeat (first | refine dW ?_ | refine wG0 rfl rfl rfl rfl ?_)
  refine DG.effN _ (VE.call [] [.loc 38] rfl rfl rfl rfl rfl (f53 (l.getD ti default).attrs.length (fun i => eA ((l.getD ti default).attrs.getD i default)) (by simp only [maxLen]; omega) (by omega)) (fun _ _ h => h) rfl) rfl rfl rfl rfl ?_
  repeat (refine wG0 rfl rfl rfl rfl ?_)
  refine DG.effN _ (VE.call [] [.loc 43] rfl rfl rfl rfl rfl (f54 (l.getD ti default).key.length (fun i => eI ((l.getD ti default).key.getD i 0)) (by simp only [maxLen]; omega) (by omega)) (fun _ _ h => h) rfl) rfl rfl rfl rfl ?_
  repeat (refine wG0 rfl rfl rfl rfl ?_)
  refine DG.effS _ (VE.storeE hT (FT l) rfl rfl rfl rfl rfl rfl rfl hti (.inr ⟨_, rfl, rfl, rfl⟩)) rfl rfl ?_
  repeat (refine wG0 rfl rfl rfl rfl ?_)
  refine DG.effS _ (VE.storeE hT (FT l) rfl rfl rfl rfl rfl rfl rfl hti (.inr ⟨_, rfl, rfl, rfl⟩)) rfl rfl ?_
  repeat (first | refine wA0 rfl rfl rfl rfl ?_ | refine AW.seq ?_ | refine AW.region ?_ | refine nG ?_)
  refine AL.weak (Weak.trans (Weak.fixN 38 true rfl rfl) (Weak.fixN 43 true rfl rfl)) ?_
  refine AL.effN _ (VE.call [.loc 26, .loc 38, .loc 43] [.loc 53] rfl rfl rfl rfl rfl (f137 l.length ti (FT l) (l.getD ti default).name (l.getD ti default).attrs (l.getD ti default).key c a hti ha (by simp only [maxLen]; omega) (by simp only [maxLen]; omega) hkk) (fun _ _ h => h) rfl) rfl rfl rfl rfl rfl ?_
  repeat (first | refine wA0 rfl rfl rfl rfl ?_ | refine AL.nil ?_ | refine AW.seq ?_ | refine AW.region ?_ | refine sA rfl rfl rfl rfl rfl rfl rfl rfl rfl ?_)
  refine AW.weak (Weak.trans (Weak.freezeFoc (.loc 26) (.loc 53) 1 (fun q => eA ((drpT (l.getD ti default) a).attrs.getD q default)) rfl rfl rfl rfl rfl (fun q hq => rfl) rfl) (Weak.trans (Weak.freezeFoc (.loc 26) (.loc 43) 2 (fun q => eI ((drpT (l.getD ti default) a).key.getD q 0)) rfl rfl rfl rfl rfl (fun q hq => rfl) rfl)
    (Weak.trans (Weak.unfocusN (.loc 26) (FT (l.set ti (drpT (l.getD ti default) a))) rfl rfl rfl ?_ (fun q hq hne => FT_other hne) rfl) (Weak.freezeBox (.loc 4) (.loc 26) 0 (fun q => eT ((l.set ti (drpT (l.getD ti default) a)).getD q default)) rfl rfl rfl rfl rfl (fun q hq => rfl) rfl)))) ?_
  · show FT _ ti = _
    rw [FT_set hti]
    simp only [eT, D.cells, eAs, eIs, drpT, List.length_eraseIdx_of_lt, List.length_map, ha]
    rfl
  refine AW.ret ?_
  refine ⟨[], _, _, rfl, rfl, ⟨?_, rfl⟩, rfl⟩
  show AOut.ret (.tup [.d (.agg [.sl 3 l.length _]), .d (eI 0)]) = _
  simp only [eTs, List.length_set]
theorem f17er (l : List Tb) (c : Ch) (hk : c.kind = 3) (hl : OkS l) (hc : OkC c) (he : ((findR (formR c) true (freshF (tabOf l c) c) l c).2.2 == 0) = false) : AF Tryz.prog 17 [.d (.agg [eTs l]), .d (eC c)] [] (fun o p => o = .ret (.tup [.d (.agg [eTs []]), .d (eI (findR (formR c) true (freshF (tabOf l c) c) l c).2.2)]) ∧ p = []) := by
  have he' : (!((findR (formR c) true (freshF (tabOf l c) c) l c).2.2 == 0)) = true := by rw [he]; rfl
  refine AF.intro hT Tryz.func17 rfl (by kernel_rfl) (Nat.le_of_ble_eq_true rfl) ?_
  repeat (first | refine wA0 rfl rfl rfl rfl ?_ | refine AL.nil ?_ | refine AW.seq ?_ | refine AW.region ?_ | refine bA rfl rfl rfl rfl rfl rfl ?_)
  refine AL.call0 rfl rfl rfl (f51r l c hk hl hc) rfl rfl rfl ?_
  repeat (first | refine wA0 rfl rfl rfl rfl ?_ | refine AL.nil ?_ | refine AW.seq ?_ | refine AW.region ?_ | refine sA rfl rfl rfl rfl rfl rfl rfl rfl rfl ?_ | refine bA rfl rfl rfl rfl rfl rfl ?_)
  refine AW.condT rfl he' ?_
  repeat (first | refine wA0 rfl rfl rfl rfl ?_ | refine AL.nil ?_ | refine AW.seq ?_ | refine AW.region ?_ | refine sA rfl rfl rfl rfl rfl rfl rfl rfl rfl ?_)
  refine AW.weak (Weak.nilBox (.loc 4) 0 3 (fun i => eT (([] : List Tb).getD i default)) rfl rfl rfl) ?_
  refine AW.ret ?_
  exact ⟨[], _, _, rfl, rfl, ⟨rfl, rfl⟩, rfl⟩
set_option maxHeartbeats 4000000 in
theorem f17or (l : List Tb) (c : Ch) (hk : c.kind = 3) (hl : OkS l) (hc : OkC c) (hB : OkB l) (ti : Nat) (a : Nat) (hti : ti < l.length) (ha : a < (l.getD ti default).attrs.length)  (hfr : findR (formR c) true (freshF (tabOf l c) c) l c = ((ti : Int), (a : Int), 0)) :
    AF Tryz.prog 17 [.d (.agg [eTs l]), .d (eC c)] [] (fun o p => o = .ret (.tup [.d (.agg [eTs (l.set ti (renT (l.getD ti default) c a))]), .d (eI 0)]) ∧ p = []) := by
  have h51 := f51r l c hk hl hc
  rw [hfr] at h51
  have hlen := hB.len
  have hm : l.getD ti default ∈ l := mem_getD hti
  have hat := hB.attrs _ hm
  have hke := hB.key _ hm
  refine AF.intro hT Tryz.func17 rfl (by kernel_rfl) (Nat.le_of_ble_eq_true rfl) ?_
  repeat (first | refine wA0 rfl rfl rfl rfl ?_ | refine AL.nil ?_ | refine AW.seq ?_ | refine AW.region ?_ | refine bA rfl rfl rfl rfl rfl rfl ?_)
  refine AL.call0 rfl rfl rfl (h51) rfl rfl rfl ?_
  repeat (first | refine wA0 rfl rfl rfl rfl ?_ | refine AL.nil ?_ | refine AW.seq ?_ | refine AW.region ?_ | refine sA rfl rfl rfl rfl rfl rfl rfl rfl rfl ?_ | refine bA rfl rfl rfl rfl rfl rfl ?_)
  refine AW.condF rfl rfl ?_
  repeat (first | refine wA0 rfl rfl rfl rfl ?_ | refine AW.seq ?_ | refine AW.region ?_ | refine AW.skip ?_)
  refine AL.effN _ (VE.call [] [.loc 26] rfl rfl rfl rfl rfl (f52 l.length (fun i => eT (l.getD i default)) (by simp only [maxLen]; omega) (by omega)) (fun _ _ h => h) rfl) rfl rfl rfl rfl rfl ?_
  repeat (first | refine wA0 rfl rfl rfl rfl ?_ | refine AL.nil ?_ | refine AW.seq ?_ | refine AW.region ?_ | refine sA rfl rfl rfl rfl rfl rfl rfl rfl rfl ?_ | refine bA rfl rfl rfl rfl rfl rfl ?_)
  refine AW.weak (Weak.trans (Weak.focusN (.loc 26) ti rfl rfl hti rfl) (Weak.fixN 26 true rfl rfl)) ?_
  repeat (first | refine dW ?_ | refine wG0 rfl rfl rfl rfl ?_)
  refine DG.effN _ (VE.call [] [.loc 38] rfl rfl rfl rfl rfl (f53 (l.getD ti default).attrs.length (fun i => eA ((l.getD ti default).attrs.getD i default)) (by simp only [maxLen]; omega) (by omega)) (fun _ _ h => h) rfl) rfl rfl rfl rfl ?_
  repeat (refine wG0 rfl rfl rfl rfl ?_)
  refine DG.effN _ (VE.call [] [.loc 43] rfl rfl rfl rfl rfl (f54 (l.getD ti default).key.length (fun i => eI ((l.getD ti default).key.getD i 0)) (by simp only [maxLen]; omega) (by omega)) (fun _ _ h => h) rfl) rfl rfl rfl rfl ?_
  repeat (refine wG0 rfl rfl rfl rfl ?_)
  refine DG.effS _ (VE.storeE hT (FT l) rfl rfl rfl rfl rfl rfl rfl hti (.inr ⟨_, rfl, rfl, rfl⟩)) rfl rfl ?_
  repeat (refine wG0 rfl rfl rfl rfl ?_)
  refine DG.effS _ (VE.storeE hT (FT l) rfl rfl rfl rfl rfl rfl rfl hti (.inr ⟨_, rfl, rfl, rfl⟩)) rfl rfl ?_
  repeat (first | refine wA0 rfl rfl rfl rfl ?_ | refine AW.seq ?_ | refine AW.region ?_ | refine nG ?_)
  refine AL.weak (Weak.trans (Weak.fixN 38 true rfl rfl) (Weak.fixN 43 true rfl rfl)) ?_
  refine AL.effN _ (VE.call [.loc 26, .loc 38, .loc 43] [] rfl rfl rfl rfl rfl (f142 l.length ti (FT l) (l.getD ti default).name (l.getD ti default).attrs (l.getD ti default).key c a hti ha (by have := hB.was _ hm _ (mem_getD ha); omega)) (fun _ _ h => h) rfl) rfl rfl rfl rfl rfl ?_
  repeat (first | refine wA0 rfl rfl rfl rfl ?_ | refine AL.nil ?_ | refine AW.seq ?_ | refine AW.region ?_ | refine sA rfl rfl rfl rfl rfl rfl rfl rfl rfl ?_)
  refine AW.weak (Weak.trans (Weak.freezeFoc (.loc 26) (.loc 38) 1 (fun q => eA ((renT (l.getD ti default) c a).attrs.getD q default)) rfl rfl rfl rfl rfl (fun q hq => rfl) rfl) (Weak.trans (Weak.freezeFoc (.loc 26) (.loc 43) 2 (fun q => eI ((renT (l.getD ti default) c a).key.getD q 0)) rfl rfl rfl rfl rfl (fun q hq => rfl) rfl)
    (Weak.trans (Weak.unfocusN (.loc 26) (FT (l.set ti (renT (l.getD ti default) c a))) rfl rfl rfl ?_ (fun q hq hne => FT_other hne) rfl) (Weak.freezeBox (.loc 4) (.loc 26) 0 (fun q => eT ((l.set ti (renT (l.getD ti default) c a)).getD q default)) rfl rfl rfl rfl rfl (fun q hq => rfl) rfl)))) ?_
  · show FT _ ti = _
    rw [FT_set hti]
    simp only [eT, D.cells, eAs, eIs, renT, List.length_set]
    rfl
  refine AW.ret ?_
  refine ⟨[], _, _, rfl, rfl, ⟨?_, rfl⟩, rfl⟩
  show AOut.ret (.tup [.d (.agg [.sl 3 l.length _]), .d (eI 0)]) = _
  simp only [eTs, List.length_set]
theorem f17ec (l : List Tb) (c : Ch) (hk : c.kind = 4) (hl : OkS l) (he : ((findR (formC c) true (checkC (tabOf l c) c (colOf l c).toNat) l c).2.2 == 0) = false) : AF Tryz.prog 17 [.d (.agg [eTs l]), .d (eC c)] [] (fun o p => o = .ret (.tup [.d (.agg [eTs []]), .d (eI (findR (formC c) true (checkC (tabOf l c) c (colOf l c).toNat) l c).2.2)]) ∧ p = []) := by
  have he' : (!((findR (formC c) true (checkC (tabOf l c) c (colOf l c).toNat) l c).2.2 == 0)) = true := by rw [he]; rfl
  refine AF.intro hT Tryz.func17 rfl (by kernel_rfl) (Nat.le_of_ble_eq_true rfl) ?_
  repeat (first | refine wA0 rfl rfl rfl rfl ?_ | refine AL.nil ?_ | refine AW.seq ?_ | refine AW.region ?_ | refine bA rfl rfl rfl rfl rfl rfl ?_)
  refine AL.call0 rfl rfl rfl (f51c l c hk hl) rfl rfl rfl ?_
  repeat (first | refine wA0 rfl rfl rfl rfl ?_ | refine AL.nil ?_ | refine AW.seq ?_ | refine AW.region ?_ | refine sA rfl rfl rfl rfl rfl rfl rfl rfl rfl ?_ | refine bA rfl rfl rfl rfl rfl rfl ?_)
  refine AW.condT rfl he' ?_
  repeat (first | refine wA0 rfl rfl rfl rfl ?_ | refine AL.nil ?_ | refine AW.seq ?_ | refine AW.region ?_ | refine sA rfl rfl rfl rfl rfl rfl rfl rfl rfl ?_)
  refine AW.weak (Weak.nilBox (.loc 4) 0 3 (fun i => eT (([] : List Tb).getD i default)) rfl rfl rfl) ?_
  refine AW.ret ?_
  exact ⟨[], _, _, rfl, rfl, ⟨rfl, rfl⟩, rfl⟩
set_option maxHeartbeats 4000000 in
theorem f17oc (l : List Tb) (c : Ch) (hk : c.kind = 4) (hl : OkS l) (hB : OkB l) (ti : Nat) (a : Nat) (hti : ti < l.length) (ha : a < (l.getD ti default).attrs.length)  (hfr : findR (formC c) true (checkC (tabOf l c) c (colOf l c).toNat) l c = ((ti : Int), (a : Int), 0)) :
    AF Tryz.prog 17 [.d (.agg [eTs l]), .d (eC c)] [] (fun o p => o = .ret (.tup [.d (.agg [eTs (l.set ti (casT (l.getD ti default) c a))]), .d (eI 0)]) ∧ p = []) := by
  have h51 := f51c l c hk hl
  rw [hfr] at h51
  have hlen := hB.len
  have hm : l.getD ti default ∈ l := mem_getD hti
  have hat := hB.attrs _ hm
  have hke := hB.key _ hm
  refine AF.intro hT Tryz.func17 rfl (by kernel_rfl) (Nat.le_of_ble_eq_true rfl) ?_
  repeat (first | refine wA0 rfl rfl rfl rfl ?_ | refine AL.nil ?_ | refine AW.seq ?_ | refine AW.region ?_ | refine bA rfl rfl rfl rfl rfl rfl ?_)
  refine AL.call0 rfl rfl rfl (h51) rfl rfl rfl ?_
  repeat (first | refine wA0 rfl rfl rfl rfl ?_ | refine AL.nil ?_ | refine AW.seq ?_ | refine AW.region ?_ | refine sA rfl rfl rfl rfl rfl rfl rfl rfl rfl ?_ | refine bA rfl rfl rfl rfl rfl rfl ?_)
  refine AW.condF rfl rfl ?_
  repeat (first | refine wA0 rfl rfl rfl rfl ?_ | refine AW.seq ?_ | refine AW.region ?_ | refine AW.skip ?_)
  refine AL.effN _ (VE.call [] [.loc 26] rfl rfl rfl rfl rfl (f52 l.length (fun i => eT (l.getD i default)) (by simp only [maxLen]; omega) (by omega)) (fun _ _ h => h) rfl) rfl rfl rfl rfl rfl ?_
  repeat (first | refine wA0 rfl rfl rfl rfl ?_ | refine AL.nil ?_ | refine AW.seq ?_ | refine AW.region ?_ | refine sA rfl rfl rfl rfl rfl rfl rfl rfl rfl ?_ | refine bA rfl rfl rfl rfl rfl rfl ?_)
  refine AW.weak (Weak.trans (Weak.focusN (.loc 26) ti rfl rfl hti rfl) (Weak.fixN 26 true rfl rfl)) ?_
  repeat (first | refine dW ?_ | refine wG0 rfl rfl rfl rfl ?_)
  refine DG.effN _ (VE.call [] [.loc 38] rfl rfl rfl rfl rfl (f53 (l.getD ti default).attrs.length (fun i => eA ((l.getD ti default).attrs.getD i default)) (by simp only [maxLen]; omega) (by omega)) (fun _ _ h => h) rfl) rfl rfl rfl rfl ?_
  repeat (refine wG0 rfl rfl rfl rfl ?_)
  refine DG.effN _ (VE.call [] [.loc 43] rfl rfl rfl rfl rfl (f54 (l.getD ti default).key.length (fun i => eI ((l.getD ti default).key.getD i 0)) (by simp only [maxLen]; omega) (by omega)) (fun _ _ h => h) rfl) rfl rfl rfl rfl ?_
  repeat (refine wG0 rfl rfl rfl rfl ?_)
  refine DG.effS _ (VE.storeE hT (FT l) rfl rfl rfl rfl rfl rfl rfl hti (.inr ⟨_, rfl, rfl, rfl⟩)) rfl rfl ?_
  repeat (refine wG0 rfl rfl rfl rfl ?_)
  refine DG.effS _ (VE.storeE hT (FT l) rfl rfl rfl rfl rfl rfl rfl hti (.inr ⟨_, rfl, rfl, rfl⟩)) rfl rfl ?_
  repeat (first | refine wA0 rfl rfl rfl rfl ?_ | refine AW.seq ?_ | refine AW.region ?_ | refine nG ?_)
  refine AL.weak (Weak.trans (Weak.fixN 38 true rfl rfl) (Weak.fixN 43 true rfl rfl)) ?_
  refine AL.effN _ (VE.call [.loc 26, .loc 38, .loc 43] [] rfl rfl rfl rfl rfl (f146 l.length ti (FT l) (l.getD ti default).name (l.getD ti default).attrs (l.getD ti default).key c a hti ha) (fun _ _ h => h) rfl) rfl rfl rfl rfl rfl ?_
  repeat (first | refine wA0 rfl rfl rfl rfl ?_ | refine AL.nil ?_ | refine AW.seq ?_ | refine AW.region ?_ | refine sA rfl rfl rfl rfl rfl rfl rfl rfl rfl ?_)
  refine AW.weak (Weak.trans (Weak.freezeFoc (.loc 26) (.loc 38) 1 (fun q => eA ((casT (l.getD ti default) c a).attrs.getD q default)) rfl rfl rfl rfl rfl (fun q hq => rfl) rfl) (Weak.trans (Weak.freezeFoc (.loc 26) (.loc 43) 2 (fun q => eI ((casT (l.getD ti default) c a).key.getD q 0)) rfl rfl rfl rfl rfl (fun q hq => rfl) rfl)
    (Weak.trans (Weak.unfocusN (.loc 26) (FT (l.set ti (casT (l.getD ti default) c a))) rfl rfl rfl ?_ (fun q hq hne => FT_other hne) rfl) (Weak.freezeBox (.loc 4) (.loc 26) 0 (fun q => eT ((l.set ti (casT (l.getD ti default) c a)).getD q default)) rfl rfl rfl rfl rfl (fun q hq => rfl) rfl)))) ?_
  · show FT _ ti = _
    rw [FT_set hti]
    simp only [eT, D.cells, eAs, eIs, casT, List.length_set]
    rfl
  refine AW.ret ?_
  refine ⟨[], _, _, rfl, rfl, ⟨?_, rfl⟩, rfl⟩
  show AOut.ret (.tup [.d (.agg [.sl 3 l.length _]), .d (eI 0)]) = _
  simp only [eTs, List.length_set]
end Go.Pv
namespace Go.Pv
open Go.RowKit Go.Proofs

theorem f17x (l : List Tb) (c : Ch) (n1 : (c.kind == 1) = false) (n2 : (c.kind == 2) = false) (n3 : (c.kind == 3) = false) (n4 : (c.kind == 4) = false) (hl : OkS l) : AF Tryz.prog 17 [.d (.agg [eTs l]), .d (eC c)] [] (fun o p => o = .ret (.tup [.d (.agg [eTs []]), .d (eI 1)]) ∧ p = []) := by
  refine AF.intro hT Tryz.func17 rfl (by kernel_rfl) (Nat.le_of_ble_eq_true rfl) ?_
  repeat (first | refine wA0 rfl rfl rfl rfl ?_ | refine AL.nil ?_ | refine AW.seq ?_ | refine AW.region ?_ | refine bA rfl rfl rfl rfl rfl rfl ?_)
  refine AL.call0 rfl rfl rfl (f51x l c n1 n2 n3 n4 hl) rfl rfl rfl ?_
  repeat (first | refine wA0 rfl rfl rfl rfl ?_ | refine AL.nil ?_ | refine AW.seq ?_ | refine AW.region ?_ | refine sA rfl rfl rfl rfl rfl rfl rfl rfl rfl ?_ | refine bA rfl rfl rfl rfl rfl rfl ?_)
  refine AW.condT rfl rfl ?_
  repeat (first | refine wA0 rfl rfl rfl rfl ?_ | refine AL.nil ?_ | refine AW.seq ?_ | refine AW.region ?_ | refine sA rfl rfl rfl rfl rfl rfl rfl rfl rfl ?_)
  refine AW.weak (Weak.nilBox (.loc 4) 0 3 (fun i => eT (([] : List Tb).getD i default)) rfl rfl rfl) ?_
  refine AW.ret ?_
  exact ⟨[], _, _, rfl, rfl, ⟨rfl, rfl⟩, rfl⟩
/-- slices.Clone of a row, not to move. -/
theorem f56t (n : Nat) (f : Nat → D) (hn : n ≤ maxLen) (hb : n * 32 ≤ 140737488355328) : AF Tryz.prog 56 [.d (.sl 3 n f)] [] (fun o p => o = .ret (.sl (.par 0) n) ∧ p = [.arr true 26 3 n (fun i => (f i).cells) none]) := by
  refine AF.intro hT Tryz.func56 rfl (by kernel_rfl) (Nat.le_of_ble_eq_true rfl) ?_
  repeat (first | refine wA0 rfl rfl rfl rfl ?_ | refine AL.nil ?_ | refine AW.seq ?_ | refine AW.region ?_)
  refine AL.isnil hT rfl rfl rfl rfl rfl rfl (fun b h0 => ?_)
  refine AL.nil ?_
  refine AW.cond rfl (fun hc => ?_) (fun hc => ?_)
  · obtain rfl := h0 hc
    repeat (first | refine wA0 rfl rfl rfl rfl ?_ | refine AL.nil ?_ | refine AW.seq ?_ | refine AW.region ?_)
    refine AW.weak (Weak.trans (Weak.seed 2 100 26 3 (fun i => (f i).cells) rfl rfl) (Weak.fixN 100 true rfl rfl)) ?_
    refine AW.ret ?_
    exact ⟨[.loc 100], _, _, rfl, rfl, ⟨rfl, rfl⟩, rfl⟩
  · repeat (first | refine AW.seq ?_ | refine AW.region ?_ | refine AW.skip ?_)
    refine AL.effN _ (VE.bslice hT (d := 5) (fun _ => []) rfl rfl rfl rfl rfl rfl rfl (fun i hi => absurd hi (by omega))) rfl rfl rfl rfl rfl ?_
    refine wA0 rfl rfl rfl rfl ?_
    refine AL.effN _ (VE.append hT (d := 7) (fun i => (f i).cells) [.loc 5] rfl rfl rfl rfl rfl trivial rfl rfl rfl rfl ⟨rfl, by omega, ?_⟩ (fun i hi => absurd hi (by omega)) (fun i _ => by rw [Nat.zero_add])) rfl rfl rfl rfl rfl ?_
    · show (0 + n) * 32 ≤ _
      omega
    refine wA0 rfl rfl rfl rfl ?_
    refine AL.nil ?_
    refine AW.weak (Weak.fixN 7 true rfl rfl) ?_
    refine AW.ret ?_
    refine ⟨[.loc 7], _, _, rfl, rfl, ⟨?_, ?_⟩, rfl⟩
    · show AOut.ret (.sl (.par 0) (0 + n)) = _
      rw [Nat.zero_add]
    · show [Obj.arr true 26 3 (0 + n) _ none] = _
      rw [Nat.zero_add]
/-- schema.Convert, of a cast, at its table. -/
theorem f19c (l : List Tb) (c : Ch) (row : List Vl) (ti a : Nat) (hk : c.kind = 4) (hl : OkS l) (hfr : findR (formC c) true (checkC (tabOf l c) c (colOf l c).toNat) l c = ((ti : Int), (a : Int), 0)) (hti : ti < l.length) (hr : row.length ≤ 1000000) (hfit : fitsF (l.getD ti default) row = true) (ha : a < row.length)
    (hq : prefF (row.getD a default).text ⟨#[34]⟩ = false) : AF Tryz.prog 19 [.d (.agg [eTs l]), .d (eC c), .d (eI ti), .d (eVs row)] []
    (fun o p => o = .ret (bif (castF (row.getD a default) c.to).2 == 0 then .tup [.d (eVs (rowC row c a)), .d (eI 0)] else .tup [.d (eVs []), .d (eI 15)]) ∧ p = []) := by
  have h51 := f51c l c hk hl
  rw [hfr] at h51
  have hll := hl.len
  refine AF.intro hT Tryz.func19 rfl (by kernel_rfl) (Nat.le_of_ble_eq_true rfl) ?_
  repeat (first | refine wA0 rfl rfl rfl rfl ?_ | refine AL.nil ?_ | refine AW.seq ?_ | refine AW.region ?_ | refine bA rfl rfl rfl rfl rfl rfl ?_)
  refine AL.call0 rfl rfl rfl (h51) rfl rfl rfl ?_
  repeat (first | refine wA0 rfl rfl rfl rfl ?_ | refine AL.nil ?_ | refine AW.seq ?_ | refine AW.region ?_ | refine AW.block ?_ | refine sA rfl rfl rfl rfl rfl rfl rfl rfl rfl ?_ | refine bA rfl rfl rfl rfl rfl rfl ?_)
  refine AW.condF rfl rfl ?_
  repeat (first | refine wA0 rfl rfl rfl rfl ?_ | refine wA1 rfl rfl rfl rfl rfl ?_ | refine AW.seq ?_ | refine AW.region ?_)
  refine kA1 rfl rfl rfl rfl (fun hγ => f27 (l.getD ti default) row (by simp only [maxLen] ; omega)) rfl rfl rfl ?_
  repeat (first | refine wA0 rfl rfl rfl rfl ?_ | refine wA1 rfl rfl rfl rfl rfl ?_ | refine AL.nil ?_)
  have d1 : decide ((ti : Int) < 0) = false := by simp
  have d2 : decide ((ti : Int) ≥ (l.length : Int)) = false := by simp; omega
  refine AW.condF rfl (show (bif bif decide ((ti : Int) < 0) then true else decide ((ti : Int) ≥ (l.length : Int)) then true else !fitsF (l.getD ti default) row) = false from by rw [d1, d2, hfit]; rfl) ?_
  repeat (first | refine wA0 rfl rfl rfl rfl ?_ | refine AL.nil ?_ | refine AW.seq ?_ | refine AW.region ?_)
  refine AW.condF rfl (show ((ti : Int) != (ti : Int)) = false from by simp) ?_
  repeat (first | refine AW.seq ?_ | refine AW.skip ?_ | refine dW ?_ | refine wG0 rfl rfl rfl rfl ?_)
  refine DG.effN _ (VE.call [] [.loc 55] rfl rfl rfl rfl rfl (f56t row.length (fun i => eV (row.getD i default)) (by simp only [maxLen]; omega) (by omega)) (fun _ _ h => h) rfl) rfl rfl rfl rfl ?_
  repeat (refine wG0 rfl rfl rfl rfl ?_)
  cases he : (castF (row.getD a default) c.to).2 == 0 with
  | true =>
    refine DG.effN _ (VE.call [.loc 55] [] rfl rfl rfl rfl rfl (f147a row c a ha hq he) (fun _ _ h => h) rfl) rfl rfl rfl rfl ?_
    repeat (first | refine wG0 rfl rfl rfl rfl ?_ | refine nG ?_)
    refine AW.weak (Weak.freezeN 8 (.loc 55) (fun q => eV ((rowC row c a).getD q default)) rfl rfl rfl rfl (fun q hq => rfl) rfl) ?_
    refine AW.ret ?_
    refine ⟨[], _, _, rfl, rfl, ⟨?_, rfl⟩, rfl⟩
    show AOut.ret (.tup [.d (.sl 3 row.length _), .d (eI 0)]) = _
    simp only [eVs, rowC, List.length_set, cond_true]
  | false =>
    refine DG.effN _ (VE.call [.loc 55] [] rfl rfl rfl rfl rfl (f147b row c a ha hq he) (fun _ _ h => h) rfl) rfl rfl rfl rfl ?_
    repeat (first | refine wG0 rfl rfl rfl rfl ?_ | refine nG ?_)
    refine AW.weak (Weak.nilSl 8 3 (fun q => eV (([] : List Vl).getD q default)) rfl) ?_
    refine AW.ret ?_
    exact ⟨[], _, _, rfl, rfl, ⟨rfl, rfl⟩, rfl⟩
end Go.Pv
