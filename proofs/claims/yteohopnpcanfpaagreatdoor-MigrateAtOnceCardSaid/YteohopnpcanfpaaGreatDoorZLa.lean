/- Part of the proofs over this seat: V36 V37 V38. -/
import Derived.Test.YteohopnpcanfpaaGreatDoorZKz
import Derived.Test.YteohopnpcanfpaaGreatDoorZKf
set_option maxRecDepth 100000
namespace Go.Pv
open Go.RowKit Go.Proofs

/-! ### (*Migration).Put, Abandon, Finish -/
def putE (m : Mg) (t : Int) (row : Rw) : Bool := bif (bif decide (t < 0) then true else decide (t ≥ (m.tabs.length : Int))) then true else !fitsF (m.old.getD t.toNat default) row
def putM (m : Mg) (t : Nat) (row : Rw) : Mg := { m with tabs := m.tabs.set t (m.tabs.getD t [] ++ [row]) }
theorem f40x (t : Int) (x : D) : AF Tryz.prog 40 [.ptr (.par 0) 0, .d (eI t), .d x] [mgX] (fun o p => o = .ret (.d (eI 22)) ∧ p = [mgX]) := by
  refine AF.intro hT Tryz.func40 rfl (by kernel_rfl) (Nat.le_of_ble_eq_true rfl) ?_
  repeat (first | refine wA0 rfl rfl rfl rfl ?_ | refine AL.nil ?_ | refine AW.seq ?_ | refine AW.region ?_)
  refine AL.effN _ (VE.call [.par 0] [] rfl rfl rfl rfl rfl (f81x) (fun _ _ h => h) rfl) rfl rfl rfl rfl rfl ?_
  repeat' (first | refine wA0 rfl rfl rfl rfl ?_ | refine wA1 rfl rfl rfl rfl rfl ?_ | refine AL.nil ?_ | refine AW.seq ?_ | refine AW.region ?_ | refine AW.skip ?_ | (refine AW.cond rfl ?_ ?_ <;> intro hc) | (refine AW.ret ?_; refine ⟨[], _, _, rfl, rfl, ⟨?_, rfl⟩, rfl⟩))
  all_goals first | cases hc; done | rfl
theorem f40n (t : Int) (x : D) : AF Tryz.prog 40 [.d (.lit (.pointer none)), .d (eI t), .d x] [] (fun o p => o = .ret (.d (eI 1)) ∧ p = []) := by
  refine AF.intro hT Tryz.func40 rfl (by kernel_rfl) (Nat.le_of_ble_eq_true rfl) ?_
  repeat (first | refine wA0 rfl rfl rfl rfl ?_ | refine AL.nil ?_ | refine AW.seq ?_ | refine AW.region ?_)
  refine AL.call0 rfl rfl rfl (f81n) rfl rfl rfl ?_
  repeat' (first | refine wA0 rfl rfl rfl rfl ?_ | refine wA1 rfl rfl rfl rfl rfl ?_ | refine AL.nil ?_ | refine AW.seq ?_ | refine AW.region ?_ | refine AW.skip ?_ | (refine AW.cond rfl ?_ ?_ <;> intro hc) | (refine AW.ret ?_; refine ⟨[], _, _, rfl, rfl, ⟨?_, rfl⟩, rfl⟩))
  all_goals first | cases hc; done | rfl
theorem putE_lt {m : Mg} {t : Int} {row : Rw} (h : putE m t row = false) : ∃ k : Nat, t = k ∧ k < m.tabs.length ∧ fitsF (m.old.getD k default) row = true := by
  unfold putE at h
  by_cases h0 : t < 0
  · simp [h0] at h
  · by_cases h1 : t ≥ (m.tabs.length : Int)
    · simp [h1] at h
    · simp only [h0, h1, decide_false, cond_false] at h
      exact ⟨t.toNat, by omega, by omega, by simpa using h⟩
theorem getD_set_self {α : Type} {l : List α} {k : Nat} {x d : α} (h : k < l.length) : (l.set k x).getD k d = x := by
  simp [List.getD_eq_getElem?_getD, h]
theorem getD_set_neL {α : Type} {l : List α} {k j : Nat} {x d : α} (h : j ≠ k) : (l.set k x).getD j d = l.getD j d := by
  simp [List.getD_eq_getElem?_getD, List.getElem?_set_ne (Ne.symm h)]
theorem nestO_set (l : List (List Rw)) (t : Nat) (x : List Rw) : nestO (l.set t x) = .nest 79 l.length 29 1 (fun i => ((l.set t x).getD i []).length) (fun i => FR ((l.set t x).getD i [])) none := by
  unfold nestO
  rw [List.length_set]
set_option maxHeartbeats 4000000 in
theorem f40 (m : Mg) (t : Int) (row : Rw) (hm : m.OK) (hr : row.length ≤ 1000000) (hr2 : ∀ k : Nat, t = k → k < m.tabs.length → (m.tabs.getD k []).length < 100000) :
    AF Tryz.prog 40 [.ptr (.par 0) 0, .d (eI t), .d (eVs row)] (mgP m) (fun o p => o = .ret (.d (eI (if putE m t row then 1 else 0))) ∧ p = mgP (if putE m t row then m else putM m t.toNat row)) := by
  have ho := hm.olen
  have big : (1000000 : Nat) ≤ maxLen := by decide
  refine AF.intro hT Tryz.func40 rfl (by kernel_rfl) (Nat.le_of_ble_eq_true rfl) ?_
  repeat (first | refine wA0 rfl rfl rfl rfl ?_ | refine AL.nil ?_ | refine AW.seq ?_ | refine AW.region ?_)
  refine AL.effN _ (VE.call [.par 0,.par 1,.par 2,.par 3,.par 4,.par 5] [] rfl rfl rfl rfl rfl (f81 m) (fun _ _ h => h) rfl) rfl rfl rfl rfl rfl ?_
  repeat (first | refine wA0 rfl rfl rfl rfl ?_ | refine AL.nil ?_ | refine AW.seq ?_ | refine AW.region ?_)
  refine AW.condF rfl rfl ?_
  repeat (first | refine wA0 rfl rfl rfl rfl ?_ | refine wA1 rfl rfl rfl rfl rfl ?_ | refine AW.seq ?_ | refine AW.region ?_ | refine AW.skip ?_)
  refine kA1 rfl rfl rfl rfl (fun hγ => f27 (m.old.getD t.toNat default) row (by omega)) rfl rfl rfl ?_
  repeat (first | refine wA0 rfl rfl rfl rfl ?_ | refine wA1 rfl rfl rfl rfl rfl ?_ | refine AL.nil ?_)
  refine AW.cond rfl (fun he => ?_) (fun he => ?_)
  · have he' : putE m t row = true := he
    repeat (first | refine wA0 rfl rfl rfl rfl ?_ | refine AL.nil ?_ | refine AW.seq ?_ | refine AW.region ?_)
    refine AW.ret ?_
    refine ⟨[], _, _, rfl, rfl, ⟨?_, ?_⟩, rfl⟩
    · rw [if_pos he']
      rfl
    · rw [if_pos he']
      rfl
  · have he' : putE m t row = false := he
    obtain ⟨k, rfl, hk, hfit⟩ := putE_lt he'
    have hk1 := hr2 k rfl hk
    repeat (first | refine AW.seq ?_ | refine AW.skip ?_)
    refine AW.weak (Weak.openN (.par 1) k 100 rfl rfl hk rfl rfl) ?_
    repeat (first | refine dW ?_ | refine wG0 rfl rfl rfl rfl ?_)
    refine DG.effN _ (VE.bslice hT (d := 50) (fun _ => [eVs row]) rfl rfl rfl rfl rfl rfl rfl (fun i hi => by obtain rfl : i = 0 := (by omega); rfl)) rfl rfl rfl rfl ?_
    refine DG.effN _ (VE.append hT (d := 51) (FR (m.tabs.getD k [] ++ [row])) [.loc 100, .loc 50] rfl rfl rfl rfl rfl rfl rfl rfl rfl rfl ⟨rfl, by omega, ?_⟩ (fun i hi => FR_left hi) (fun i hi => FR_last hi)) rfl rfl rfl rfl ?_
    · show ((m.tabs.getD k []).length + 1) * 24 ≤ _
      omega
    repeat (refine wG0 rfl rfl rfl rfl ?_)
    refine DG.effS _ (VE.storeN hT rfl rfl rfl rfl rfl rfl rfl rfl hk) rfl rfl ?_
    repeat (first | refine wA0 rfl rfl rfl rfl ?_ | refine AL.nil ?_ | refine AW.seq ?_ | refine AW.region ?_ | refine nG ?_)
    refine AW.weak (Weak.closeN (.par 1) 51 (fun i => ((m.tabs.set k (m.tabs.getD k [] ++ [row])).getD i []).length) (fun i => FR ((m.tabs.set k (m.tabs.getD k [] ++ [row])).getD i [])) rfl rfl rfl rfl rfl rfl rfl hk ?_ (fun q _ => ?_) (fun j _ hj => ?_) (fun j _ hj q _ => ?_) rfl rfl) ?_
    · show ((m.tabs.set k (m.tabs.getD k [] ++ [row])).getD k []).length = _
      rw [getD_set_self hk]
      simp
    · show FR ((m.tabs.set k (m.tabs.getD k [] ++ [row])).getD k []) q = _
      rw [getD_set_self hk]
    · show ((m.tabs.set k (m.tabs.getD k [] ++ [row])).getD j []).length = _
      rw [getD_set_neL (show j ≠ k from hj)]
    · show FR ((m.tabs.set k (m.tabs.getD k [] ++ [row])).getD j []) q = _
      rw [getD_set_neL (show j ≠ k from hj)]
    refine AW.ret ?_
    refine ⟨[], _, _, rfl, rfl, ⟨?_, ?_⟩, rfl⟩
    · rw [if_neg (by simp [he'])]
      rfl
    · rw [if_neg (by simp [he'])]
      simp only [mgP, mgC, putM, nestO_set, List.length_set, Int.toNat_natCast]
      rfl
end Go.Pv
namespace Go.Pv
open Go.RowKit Go.Proofs

theorem eTt_set (l : List (List Rw)) (t : Nat) (x : List Rw) : eTt (l.set t x) = .sl 1 l.length (fun i => eRs ((l.set t x).getD i [])) := by
  unfold eTt
  rw [List.length_set]
/-- What is left of a migration that has been closed. -/
def mgD (m : Mg) : List Obj := [mgX, .gone true (some m.tabs.length), .gone true (some m.done.length), .cells [.d (eTs m.old)], .cells ((eC m.ch).cells.map .d), .cells [.ptr (.par 0) 0]]
theorem f45x : AF Tryz.prog 45 [.ptr (.par 0) 0] [mgX] (fun o p => o = .ret (.tup [.d (eTt []), .d (eI 22)]) ∧ p = [mgX]) := by
  refine AF.intro hT Tryz.func45 rfl (by kernel_rfl) (Nat.le_of_ble_eq_true rfl) ?_
  repeat (first | refine wA0 rfl rfl rfl rfl ?_ | refine AL.nil ?_ | refine AW.seq ?_ | refine AW.region ?_)
  refine AL.effN _ (VE.call [.par 0] [] rfl rfl rfl rfl rfl (f81x) (fun _ _ h => h) rfl) rfl rfl rfl rfl rfl ?_
  repeat (first | refine wA0 rfl rfl rfl rfl ?_ | refine AL.nil ?_ | refine AW.seq ?_ | refine AW.region ?_)
  refine AW.condT rfl rfl ?_
  repeat (first | refine wA0 rfl rfl rfl rfl ?_ | refine AL.nil ?_ | refine AW.seq ?_ | refine AW.region ?_)
  refine AW.weak (Weak.nilSl 2 1 (fun i => eRs (([] : List (List Rw)).getD i [])) rfl) ?_
  refine AW.ret ?_
  refine ⟨[], _, _, rfl, rfl, ⟨?_, rfl⟩, rfl⟩
  rfl
theorem f45n : AF Tryz.prog 45 [.d (.lit (.pointer none))] [] (fun o p => o = .ret (.tup [.d (eTt []), .d (eI 1)]) ∧ p = []) := by
  refine AF.intro hT Tryz.func45 rfl (by kernel_rfl) (Nat.le_of_ble_eq_true rfl) ?_
  repeat (first | refine wA0 rfl rfl rfl rfl ?_ | refine AL.nil ?_ | refine AW.seq ?_ | refine AW.region ?_)
  refine AL.call0 rfl rfl rfl (f81n) rfl rfl rfl ?_
  repeat (first | refine wA0 rfl rfl rfl rfl ?_ | refine AL.nil ?_ | refine AW.seq ?_ | refine AW.region ?_)
  refine AW.condT rfl rfl ?_
  repeat (first | refine wA0 rfl rfl rfl rfl ?_ | refine AL.nil ?_ | refine AW.seq ?_ | refine AW.region ?_)
  refine AW.weak (Weak.nilSl 2 1 (fun i => eRs (([] : List (List Rw)).getD i [])) rfl) ?_
  refine AW.ret ?_
  refine ⟨[], _, _, rfl, rfl, ⟨?_, rfl⟩, rfl⟩
  rfl
theorem f45 (m : Mg) (hm : m.OK) : AF Tryz.prog 45 [.ptr (.par 0) 0] (mgP m) (fun o p => o = .ret (.tup [.d (eTt m.tabs), .d (eI 0)]) ∧ p = mgD m) := by
  refine AF.intro hT Tryz.func45 rfl (by kernel_rfl) (Nat.le_of_ble_eq_true rfl) ?_
  repeat (first | refine wA0 rfl rfl rfl rfl ?_ | refine AL.nil ?_ | refine AW.seq ?_ | refine AW.region ?_)
  refine AL.effN _ (VE.call [.par 0,.par 1,.par 2,.par 3,.par 4,.par 5] [] rfl rfl rfl rfl rfl (f81 m) (fun _ _ h => h) rfl) rfl rfl rfl rfl rfl ?_
  repeat (first | refine wA0 rfl rfl rfl rfl ?_ | refine AL.nil ?_ | refine AW.seq ?_ | refine AW.region ?_)
  refine AW.condF rfl rfl ?_
  refine AW.skip ?_
  refine AW.seq ?_
  refine AW.weak (Weak.thawBox (.par 0) (.par 1) 3 (fun i q => eVs ((m.tabs.getD i []).getD q [])) rfl rfl rfl rfl rfl (fun i _ q _ => rfl) rfl rfl) ?_
  repeat (first | refine wA0 rfl rfl rfl rfl ?_ | refine AL.nil ?_ | refine AW.seq ?_ | refine AW.region ?_ | refine sA rfl rfl rfl rfl rfl rfl rfl rfl rfl ?_)
  refine AL.effN _ (VE.call [] [.loc 17] rfl rfl rfl rfl rfl (f78 m.tabs hm.len hm.rows) (fun _ _ h => h) rfl) rfl rfl rfl rfl rfl ?_
  repeat (first | refine wA0 rfl rfl rfl rfl ?_ | refine AL.nil ?_)
  refine AW.weak (Weak.takeBox (.par 0) (.par 2) 4 100 rfl rfl rfl rfl rfl rfl rfl) ?_
  refine AW.weak (Weak.thaw 2 (.loc 17) (fun i q => eVs ((m.tabs.getD i []).getD q [])) rfl rfl rfl rfl (fun i _ q _ => rfl) rfl) ?_
  refine AW.weak (Weak.dim (.par 0) [false, false, false, false, false, false, false, true] rfl rfl) ?_
  refine AW.ret ?_
  refine ⟨[], _, _, rfl, rfl, ⟨?_, rfl⟩, rfl⟩
  rfl
def eFin (l : List Tb) (t : List (List Rw)) (e : Int) : PV := .tup [.d (.agg [eTs l]), .d (eTt t), .d (eI e)]
theorem f42x : AF Tryz.prog 42 [.ptr (.par 0) 0] [mgX] (fun o p => o = .ret (eFin [] [] 22) ∧ p = [mgX]) := by
  refine AF.intro hT Tryz.func42 rfl (by kernel_rfl) (Nat.le_of_ble_eq_true rfl) ?_
  repeat (first | refine wA0 rfl rfl rfl rfl ?_ | refine AL.nil ?_ | refine AW.seq ?_ | refine AW.region ?_ | refine bA rfl rfl rfl rfl rfl rfl ?_)
  refine AL.effN _ (VE.call [.par 0] [] rfl rfl rfl rfl rfl (f81x) (fun _ _ h => h) rfl) rfl rfl rfl rfl rfl ?_
  repeat (first | refine wA0 rfl rfl rfl rfl ?_ | refine AL.nil ?_ | refine AW.seq ?_ | refine AW.region ?_ | refine AW.block ?_)
  refine AW.condT rfl rfl ?_
  repeat (first | refine wA0 rfl rfl rfl rfl ?_ | refine AL.nil ?_ | refine AW.seq ?_ | refine AW.region ?_ | refine AW.skip ?_)
  refine AW.condT rfl rfl ?_
  repeat (first | refine wA0 rfl rfl rfl rfl ?_ | refine AL.nil ?_ | refine AW.seq ?_ | refine AW.region ?_ | refine sA rfl rfl rfl rfl rfl rfl rfl rfl rfl ?_)
  refine AW.weak (Weak.trans (Weak.nilSl 3 1 (fun i => eRs (([] : List (List Rw)).getD i [])) rfl) (Weak.nilBox (.loc 2) 0 3 (fun i => eT (([] : List Tb).getD i default)) rfl rfl rfl)) ?_
  refine AW.ret ?_
  refine ⟨[], _, _, rfl, rfl, ⟨?_, rfl⟩, rfl⟩
  rfl
theorem f42n : AF Tryz.prog 42 [.d (.lit (.pointer none))] [] (fun o p => o = .ret (eFin [] [] 1) ∧ p = []) := by
  refine AF.intro hT Tryz.func42 rfl (by kernel_rfl) (Nat.le_of_ble_eq_true rfl) ?_
  repeat (first | refine wA0 rfl rfl rfl rfl ?_ | refine AL.nil ?_ | refine AW.seq ?_ | refine AW.region ?_ | refine bA rfl rfl rfl rfl rfl rfl ?_)
  refine AL.call0 rfl rfl rfl (f81n) rfl rfl rfl ?_
  repeat (first | refine wA0 rfl rfl rfl rfl ?_ | refine AL.nil ?_ | refine AW.seq ?_ | refine AW.region ?_ | refine AW.block ?_)
  refine AW.condT rfl rfl ?_
  repeat (first | refine wA0 rfl rfl rfl rfl ?_ | refine AL.nil ?_ | refine AW.seq ?_ | refine AW.region ?_ | refine AW.skip ?_)
  refine AW.condT rfl rfl ?_
  repeat (first | refine wA0 rfl rfl rfl rfl ?_ | refine AL.nil ?_ | refine AW.seq ?_ | refine AW.region ?_ | refine sA rfl rfl rfl rfl rfl rfl rfl rfl rfl ?_)
  refine AW.weak (Weak.trans (Weak.nilSl 3 1 (fun i => eRs (([] : List (List Rw)).getD i [])) rfl) (Weak.nilBox (.loc 2) 0 3 (fun i => eT (([] : List Tb).getD i default)) rfl rfl rfl)) ?_
  refine AW.ret ?_
  refine ⟨[], _, _, rfl, rfl, ⟨?_, rfl⟩, rfl⟩
  rfl
theorem f42f (m : Mg) (hf : m.failed = true) : AF Tryz.prog 42 [.ptr (.par 0) 0] (mgP m) (fun o p => o = .ret (eFin [] [] 15) ∧ p = mgP m) := by
  refine AF.intro hT Tryz.func42 rfl (by kernel_rfl) (Nat.le_of_ble_eq_true rfl) ?_
  repeat (first | refine wA0 rfl rfl rfl rfl ?_ | refine AL.nil ?_ | refine AW.seq ?_ | refine AW.region ?_ | refine bA rfl rfl rfl rfl rfl rfl ?_)
  refine AL.effN _ (VE.call [.par 0,.par 1,.par 2,.par 3,.par 4,.par 5] [] rfl rfl rfl rfl rfl (f81 m) (fun _ _ h => h) rfl) rfl rfl rfl rfl rfl ?_
  repeat (first | refine wA0 rfl rfl rfl rfl ?_ | refine AL.nil ?_ | refine AW.seq ?_ | refine AW.region ?_ | refine AW.block ?_)
  refine AW.condF rfl rfl ?_
  repeat (first | refine wA0 rfl rfl rfl rfl ?_ | refine AL.nil ?_ | refine AW.seq ?_ | refine AW.region ?_)
  refine AW.condT rfl hf ?_
  repeat (first | refine wA0 rfl rfl rfl rfl ?_ | refine AL.nil ?_ | refine AW.seq ?_ | refine AW.region ?_)
  refine AW.condT rfl rfl ?_
  repeat (first | refine wA0 rfl rfl rfl rfl ?_ | refine AL.nil ?_ | refine AW.seq ?_ | refine AW.region ?_ | refine sA rfl rfl rfl rfl rfl rfl rfl rfl rfl ?_)
  refine AW.weak (Weak.trans (Weak.nilSl 3 1 (fun i => eRs (([] : List (List Rw)).getD i [])) rfl) (Weak.nilBox (.loc 2) 0 3 (fun i => eT (([] : List Tb).getD i default)) rfl rfl rfl)) ?_
  refine AW.ret ?_
  refine ⟨[], _, _, rfl, rfl, ⟨?_, rfl⟩, rfl⟩
  rfl
theorem f42s (m : Mg) (hm : m.OK) (hf : m.failed = false) (hl : 0 < m.left) : AF Tryz.prog 42 [.ptr (.par 0) 0] (mgP m) (fun o p => o = .ret (eFin [] [] 12) ∧ p = mgP m) := by
  refine AF.intro hT Tryz.func42 rfl (by kernel_rfl) (Nat.le_of_ble_eq_true rfl) ?_
  repeat (first | refine wA0 rfl rfl rfl rfl ?_ | refine AL.nil ?_ | refine AW.seq ?_ | refine AW.region ?_ | refine bA rfl rfl rfl rfl rfl rfl ?_)
  refine AL.effN _ (VE.call [.par 0,.par 1,.par 2,.par 3,.par 4,.par 5] [] rfl rfl rfl rfl rfl (f81 m) (fun _ _ h => h) rfl) rfl rfl rfl rfl rfl ?_
  repeat (first | refine wA0 rfl rfl rfl rfl ?_ | refine AL.nil ?_ | refine AW.seq ?_ | refine AW.region ?_ | refine AW.block ?_)
  refine AW.condF rfl rfl ?_
  repeat (first | refine wA0 rfl rfl rfl rfl ?_ | refine AL.nil ?_ | refine AW.seq ?_ | refine AW.region ?_)
  refine AW.condF rfl hf ?_
  repeat (first | refine wA0 rfl rfl rfl rfl ?_ | refine AW.seq ?_ | refine AW.region ?_)
  refine AL.effN _ (VE.call [.par 0,.par 1,.par 2,.par 3,.par 4,.par 5] [] rfl rfl rfl rfl rfl (f82 m hm) (fun _ _ h => h) rfl) rfl rfl rfl rfl rfl ?_
  repeat (first | refine wA0 rfl rfl rfl rfl ?_ | refine AL.nil ?_)
  refine AW.condT rfl (decide_eq_true (by show ((m.left : Nat) : Int) > 0; omega)) ?_
  repeat (first | refine wA0 rfl rfl rfl rfl ?_ | refine AL.nil ?_ | refine AW.seq ?_ | refine AW.region ?_)
  refine AW.condT rfl rfl ?_
  repeat (first | refine wA0 rfl rfl rfl rfl ?_ | refine AL.nil ?_ | refine AW.seq ?_ | refine AW.region ?_ | refine sA rfl rfl rfl rfl rfl rfl rfl rfl rfl ?_)
  refine AW.weak (Weak.trans (Weak.nilSl 3 1 (fun i => eRs (([] : List (List Rw)).getD i [])) rfl) (Weak.nilBox (.loc 2) 0 3 (fun i => eT (([] : List Tb).getD i default)) rfl rfl rfl)) ?_
  refine AW.ret ?_
  refine ⟨[], _, _, rfl, rfl, ⟨?_, rfl⟩, rfl⟩
  rfl
theorem f42 (m : Mg) (hm : m.OK) (hf : m.failed = false) (hl : m.left = 0) : AF Tryz.prog 42 [.ptr (.par 0) 0] (mgP m) (fun o p => o = .ret (eFin m.next (m.tabs.set m.tab m.done) 0) ∧ p = mgD m) := by
  have hd : m.done.length ≤ 100000 := Nat.le_trans hm.done (hm.rows _ (mem_getD (α := List Rw) hm.tab))
  have ht := hm.tab
  refine AF.intro hT Tryz.func42 rfl (by kernel_rfl) (Nat.le_of_ble_eq_true rfl) ?_
  repeat (first | refine wA0 rfl rfl rfl rfl ?_ | refine AL.nil ?_ | refine AW.seq ?_ | refine AW.region ?_ | refine bA rfl rfl rfl rfl rfl rfl ?_)
  refine AL.effN _ (VE.call [.par 0,.par 1,.par 2,.par 3,.par 4,.par 5] [] rfl rfl rfl rfl rfl (f81 m) (fun _ _ h => h) rfl) rfl rfl rfl rfl rfl ?_
  repeat (first | refine wA0 rfl rfl rfl rfl ?_ | refine AL.nil ?_ | refine AW.seq ?_ | refine AW.region ?_ | refine AW.block ?_)
  refine AW.condF rfl rfl ?_
  repeat (first | refine wA0 rfl rfl rfl rfl ?_ | refine AL.nil ?_ | refine AW.seq ?_ | refine AW.region ?_)
  refine AW.condF rfl hf ?_
  repeat (first | refine wA0 rfl rfl rfl rfl ?_ | refine AW.seq ?_ | refine AW.region ?_)
  refine AL.effN _ (VE.call [.par 0,.par 1,.par 2,.par 3,.par 4,.par 5] [] rfl rfl rfl rfl rfl (f82 m hm) (fun _ _ h => h) rfl) rfl rfl rfl rfl rfl ?_
  repeat (first | refine wA0 rfl rfl rfl rfl ?_ | refine AL.nil ?_)
  refine AW.condF rfl (decide_eq_false (by show ¬ (((m.left : Nat) : Int) > 0); omega)) ?_
  repeat (first | refine wA0 rfl rfl rfl rfl ?_ | refine AL.nil ?_ | refine AW.seq ?_ | refine AW.region ?_ | refine AW.skip ?_)
  refine AW.condF rfl rfl ?_
  refine AW.skip ?_
  refine AW.seq ?_
  refine AW.weak (Weak.thawBox (.par 0) (.par 1) 3 (fun i q => eVs ((m.tabs.getD i []).getD q [])) rfl rfl rfl rfl rfl (fun i _ q _ => rfl) rfl rfl) ?_
  refine AW.weak (Weak.takeBox (.par 0) (.par 2) 4 100 rfl rfl rfl rfl rfl rfl rfl) ?_
  refine AW.weak (Weak.freezeBox (.par 0) (.loc 100) 4 (fun q => eVs (m.done.getD q [])) rfl rfl rfl rfl rfl (fun i _ => rfl) rfl) ?_
  repeat (first | refine wA0 rfl rfl rfl rfl ?_ | refine AL.nil ?_ | refine AW.seq ?_ | refine AW.region ?_ | refine sA rfl rfl rfl rfl rfl rfl rfl rfl rfl ?_)
  refine AL.effN _ (VE.call [] [.loc 32] rfl rfl rfl rfl rfl (f78 m.tabs hm.len hm.rows) (fun _ _ h => h) rfl) rfl rfl rfl rfl rfl ?_
  repeat (first | refine wA0 rfl rfl rfl rfl ?_ | refine AL.nil ?_ | refine AW.seq ?_)
  refine AW.weak (Weak.holeN (.loc 32) m.tab rfl rfl rfl) ?_
  repeat (first | refine dW ?_ | refine wG0 rfl rfl rfl rfl ?_)
  refine DG.effN _ (VE.call [] [.loc 42] rfl rfl rfl rfl rfl (f84 m.done hd) (fun _ _ h => h) rfl) rfl rfl rfl rfl ?_
  repeat (refine wG0 rfl rfl rfl rfl ?_)
  refine DG.effS _ (VE.storeN hT rfl rfl rfl rfl rfl rfl rfl rfl hm.tab) rfl rfl ?_
  refine nG ?_
  refine AW.weak (Weak.closeN (.loc 32) 42 (fun i => ((m.tabs.set m.tab m.done).getD i []).length) (fun i => FR ((m.tabs.set m.tab m.done).getD i [])) rfl rfl rfl rfl rfl rfl rfl hm.tab ?_ (fun q _ => ?_) (fun j _ hj => ?_) (fun j _ hj q _ => ?_) rfl rfl) ?_
  · show ((m.tabs.set m.tab m.done).getD m.tab []).length = _
    rw [getD_set_self hm.tab]
  · show FR ((m.tabs.set m.tab m.done).getD m.tab []) q = _
    rw [getD_set_self hm.tab]
  · show ((m.tabs.set m.tab m.done).getD j []).length = _
    rw [getD_set_neL (show j ≠ m.tab from hj)]
  · show FR ((m.tabs.set m.tab m.done).getD j []) q = _
    rw [getD_set_neL (show j ≠ m.tab from hj)]
  repeat (first | refine wA0 rfl rfl rfl rfl ?_ | refine AL.nil ?_ | refine AW.seq ?_ | refine AW.region ?_ | refine sA rfl rfl rfl rfl rfl rfl rfl rfl rfl ?_)
  refine AW.weak (Weak.thaw 3 (.loc 32) (fun i q => eVs (((m.tabs.set m.tab m.done).getD i []).getD q [])) rfl rfl rfl rfl (fun i _ q _ => rfl) rfl) ?_
  refine AW.weak (Weak.dim (.par 0) [false, false, false, false, false, false, false, true] rfl rfl) ?_
  refine AW.ret ?_
  refine ⟨[], _, _, rfl, rfl, ⟨?_, rfl⟩, rfl⟩
  rw [eFin, eTt_set]
  rfl
end Go.Pv
namespace Go.Pv
open Go.RowKit Go.Proofs

/-! ### fit, Start -/
/-- slices.IndexFunc, of rows. -/
theorem f129 (l : List Rw) (S : List Tb) (t : Nat) (hl : l.length ≤ maxLen) (q : Rw → Bool) (hf : ∀ r, r ∈ l → AF Tryz.prog 109 [.d (eVs r), .ptr (.par 0) 0, .ptr (.par 1) 0] [.cells [.d (eTs S)], .cells [.d (eI t)]] (fun o p => o = .ret (.d (.lit (.bool (q r)))) ∧ p = [.cells [.d (eTs S)], .cells [.d (eI t)]])) :
    AF Tryz.prog 129 [.d (eRs l), .fn (.func 109) [] [.ptr (.par 0) 0, .ptr (.par 1) 0]] [.cells [.d (eTs S)], .cells [.d (eI t)]] (fun o p => o = .ret (.d (eI (idx q l))) ∧ p = [.cells [.d (eTs S)], .cells [.d (eI t)]]) := by
  refine AF.intro hT Tryz.func129 rfl (by kernel_rfl) (Nat.le_of_ble_eq_true rfl) ?_
  repeat (first | refine wA0 rfl rfl rfl rfl ?_ | refine AL.nil ?_ | refine AW.seq ?_ | refine AW.region ?_ | refine AW.block ?_)
  refine AW.weak (Weak.keep [0,1,7,8] [.par 0,.par 1] rfl rfl) ?_
  refine AW.loop (I := fun n st => ∃ i : Nat, i + n = l.length ∧ (∀ k, k < i → q (l.getD k default) = false) ∧ st = ⟨19, [(0, .d (eRs l)), (1, .fn (.func 109) [] [.ptr (.par 0) 0, .ptr (.par 1) 0]), (7, .d (eI l.length)), (8, .d (eI i))], [(.par 0, .cells [.d (eTs S)]), (.par 1, .cells [.d (eI t)])]⟩) l.length ⟨0, by omega, fun k hk => by omega, rfl⟩ ?_
  rintro n st ⟨i, hi, hk, rfl⟩
  repeat (first | refine wA0 rfl rfl rfl rfl ?_ | refine AL.nil ?_ | refine AW.seq ?_ | refine AW.region ?_)
  refine AW.cond rfl (fun hlt => ?_) (fun hlt => ?_)
  · have hlt' : i < l.length := by simpa using hlt
    repeat (first | refine wA0 rfl rfl rfl rfl ?_ | refine AL.nil ?_ | refine AW.seq ?_ | refine AW.region ?_ | refine AW.skip ?_ | refine AW.block ?_)
    refine AL.effN _ (VE.call [.par 0,.par 1] [] rfl rfl rfl rfl rfl (hf _ (mem_getD (α := Rw) hlt')) (fun _ _ h => h) rfl) rfl rfl rfl rfl rfl ?_
    repeat (refine AL.nil ?_)
    refine AW.cond rfl (fun hc => ?_) (fun hc => ?_)
    · repeat' (first | refine wA0 rfl rfl rfl rfl ?_ | refine AL.nil ?_ | refine AW.seq ?_ | refine AW.region ?_ | (refine AW.ret ?_; refine ⟨[], _, _, rfl, rfl, ⟨?_, rfl⟩, rfl⟩))
      exact congrArg (fun b => AOut.ret (.d (.lit (.int .i64 b)))) (idx_hit hlt' hk hc).symm
    · repeat (first | refine wA0 rfl rfl rfl rfl ?_ | refine AL.nil ?_ | refine AW.region ?_ | refine AW.skip ?_)
      refine ⟨n - 1, _, by omega, Weak.keep [0,1,7,8] [.par 0,.par 1] rfl rfl, i + 1, by omega, le_step hk hc, ?_⟩
      rw [i64s (by omega)]
      rfl
  · obtain rfl : i = l.length := by
      have : ¬ ((i : Int) < (l.length : Int)) := by simpa using hlt
      omega
    repeat' (first | refine wA0 rfl rfl rfl rfl ?_ | refine AL.nil ?_ | refine AW.seq ?_ | refine AW.region ?_ | refine AW.exit ?_ | (refine AW.ret ?_; refine ⟨[], _, _, rfl, rfl, ⟨?_, rfl⟩, rfl⟩))
    exact congrArg (fun b => AOut.ret (.d (.lit (.int .i64 b)))) (idx_miss hk).symm
theorem f109 (row : Rw) (S : List Tb) (t : Nat) (ht : t < S.length) (hr : row.length ≤ maxLen) : AF Tryz.prog 109 [.d (eVs row), .ptr (.par 0) 0, .ptr (.par 1) 0] [.cells [.d (eTs S)], .cells [.d (eI t)]] (fun o p => o = .ret (.d (.lit (.bool (!fitsF (S.getD t default) row)))) ∧ p = [.cells [.d (eTs S)], .cells [.d (eI t)]]) := by
  refine AF.intro hT Tryz.func109 rfl (by kernel_rfl) (Nat.le_of_ble_eq_true rfl) ?_
  repeat (first | refine wA0 rfl rfl rfl rfl ?_ | refine AL.nil ?_ | refine AW.seq ?_ | refine AW.region ?_)
  refine AL.call0 rfl rfl rfl (f27 (S.getD t default) row hr) rfl rfl rfl ?_
  repeat' (first | refine wA0 rfl rfl rfl rfl ?_ | refine AL.nil ?_ | (refine AW.ret ?_; refine ⟨[], _, _, rfl, rfl, ⟨?_, rfl⟩, rfl⟩))
  rfl
def badRows (t : Tb) (l : List Rw) : Bool := decide (idx (fun r => !fitsF t r) l ≥ 0)
theorem f108 (l : List Rw) (S : List Tb) (t : Nat) (ht : t < S.length) (hl : l.length ≤ maxLen) (hr : ∀ r, r ∈ l → r.length ≤ maxLen) :
    AF Tryz.prog 108 [.d (eRs l), .fn (.func 109) [] [.ptr (.par 0) 0, .ptr (.par 1) 0]] [.cells [.d (eTs S)], .cells [.d (eI t)]] (fun o p => o = .ret (.d (.lit (.bool (badRows (S.getD t default) l)))) ∧ p = [.cells [.d (eTs S)], .cells [.d (eI t)]]) := by
  refine AF.intro hT Tryz.func108 rfl (by kernel_rfl) (Nat.le_of_ble_eq_true rfl) ?_
  repeat (first | refine wA0 rfl rfl rfl rfl ?_ | refine AL.nil ?_ | refine AW.seq ?_ | refine AW.region ?_)
  refine AL.effN _ (VE.call [.par 0,.par 1] [] rfl rfl rfl rfl rfl (f129 l S t hl (fun r => !fitsF (S.getD t default) r) (fun r h => f109 r S t ht (hr r h))) (fun _ _ h => h) rfl) rfl rfl rfl rfl rfl ?_
  repeat' (first | refine wA0 rfl rfl rfl rfl ?_ | refine AL.nil ?_ | (refine AW.ret ?_; refine ⟨[], _, _, rfl, rfl, ⟨?_, rfl⟩, rfl⟩))
  rfl
/-- fit, as a function. -/
def fitT (S : List Tb) (tabs : List (List Rw)) : Bool := decide (tabs.length = S.length) && (List.range tabs.length).all (fun i => !badRows (S.getD i default) (tabs.getD i []))
theorem fitT_ne {S : List Tb} {tabs : List (List Rw)} (h : ((tabs.length : Int) != (S.length : Int)) = true) : fitT S tabs = false := by
  have : tabs.length ≠ S.length := fun e => by simp [e] at h
  simp [fitT, this]
theorem fitT_bad {S : List Tb} {tabs : List (List Rw)} {i : Nat} (hi : i < tabs.length) (h : badRows (S.getD i default) (tabs.getD i []) = true) : fitT S tabs = false := by
  have : (List.range tabs.length).all (fun i => !badRows (S.getD i default) (tabs.getD i [])) = false := by
    rw [List.all_eq_false]
    exact ⟨i, List.mem_range.2 hi, by rw [h]; decide⟩
  rw [fitT, this, Bool.and_false]
theorem fitT_all {S : List Tb} {tabs : List (List Rw)} (he : tabs.length = S.length) (h : ∀ i, i < tabs.length → badRows (S.getD i default) (tabs.getD i []) = false) : fitT S tabs = true := by
  have : (List.range tabs.length).all (fun i => !badRows (S.getD i default) (tabs.getD i [])) = true := by
    rw [List.all_eq_true]
    exact fun i hi => by rw [h i (List.mem_range.1 hi)]; rfl
  rw [fitT, this, decide_eq_true he]
  rfl
theorem f77 (S : List Tb) (tabs : List (List Rw)) (hl : tabs.length ≤ 1000) (hr : ∀ r, r ∈ tabs → r.length ≤ 100000) (hx : ∀ r, r ∈ tabs → ∀ x, x ∈ r → x.length ≤ 1000000) :
    AF Tryz.prog 77 [.d (.agg [eTs S]), .d (eTt tabs)] [] (fun o p => o = .ret (.d (.lit (.bool (fitT S tabs)))) ∧ p = []) := by
  have big : (1000000 : Nat) ≤ maxLen := by decide
  refine AF.intro hT Tryz.func77 rfl (by kernel_rfl) (Nat.le_of_ble_eq_true rfl) ?_
  repeat (first | refine wA0 rfl rfl rfl rfl ?_ | refine AL.nil ?_ | refine AW.seq ?_ | refine AW.region ?_ | refine bA rfl rfl rfl rfl rfl rfl ?_)
  refine AW.cond rfl (fun hne => ?_) (fun hne => ?_)
  · repeat' (first | refine wA0 rfl rfl rfl rfl ?_ | refine AL.nil ?_ | refine AW.seq ?_ | refine AW.region ?_ | (refine AW.ret ?_; refine ⟨[], _, _, rfl, rfl, ⟨?_, rfl⟩, rfl⟩))
    rw [fitT_ne hne]
    rfl
  · have he : tabs.length = S.length := by
      have h1 : ((tabs.length : Int) != (S.length : Int)) = false := hne
      have h2 : (tabs.length : Int) = (S.length : Int) := by simpa using h1
      omega
    repeat (first | refine wA0 rfl rfl rfl rfl ?_ | refine AL.nil ?_ | refine AW.seq ?_ | refine AW.region ?_ | refine AW.skip ?_ | refine AW.block ?_)
    refine AW.weak (Weak.keep [2,13,14,15] [.loc 2] rfl rfl) ?_
    refine AW.loop (I := fun n st => ∃ i : Nat, i + n = tabs.length ∧ (∀ k, k < i → badRows (S.getD k default) (tabs.getD k []) = false) ∧ st = ⟨24, [(2, .ptr (.loc 2) 0), (13, .d (eTt tabs)), (14, .d (eI tabs.length)), (15, .d (eI i))], [(.loc 2, .cells [.d (eTs S)])]⟩) tabs.length ⟨0, by omega, fun k hk => by omega, rfl⟩ ?_
    rintro n st ⟨i, hi, hk, rfl⟩
    repeat (first | refine wA0 rfl rfl rfl rfl ?_ | refine AL.nil ?_ | refine AW.seq ?_ | refine AW.region ?_)
    refine AW.cond rfl (fun hlt => ?_) (fun hlt => ?_)
    · have hlt' : i < tabs.length := by simpa using hlt
      have hltS : i < S.length := by omega
      have hm := mem_getD (α := List Rw) hlt'
      repeat (first | refine wA0 rfl rfl rfl rfl ?_ | refine AL.nil ?_ | refine AW.seq ?_ | refine AW.region ?_ | refine AW.skip ?_ | refine AW.block ?_ | refine sA rfl rfl rfl rfl rfl rfl rfl rfl rfl ?_ | refine bA rfl rfl rfl rfl rfl rfl ?_)
      refine AL.effN _ (VE.call [.loc 2,.loc 5] [] rfl rfl rfl rfl rfl (f108 (tabs.getD i [] ) S i hltS (Nat.le_trans (hr _ hm) (by omega)) (fun r h => Nat.le_trans (hx _ hm r h) big)) (fun _ _ h => h) rfl) rfl rfl rfl rfl rfl ?_
      repeat (refine AL.nil ?_)
      refine AW.cond rfl (fun hc => ?_) (fun hc => ?_)
      · repeat' (first | refine wA0 rfl rfl rfl rfl ?_ | refine AL.nil ?_ | refine AW.seq ?_ | refine AW.region ?_ | (refine AW.ret ?_; refine ⟨[], _, _, rfl, rfl, ⟨?_, rfl⟩, rfl⟩))
        rw [fitT_bad hlt' hc]
        rfl
      · repeat (first | refine wA0 rfl rfl rfl rfl ?_ | refine AL.nil ?_ | refine AW.region ?_ | refine AW.skip ?_)
        refine ⟨n - 1, _, by omega, Weak.keep [2,13,14,15] [.loc 2] rfl rfl, i + 1, by omega, fun k hk' => ?_, ?_⟩
        · by_cases e : k = i
          · subst e; exact hc
          · exact hk k (by omega)
        · rw [i64s (by omega)]
          rfl
    · obtain rfl : i = tabs.length := by
        have : ¬ ((i : Int) < (tabs.length : Int)) := by simpa using hlt
        omega
      repeat' (first | refine wA0 rfl rfl rfl rfl ?_ | refine AL.nil ?_ | refine AW.seq ?_ | refine AW.region ?_ | refine AW.exit ?_ | (refine AW.ret ?_; refine ⟨[], _, _, rfl, rfl, ⟨?_, rfl⟩, rfl⟩))
      rw [fitT_all he hk]
      rfl
end Go.Pv
