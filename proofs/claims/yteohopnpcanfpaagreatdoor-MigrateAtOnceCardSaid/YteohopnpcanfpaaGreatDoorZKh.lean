/- Part of the proofs over this seat: V6 V7. -/
import Derived.Test.YteohopnpcanfpaaGreatDoorZKg
set_option maxRecDepth 100000
namespace Go.Pv
open Go.RowKit Go.Proofs

def effA : PV := .agp [.d (.lit (.bool false)), .fn (.func 130) [] [], .fn (.func 133) [] [], .fn (.func 134) [] []]
def effD : PV := .agp [.d (.lit (.bool true)), .fn (.func 135) [] [], .fn (.func 137) [] [], .fn (.func 139) [] []]
def effR : PV := .agp [.d (.lit (.bool true)), .fn (.func 141) [] [], .fn (.func 142) [] [], .fn (.func 144) [] []]
def effC : PV := .agp [.d (.lit (.bool true)), .fn (.func 145) [] [], .fn (.func 146) [] [], .fn (.func 147) [] []]
theorem f110 : AF Tryz.prog 110 [] [] (fun o p => o = .ret effA ∧ p = []) := by
  refine AF.intro hT Tryz.func110 rfl (by kernel_rfl) (Nat.le_of_ble_eq_true rfl) ?_
  repeat' (first | refine wA0 rfl rfl rfl rfl ?_ | refine AL.nil ?_ | refine AW.seq ?_ | refine AW.region ?_ | refine bA rfl rfl rfl rfl rfl rfl ?_ | refine sA rfl rfl rfl rfl rfl rfl rfl rfl rfl ?_ | (refine AW.ret ?_; refine ⟨[], _, _, rfl, rfl, ⟨?_, rfl⟩, rfl⟩))
  rfl
theorem f111 : AF Tryz.prog 111 [] [] (fun o p => o = .ret effD ∧ p = []) := by
  refine AF.intro hT Tryz.func111 rfl (by kernel_rfl) (Nat.le_of_ble_eq_true rfl) ?_
  repeat' (first | refine wA0 rfl rfl rfl rfl ?_ | refine AL.nil ?_ | refine AW.seq ?_ | refine AW.region ?_ | refine bA rfl rfl rfl rfl rfl rfl ?_ | refine sA rfl rfl rfl rfl rfl rfl rfl rfl rfl ?_ | (refine AW.ret ?_; refine ⟨[], _, _, rfl, rfl, ⟨?_, rfl⟩, rfl⟩))
  rfl
theorem f112 : AF Tryz.prog 112 [] [] (fun o p => o = .ret effR ∧ p = []) := by
  refine AF.intro hT Tryz.func112 rfl (by kernel_rfl) (Nat.le_of_ble_eq_true rfl) ?_
  repeat' (first | refine wA0 rfl rfl rfl rfl ?_ | refine AL.nil ?_ | refine AW.seq ?_ | refine AW.region ?_ | refine bA rfl rfl rfl rfl rfl rfl ?_ | refine sA rfl rfl rfl rfl rfl rfl rfl rfl rfl ?_ | (refine AW.ret ?_; refine ⟨[], _, _, rfl, rfl, ⟨?_, rfl⟩, rfl⟩))
  rfl
theorem f113 : AF Tryz.prog 113 [] [] (fun o p => o = .ret effC ∧ p = []) := by
  refine AF.intro hT Tryz.func113 rfl (by kernel_rfl) (Nat.le_of_ble_eq_true rfl) ?_
  repeat' (first | refine wA0 rfl rfl rfl rfl ?_ | refine AL.nil ?_ | refine AW.seq ?_ | refine AW.region ?_ | refine bA rfl rfl rfl rfl rfl rfl ?_ | refine sA rfl rfl rfl rfl rfl rfl rfl rfl rfl ?_ | (refine AW.ret ?_; refine ⟨[], _, _, rfl, rfl, ⟨?_, rfl⟩, rfl⟩))
  rfl
def zeroV (v : Vl) : Bool := v.kind == 0 && (v.n == 0 && (v.text.toList == []))
def emp (s : Bs) : Bool := s.toList == []
theorem bS : (ByteArray.toList ⟨#[]⟩ == ByteArray.toList ⟨#[]⟩) = true := by simp
theorem f85a (c : Ch) (hk : c.kind = 1) : AF Tryz.prog 85 [.d (eC c)] [] (fun o p => o = .ret (.tup [effA, .d (.lit (.bool (emp c.attr)))]) ∧ p = []) := by
  refine AF.intro hT Tryz.func85 rfl (by kernel_rfl) (Nat.le_of_ble_eq_true rfl) ?_
  have y1 : (c.kind == 1) = true := by rw [hk]; rfl
  repeat (first | refine wA0 rfl rfl rfl rfl ?_ | refine AL.nil ?_ | refine AW.seq ?_ | refine AW.region ?_ | refine AW.block ?_ | refine sA rfl rfl rfl rfl rfl rfl rfl rfl rfl ?_ | refine bA rfl rfl rfl rfl rfl rfl ?_)
  refine AW.condT rfl y1 ?_
  repeat (first | refine AW.seq ?_ | refine AW.region ?_)
  refine AL.call0 rfl rfl rfl (f110) rfl rfl rfl ?_
  repeat' (first | refine wA0 rfl rfl rfl rfl ?_ | refine AL.nil ?_ | refine AW.seq ?_ | refine AW.region ?_ | refine dW ?_ | refine wG0 rfl rfl rfl rfl ?_ | refine sA rfl rfl rfl rfl rfl rfl rfl rfl rfl ?_ | refine sG rfl rfl rfl rfl rfl rfl rfl rfl rfl ?_ | refine nG ?_ | (refine AW.ret ?_; refine ⟨[], _, _, rfl, rfl, ⟨?_, rfl⟩, rfl⟩))
  show AOut.ret (.tup [effA, .d (.lit (.bool _))]) = _
  refine congrArg (fun b => AOut.ret (.tup [effA, .d (.lit (.bool b))])) ?_
  simp [emp]
theorem f85d (c : Ch) (hk : c.kind = 2) : AF Tryz.prog 85 [.d (eC c)] [] (fun o p => o = .ret (.tup [effD, .d (.lit (.bool (emp c.name && (c.to == 0 && zeroV c.dflt))))]) ∧ p = []) := by
  refine AF.intro hT Tryz.func85 rfl (by kernel_rfl) (Nat.le_of_ble_eq_true rfl) ?_
  have n1 : (c.kind == 1) = false := by rw [hk]; rfl
  have y2 : (c.kind == 2) = true := by rw [hk]; rfl
  repeat (first | refine wA0 rfl rfl rfl rfl ?_ | refine AL.nil ?_ | refine AW.seq ?_ | refine AW.region ?_ | refine AW.block ?_ | refine sA rfl rfl rfl rfl rfl rfl rfl rfl rfl ?_ | refine bA rfl rfl rfl rfl rfl rfl ?_)
  refine AW.condF rfl n1 ?_
  repeat (first | refine wA0 rfl rfl rfl rfl ?_ | refine AL.nil ?_ | refine AW.seq ?_ | refine AW.region ?_)
  refine AW.condT rfl y2 ?_
  repeat (first | refine AW.seq ?_ | refine AW.region ?_)
  refine AL.call0 rfl rfl rfl (f111) rfl rfl rfl ?_
  repeat' (first | refine wA0 rfl rfl rfl rfl ?_ | refine AL.nil ?_ | refine AW.seq ?_ | refine AW.region ?_ | refine dW ?_ | refine wG0 rfl rfl rfl rfl ?_ | refine sA rfl rfl rfl rfl rfl rfl rfl rfl rfl ?_ | refine sG rfl rfl rfl rfl rfl rfl rfl rfl rfl ?_ | refine nG ?_ | (refine AW.ret ?_; refine ⟨[], _, _, rfl, rfl, ⟨?_, rfl⟩, rfl⟩))
  show AOut.ret (.tup [effD, .d (.lit (.bool _))]) = _
  refine congrArg (fun b => AOut.ret (.tup [effD, .d (.lit (.bool b))])) ?_
  simp [emp, zeroV]
theorem f85r (c : Ch) (hk : c.kind = 3) : AF Tryz.prog 85 [.d (eC c)] [] (fun o p => o = .ret (.tup [effR, .d (.lit (.bool (c.to == 0 && zeroV c.dflt)))]) ∧ p = []) := by
  refine AF.intro hT Tryz.func85 rfl (by kernel_rfl) (Nat.le_of_ble_eq_true rfl) ?_
  have n1 : (c.kind == 1) = false := by rw [hk]; rfl
  have n2 : (c.kind == 2) = false := by rw [hk]; rfl
  have y3 : (c.kind == 3) = true := by rw [hk]; rfl
  repeat (first | refine wA0 rfl rfl rfl rfl ?_ | refine AL.nil ?_ | refine AW.seq ?_ | refine AW.region ?_ | refine AW.block ?_ | refine sA rfl rfl rfl rfl rfl rfl rfl rfl rfl ?_ | refine bA rfl rfl rfl rfl rfl rfl ?_)
  refine AW.condF rfl n1 ?_
  repeat (first | refine wA0 rfl rfl rfl rfl ?_ | refine AL.nil ?_ | refine AW.seq ?_ | refine AW.region ?_)
  refine AW.condF rfl n2 ?_
  repeat (first | refine wA0 rfl rfl rfl rfl ?_ | refine AL.nil ?_ | refine AW.seq ?_ | refine AW.region ?_)
  refine AW.condT rfl y3 ?_
  repeat (first | refine AW.seq ?_ | refine AW.region ?_)
  refine AL.call0 rfl rfl rfl (f112) rfl rfl rfl ?_
  repeat' (first | refine wA0 rfl rfl rfl rfl ?_ | refine AL.nil ?_ | refine AW.seq ?_ | refine AW.region ?_ | refine dW ?_ | refine wG0 rfl rfl rfl rfl ?_ | refine sA rfl rfl rfl rfl rfl rfl rfl rfl rfl ?_ | refine sG rfl rfl rfl rfl rfl rfl rfl rfl rfl ?_ | refine nG ?_ | (refine AW.ret ?_; refine ⟨[], _, _, rfl, rfl, ⟨?_, rfl⟩, rfl⟩))
  show AOut.ret (.tup [effR, .d (.lit (.bool _))]) = _
  refine congrArg (fun b => AOut.ret (.tup [effR, .d (.lit (.bool b))])) ?_
  simp [zeroV]
theorem f85c (c : Ch) (hk : c.kind = 4) : AF Tryz.prog 85 [.d (eC c)] [] (fun o p => o = .ret (.tup [effC, .d (.lit (.bool (emp c.name)))]) ∧ p = []) := by
  refine AF.intro hT Tryz.func85 rfl (by kernel_rfl) (Nat.le_of_ble_eq_true rfl) ?_
  have n1 : (c.kind == 1) = false := by rw [hk]; rfl
  have n2 : (c.kind == 2) = false := by rw [hk]; rfl
  have n3 : (c.kind == 3) = false := by rw [hk]; rfl
  have y4 : (c.kind == 4) = true := by rw [hk]; rfl
  repeat (first | refine wA0 rfl rfl rfl rfl ?_ | refine AL.nil ?_ | refine AW.seq ?_ | refine AW.region ?_ | refine AW.block ?_ | refine sA rfl rfl rfl rfl rfl rfl rfl rfl rfl ?_ | refine bA rfl rfl rfl rfl rfl rfl ?_)
  refine AW.condF rfl n1 ?_
  repeat (first | refine wA0 rfl rfl rfl rfl ?_ | refine AL.nil ?_ | refine AW.seq ?_ | refine AW.region ?_)
  refine AW.condF rfl n2 ?_
  repeat (first | refine wA0 rfl rfl rfl rfl ?_ | refine AL.nil ?_ | refine AW.seq ?_ | refine AW.region ?_)
  refine AW.condF rfl n3 ?_
  repeat (first | refine wA0 rfl rfl rfl rfl ?_ | refine AL.nil ?_ | refine AW.seq ?_ | refine AW.region ?_)
  refine AW.condT rfl y4 ?_
  repeat (first | refine AW.seq ?_ | refine AW.region ?_)
  refine AL.call0 rfl rfl rfl (f113) rfl rfl rfl ?_
  repeat' (first | refine wA0 rfl rfl rfl rfl ?_ | refine AL.nil ?_ | refine AW.seq ?_ | refine AW.region ?_ | refine dW ?_ | refine wG0 rfl rfl rfl rfl ?_ | refine sA rfl rfl rfl rfl rfl rfl rfl rfl rfl ?_ | refine sG rfl rfl rfl rfl rfl rfl rfl rfl rfl ?_ | refine nG ?_ | (refine AW.ret ?_; refine ⟨[], _, _, rfl, rfl, ⟨?_, rfl⟩, rfl⟩))
  show AOut.ret (.tup [effC, .d (.lit (.bool _))]) = _
  refine congrArg (fun b => AOut.ret (.tup [effC, .d (.lit (.bool b))])) ?_
  simp [emp]
theorem f85x (c : Ch) (n1 : (c.kind == 1) = false) (n2 : (c.kind == 2) = false) (n3 : (c.kind == 3) = false) (n4 : (c.kind == 4) = false) : AF Tryz.prog 85 [.d (eC c)] [] (fun o p => o = .ret (.tup [.d (.agg [.lit (.bool false), .lit .nilFunc, .lit .nilFunc, .lit .nilFunc]), .d (.lit (.bool false))]) ∧ p = []) := by
  refine AF.intro hT Tryz.func85 rfl (by kernel_rfl) (Nat.le_of_ble_eq_true rfl) ?_
  repeat (first | refine wA0 rfl rfl rfl rfl ?_ | refine AL.nil ?_ | refine AW.seq ?_ | refine AW.region ?_ | refine AW.block ?_ | refine sA rfl rfl rfl rfl rfl rfl rfl rfl rfl ?_ | refine bA rfl rfl rfl rfl rfl rfl ?_)
  refine AW.condF rfl n1 ?_
  repeat (first | refine wA0 rfl rfl rfl rfl ?_ | refine AL.nil ?_ | refine AW.seq ?_ | refine AW.region ?_)
  refine AW.condF rfl n2 ?_
  repeat (first | refine wA0 rfl rfl rfl rfl ?_ | refine AL.nil ?_ | refine AW.seq ?_ | refine AW.region ?_)
  refine AW.condF rfl n3 ?_
  repeat (first | refine wA0 rfl rfl rfl rfl ?_ | refine AL.nil ?_ | refine AW.seq ?_ | refine AW.region ?_)
  refine AW.condF rfl n4 ?_
  repeat' (first | refine wA0 rfl rfl rfl rfl ?_ | refine AL.nil ?_ | refine AW.seq ?_ | refine AW.region ?_ | refine sA rfl rfl rfl rfl rfl rfl rfl rfl rfl ?_ | (refine AW.ret ?_; refine ⟨[], _, _, rfl, rfl, ⟨?_, rfl⟩, rfl⟩))
  rfl
end Go.Pv
namespace Go.Pv
open Go.RowKit Go.Proofs

/-- slices.Index, slices.Contains at numbers. -/
theorem f167 (l : List Int) (x : Int) (hl : l.length ≤ maxLen) : AF Tryz.prog 167 [.d (eIs l), .d (eI x)] [] (fun o p => o = .ret (.d (eI (idx (fun y => x == y) l))) ∧ p = []) := by
  refine AF.intro hT Tryz.func167 rfl (by kernel_rfl) (Nat.le_of_ble_eq_true rfl) ?_
  repeat (first | refine wA0 rfl rfl rfl rfl ?_ | refine AL.nil ?_ | refine AW.seq ?_ | refine AW.region ?_ | refine AW.block ?_)
  refine AW.weak (Weak.keep [0,1,7,8] [] rfl rfl) ?_
  refine AW.loop (I := fun n st => ∃ i : Nat, i + n = l.length ∧ (∀ k, k < i → (fun y => x == y) (l.getD k default) = false) ∧ st = ⟨19, [(0, .d (eIs l)), (1, .d (eI x)), (7, .d (eI l.length)), (8, .d (eI i))], []⟩) l.length ⟨0, by omega, fun k hk => by omega, rfl⟩ ?_
  rintro n st ⟨i, hi, hk, rfl⟩
  repeat (first | refine wA0 rfl rfl rfl rfl ?_ | refine AL.nil ?_ | refine AW.seq ?_ | refine AW.region ?_)
  refine AW.cond rfl (fun hlt => ?_) (fun hlt => ?_)
  · have hlt' : i < l.length := by simpa using hlt
    repeat (first | refine wA0 rfl rfl rfl rfl ?_ | refine AL.nil ?_ | refine AW.seq ?_ | refine AW.region ?_ | refine AW.skip ?_ | refine AW.block ?_)
    refine AW.cond rfl (fun hc => ?_) (fun hc => ?_)
    · repeat' (first | refine wA0 rfl rfl rfl rfl ?_ | refine AL.nil ?_ | refine AW.seq ?_ | refine AW.region ?_ | (refine AW.ret ?_; refine ⟨[], _, _, rfl, rfl, ⟨?_, rfl⟩, rfl⟩))
      exact congrArg (fun b => AOut.ret (.d (.lit (.int .i64 b)))) (idx_hit hlt' hk hc).symm
    · repeat (first | refine wA0 rfl rfl rfl rfl ?_ | refine AL.nil ?_ | refine AW.region ?_ | refine AW.skip ?_)
      refine ⟨n - 1, _, by omega, Weak.keep [0,1,7,8] [] rfl rfl, i + 1, by omega, le_step hk hc, ?_⟩
      rw [i64s (by omega)]
      rfl
  · obtain rfl : i = l.length := by
      have : ¬ ((i : Int) < (l.length : Int)) := by simpa using hlt
      omega
    repeat' (first | refine wA0 rfl rfl rfl rfl ?_ | refine AL.nil ?_ | refine AW.seq ?_ | refine AW.region ?_ | refine AW.exit ?_ | (refine AW.ret ?_; refine ⟨[], _, _, rfl, rfl, ⟨?_, rfl⟩, rfl⟩))
    exact congrArg (fun b => AOut.ret (.d (.lit (.int .i64 b)))) (idx_miss hk).symm
def hasI (l : List Int) (x : Int) : Bool := decide (idx (fun y => x == y) l ≥ 0)
theorem f136 (l : List Int) (x : Int) (hl : l.length ≤ maxLen) : AF Tryz.prog 136 [.d (eIs l), .d (eI x)] [] (fun o p => o = .ret (.d (.lit (.bool (hasI l x)))) ∧ p = []) := by
  refine AF.intro hT Tryz.func136 rfl (by kernel_rfl) (Nat.le_of_ble_eq_true rfl) ?_
  repeat (first | refine wA0 rfl rfl rfl rfl ?_ | refine AL.nil ?_ | refine AW.seq ?_ | refine AW.region ?_)
  refine AL.call0 rfl rfl rfl (f167 l x hl) rfl rfl rfl ?_
  repeat' (first | refine wA0 rfl rfl rfl rfl ?_ | refine AL.nil ?_ | (refine AW.ret ?_; refine ⟨[], _, _, rfl, rfl, ⟨?_, rfl⟩, rfl⟩))
  rfl
/-- schema.typed. -/
def typedF (c : Ch) : Bool := bif (bif decide (c.to ≥ 1) then decide (c.to ≤ 4) else false) then fitF c.to c.dflt else false
theorem f131 (c : Ch) : AF Tryz.prog 131 [.d (eC c)] [] (fun o p => o = .ret (.d (.lit (.bool (typedF c)))) ∧ p = []) := by
  refine AF.intro hT Tryz.func131 rfl (by kernel_rfl) (Nat.le_of_ble_eq_true rfl) ?_
  repeat (first | refine wA0 rfl rfl rfl rfl ?_ | refine wA1 rfl rfl rfl rfl rfl ?_ | refine AL.nil ?_ | refine AW.seq ?_ | refine AW.region ?_ | refine bA rfl rfl rfl rfl rfl rfl ?_)
  refine kA1 rfl rfl rfl rfl (fun hγ => f62 _ _ _ _) rfl rfl rfl ?_
  repeat' (first | refine wA0 rfl rfl rfl rfl ?_ | refine AL.nil ?_ | (refine AW.ret ?_; refine ⟨[], _, _, rfl, rfl, ⟨?_, rfl⟩, rfl⟩))
  rfl
/-- schema.fresh. -/
def freshF (t : Tb) (c : Ch) : Int := bif !nameF c.name then 1 else bif decide (columnF t.attrs c.name ≥ 0) then 9 else 0
structure OkT (t : Tb) : Prop where
  attrs : t.attrs.length ≤ maxLen
  was : ∀ a, a ∈ t.attrs → a.was.length ≤ maxLen
  key : t.key.length ≤ maxLen
theorem f132 (t : Tb) (c : Ch) (ht : OkT t) (hn : c.name.size ≤ maxLen) : AF Tryz.prog 132 [.d (eT t), .d (eC c)] [] (fun o p => o = .ret (.d (eI (freshF t c))) ∧ p = []) := by
  refine AF.intro hT Tryz.func132 rfl (by kernel_rfl) (Nat.le_of_ble_eq_true rfl) ?_
  repeat (first | refine wA0 rfl rfl rfl rfl ?_ | refine AL.nil ?_ | refine AW.seq ?_ | refine AW.region ?_ | refine AW.block ?_ | refine bA rfl rfl rfl rfl rfl rfl ?_)
  refine AL.call0 rfl rfl rfl (f93 c.name hn) rfl rfl rfl ?_
  repeat (first | refine wA0 rfl rfl rfl rfl ?_ | refine AL.nil ?_)
  refine AW.cond rfl (fun h1 => ?_) (fun h1 => ?_)
  · repeat' (first | refine wA0 rfl rfl rfl rfl ?_ | refine AL.nil ?_ | refine AW.seq ?_ | refine AW.region ?_ | (refine AW.ret ?_; refine ⟨[], _, _, rfl, rfl, ⟨?_, rfl⟩, rfl⟩))
    refine congrArg (fun b => AOut.ret (.d (.lit (.int .i64 b)))) ?_
    simp only [freshF, h1, cond_true]
  · repeat (first | refine wA0 rfl rfl rfl rfl ?_ | refine AW.seq ?_ | refine AW.region ?_)
    refine AL.call0 rfl rfl rfl (f29 t c.name ht.attrs ht.was) rfl rfl rfl ?_
    repeat (first | refine wA0 rfl rfl rfl rfl ?_ | refine AL.nil ?_)
    refine AW.cond rfl (fun h2 => ?_) (fun h2 => ?_)
    · repeat' (first | refine wA0 rfl rfl rfl rfl ?_ | refine AL.nil ?_ | refine AW.seq ?_ | refine AW.region ?_ | (refine AW.ret ?_; refine ⟨[], _, _, rfl, rfl, ⟨?_, rfl⟩, rfl⟩))
      refine congrArg (fun b => AOut.ret (.d (.lit (.int .i64 b)))) ?_
      simp only [freshF, h1, h2, cond_true, cond_false]
    · repeat' (first | refine wA0 rfl rfl rfl rfl ?_ | refine AL.nil ?_ | refine AW.seq ?_ | refine AW.region ?_ | refine AW.skip ?_ | (refine AW.ret ?_; refine ⟨[], _, _, rfl, rfl, ⟨?_, rfl⟩, rfl⟩))
      refine congrArg (fun b => AOut.ret (.d (.lit (.int .i64 b)))) ?_
      simp only [freshF, h1, h2, cond_false]
/-- The checks of the four kinds. -/
def checkA (t : Tb) (c : Ch) : Int := bif !typedF c then 1 else bif !(freshF t c == 0) then freshF t c else bif (t.attrs.length : Int) == 12 then 3 else 0
theorem f130 (t : Tb) (c : Ch) (a : Int) (ht : OkT t) (hn : c.name.size ≤ maxLen) : AF Tryz.prog 130 [.d (eT t), .d (eC c), .d (eI a)] [] (fun o p => o = .ret (.d (eI (checkA t c))) ∧ p = []) := by
  refine AF.intro hT Tryz.func130 rfl (by kernel_rfl) (Nat.le_of_ble_eq_true rfl) ?_
  repeat (first | refine wA0 rfl rfl rfl rfl ?_ | refine AL.nil ?_ | refine AW.seq ?_ | refine AW.region ?_ | refine bA rfl rfl rfl rfl rfl rfl ?_)
  refine AL.call0 rfl rfl rfl (f131 c) rfl rfl rfl ?_
  repeat (first | refine wA0 rfl rfl rfl rfl ?_ | refine AL.nil ?_)
  refine AW.cond rfl (fun h1 => ?_) (fun h1 => ?_)
  · repeat' (first | refine wA0 rfl rfl rfl rfl ?_ | refine AL.nil ?_ | refine AW.seq ?_ | refine AW.region ?_ | (refine AW.ret ?_; refine ⟨[], _, _, rfl, rfl, ⟨?_, rfl⟩, rfl⟩))
    refine congrArg (fun b => AOut.ret (.d (.lit (.int .i64 b)))) ?_
    simp only [checkA, h1, cond_true]
  · repeat (first | refine wA0 rfl rfl rfl rfl ?_ | refine AW.seq ?_ | refine AW.region ?_ | refine AW.skip ?_)
    refine AL.call0 rfl rfl rfl (f132 t c ht hn) rfl rfl rfl ?_
    repeat (first | refine wA0 rfl rfl rfl rfl ?_ | refine AL.nil ?_ | refine AW.seq ?_ | refine AW.region ?_)
    refine AW.cond rfl (fun h2 => ?_) (fun h2 => ?_)
    · repeat' (first | refine wA0 rfl rfl rfl rfl ?_ | refine AL.nil ?_ | refine AW.seq ?_ | refine AW.region ?_ | (refine AW.ret ?_; refine ⟨[], _, _, rfl, rfl, ⟨?_, rfl⟩, rfl⟩))
      refine congrArg (fun b => AOut.ret (.d (.lit (.int .i64 b)))) ?_
      have h2' : (!(freshF t c == 0)) = true := h2
      simp only [checkA, h1, h2', cond_true, cond_false]
    · have h2' : (!(freshF t c == 0)) = false := h2
      repeat (first | refine wA0 rfl rfl rfl rfl ?_ | refine AL.nil ?_ | refine AW.seq ?_ | refine AW.region ?_ | refine AW.skip ?_)
      refine AW.cond rfl (fun h3 => ?_) (fun h3 => ?_)
      · repeat' (first | refine wA0 rfl rfl rfl rfl ?_ | refine AL.nil ?_ | refine AW.seq ?_ | refine AW.region ?_ | (refine AW.ret ?_; refine ⟨[], _, _, rfl, rfl, ⟨?_, rfl⟩, rfl⟩))
        refine congrArg (fun b => AOut.ret (.d (.lit (.int .i64 b)))) ?_
        have h3' : ((t.attrs.length : Int) == 12) = true := h3
        simp only [checkA, h1, h2', h3', cond_true, cond_false]
      · repeat' (first | refine wA0 rfl rfl rfl rfl ?_ | refine AL.nil ?_ | refine AW.seq ?_ | refine AW.region ?_ | refine AW.skip ?_ | (refine AW.ret ?_; refine ⟨[], _, _, rfl, rfl, ⟨?_, rfl⟩, rfl⟩))
        refine congrArg (fun b => AOut.ret (.d (.lit (.int .i64 b)))) ?_
        have h3' : ((t.attrs.length : Int) == 12) = false := h3
        simp only [checkA, h1, h2', h3', cond_false]
def checkD (t : Tb) (a : Int) : Int := bif hasI t.key a then 1 else 0
theorem f135 (t : Tb) (c : Ch) (a : Int) (ht : OkT t) : AF Tryz.prog 135 [.d (eT t), .d (eC c), .d (eI a)] [] (fun o p => o = .ret (.d (eI (checkD t a))) ∧ p = []) := by
  refine AF.intro hT Tryz.func135 rfl (by kernel_rfl) (Nat.le_of_ble_eq_true rfl) ?_
  repeat (first | refine wA0 rfl rfl rfl rfl ?_ | refine AL.nil ?_ | refine AW.seq ?_ | refine AW.region ?_ | refine bA rfl rfl rfl rfl rfl rfl ?_)
  refine AL.call0 rfl rfl rfl (f136 t.key a ht.key) rfl rfl rfl ?_
  repeat (refine AL.nil ?_)
  refine AW.cond rfl (fun h1 => ?_) (fun h1 => ?_)
  · repeat' (first | refine wA0 rfl rfl rfl rfl ?_ | refine AL.nil ?_ | refine AW.seq ?_ | refine AW.region ?_ | (refine AW.ret ?_; refine ⟨[], _, _, rfl, rfl, ⟨?_, rfl⟩, rfl⟩))
    refine congrArg (fun b => AOut.ret (.d (.lit (.int .i64 b)))) ?_
    simp only [checkD, h1, cond_true]
  · repeat' (first | refine wA0 rfl rfl rfl rfl ?_ | refine AL.nil ?_ | refine AW.seq ?_ | refine AW.region ?_ | refine AW.skip ?_ | (refine AW.ret ?_; refine ⟨[], _, _, rfl, rfl, ⟨?_, rfl⟩, rfl⟩))
    refine congrArg (fun b => AOut.ret (.d (.lit (.int .i64 b)))) ?_
    simp only [checkD, h1, cond_false]
theorem f141 (t : Tb) (c : Ch) (a : Int) (ht : OkT t) (hn : c.name.size ≤ maxLen) : AF Tryz.prog 141 [.d (eT t), .d (eC c), .d (eI a)] [] (fun o p => o = .ret (.d (eI (freshF t c))) ∧ p = []) := by
  refine AF.intro hT Tryz.func141 rfl (by kernel_rfl) (Nat.le_of_ble_eq_true rfl) ?_
  repeat (first | refine wA0 rfl rfl rfl rfl ?_ | refine AL.nil ?_ | refine AW.seq ?_ | refine AW.region ?_ | refine bA rfl rfl rfl rfl rfl rfl ?_)
  refine AL.call0 rfl rfl rfl (f132 t c ht hn) rfl rfl rfl ?_
  repeat' (first | refine wA0 rfl rfl rfl rfl ?_ | refine AL.nil ?_ | (refine AW.ret ?_; refine ⟨[], _, _, rfl, rfl, ⟨?_, rfl⟩, rfl⟩))
  rfl
def checkC (t : Tb) (c : Ch) (a : Nat) : Int := bif (bif !typedF c then true else (t.attrs.getD a default).kind == c.to) then 1 else 0
theorem f145 (t : Tb) (c : Ch) (a : Nat) (ha : a < t.attrs.length) : AF Tryz.prog 145 [.d (eT t), .d (eC c), .d (eI a)] [] (fun o p => o = .ret (.d (eI (checkC t c a))) ∧ p = []) := by
  refine AF.intro hT Tryz.func145 rfl (by kernel_rfl) (Nat.le_of_ble_eq_true rfl) ?_
  repeat (first | refine wA0 rfl rfl rfl rfl ?_ | refine AL.nil ?_ | refine AW.seq ?_ | refine AW.region ?_ | refine dW ?_ | refine wG0 rfl rfl rfl rfl ?_ | refine bA rfl rfl rfl rfl rfl rfl ?_)
  refine DG.call0 rfl rfl rfl (f131 c) rfl rfl rfl ?_
  repeat (first | refine wG0 rfl rfl rfl rfl ?_ | refine wG1 rfl rfl rfl rfl rfl ?_ | refine nG ?_)
  refine AW.cond rfl (fun h1 => ?_) (fun h1 => ?_)
  · have h1' : (bif !typedF c then true else (t.attrs.getD a default).kind == c.to) = true := h1
    repeat' (first | refine wA0 rfl rfl rfl rfl ?_ | refine AL.nil ?_ | refine AW.seq ?_ | refine AW.region ?_ | (refine AW.ret ?_; refine ⟨[], _, _, rfl, rfl, ⟨?_, rfl⟩, rfl⟩))
    refine congrArg (fun b => AOut.ret (.d (.lit (.int .i64 b)))) ?_
    simp only [checkC, h1', cond_true]
  · have h1' : (bif !typedF c then true else (t.attrs.getD a default).kind == c.to) = false := h1
    repeat' (first | refine wA0 rfl rfl rfl rfl ?_ | refine AL.nil ?_ | refine AW.seq ?_ | refine AW.region ?_ | refine AW.skip ?_ | (refine AW.ret ?_; refine ⟨[], _, _, rfl, rfl, ⟨?_, rfl⟩, rfl⟩))
    refine congrArg (fun b => AOut.ret (.d (.lit (.int .i64 b)))) ?_
    simp only [checkC, h1', cond_false]
end Go.Pv
