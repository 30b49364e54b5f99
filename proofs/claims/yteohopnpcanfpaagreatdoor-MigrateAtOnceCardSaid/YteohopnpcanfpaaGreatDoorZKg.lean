/- Part of the proofs over this seat: V1 V2 V3 V4 V5. -/
import Derived.Test.YteohopnpcanfpaaGreatDoorZKe
import Derived.Test.YteohopnpcanfpaaGreatDoorZKd
set_option maxRecDepth 100000
namespace Go.Pv
open Go.RowKit Go.Proofs

theorem i64s {i : Nat} (h : i < maxLen) : IntKind.i64.wrap ((i : Int) + 1) = ((i + 1 : Nat) : Int) := by
  rw [IntWalk.i64_in _ (by simp only [maxLen] at h; omega)]; rfl

theorem toList_nil : ByteArray.toList ⟨#[]⟩ = [] := by
  unfold ByteArray.toList
  rw [ByteArray.toList.loop]
  simp
  intro h
  exact absurd h (by decide)
/-- The index of the first element of a kind, or -1. -/
def idx {α : Type} (p : α → Bool) (l : List α) : Int := if l.findIdx p < l.length then (l.findIdx p : Int) else -1
theorem idx_hit {α : Type} [Inhabited α] {p : α → Bool} {l : List α} {i : Nat} (hi : i < l.length) (h1 : ∀ k, k < i → p (l.getD k default) = false) (h2 : p (l.getD i default) = true) : idx p l = i := by
  have : l.findIdx p = i := by
    rw [List.findIdx_eq hi]
    refine ⟨by simpa [List.getD_eq_getElem?_getD, hi] using h2, fun j hj => ?_⟩
    have := h1 j hj
    simpa [List.getD_eq_getElem?_getD, Nat.lt_trans hj hi] using this
  simp [idx, this, hi]
theorem idx_miss {α : Type} [Inhabited α] {p : α → Bool} {l : List α} (h1 : ∀ k, k < l.length → p (l.getD k default) = false) : idx p l = -1 := by
  have : l.findIdx p = l.length := by
    rw [List.findIdx_eq_length]
    intro x hx
    obtain ⟨k, hk, rfl⟩ := List.getElem_of_mem hx
    have := h1 k hk
    simpa [List.getD_eq_getElem?_getD, hk] using this
  simp [idx, this]

/-- value.Valid. -/
def vvalid (v : Vl) : Bool :=
  bif bif v.kind != 1 then !(v.text.toList == []) else false then false
  else bif v.kind == 0 then bif decide (0 ≤ v.n) then decide (v.n ≤ 0) else false
  else bif v.kind == 1 then bif decide ((v.text.size : Int) > 200) then false else bif decide (0 ≤ v.n) then decide (v.n ≤ 0) else false
  else bif v.kind == 2 then bif decide (-1000000000 ≤ v.n) then decide (v.n ≤ 1000000000) else false
  else bif v.kind == 3 then bif decide (0 ≤ v.n) then decide (v.n ≤ 73048) else false
  else bif v.kind == 4 then bif decide (0 ≤ v.n) then decide (v.n ≤ 1) else false
  else false
theorem f70 (k n : Int) (s : Bs) : AF Tryz.prog 70 [.d (.agg [eI k, eI n, eS s])] [] (fun o p => o = .ret (.d (.lit (.bool (vvalid ⟨k, n, s⟩)))) ∧ p = []) := by
  refine AF.intro hT Tryz.func70 rfl (by kernel_rfl) (Nat.le_of_ble_eq_true rfl) ?_
  repeat' (first | refine wA0 rfl rfl rfl rfl ?_ | refine wA1 rfl rfl rfl rfl rfl ?_ | refine AL.nil ?_ | refine AW.seq ?_ | refine AW.region ?_ | refine AW.skip ?_ | refine AW.block ?_ | refine bA rfl rfl rfl rfl rfl rfl ?_ | (refine AW.cond rfl ?_ ?_ <;> intro hc) | (refine AW.ret ?_; refine ⟨[], _, _, rfl, rfl, ⟨?_, rfl⟩, rfl⟩))
  all_goals refine congrArg (fun b => AOut.ret (.d (.lit (.bool b)))) ?_
  all_goals (simp only [toList_nil] at *; simp only [vvalid, *, cond_true, cond_false])

/-- schema.fit. -/
def fitF (kind : Int) (v : Vl) : Bool := bif vvalid v then (bif v.kind == 0 then true else v.kind == kind) else false
theorem f62 (kind k n : Int) (s : Bs) : AF Tryz.prog 62 [.d (eI kind), .d (.agg [eI k, eI n, eS s])] [] (fun o p => o = .ret (.d (.lit (.bool (fitF kind ⟨k, n, s⟩)))) ∧ p = []) := by
  refine AF.intro hT Tryz.func62 rfl (by kernel_rfl) (Nat.le_of_ble_eq_true rfl) ?_
  repeat' (first | refine wA0 rfl rfl rfl rfl ?_ | refine AL.nil ?_ | refine AW.seq ?_ | refine AW.region ?_ | refine bA rfl rfl rfl rfl rfl rfl ?_)
  refine AL.call0 rfl rfl rfl (f70 _ _ _) rfl rfl rfl ?_
  repeat' (first | refine wA0 rfl rfl rfl rfl ?_ | refine wA1 rfl rfl rfl rfl rfl ?_ | refine AL.nil ?_ | (refine AW.ret ?_; refine ⟨[], _, _, rfl, rfl, ⟨?_, rfl⟩, rfl⟩))
  all_goals refine congrArg (fun b => AOut.ret (.d (.lit (.bool b)))) ?_
  all_goals simp only [fitF]
end Go.Pv
namespace Go.Pv
open Go.RowKit Go.Proofs

theorem le_step {p : Nat → Prop} {i : Nat} (h : ∀ k, k < i → p k) (hi : p i) : ∀ k, k < i + 1 → p k := fun k hk => by
  rcases Nat.lt_or_ge k i with h1 | h1
  · exact h k h1
  · rw [show k = i by omega]; exact hi
/-- schema.name: a byte of a name. -/
def chF (i : Nat) (c : Int) : Bool :=
  bif bif decide (c ≥ 97) then decide (c ≤ 122) else false then true
  else bif bif decide (c ≥ 65) then decide (c ≤ 90) else false then true
  else bif decide ((i : Int) > 0) then bif bif decide (c ≥ 48) then decide (c ≤ 57) else false then true else c == 95 else false
def nameF (s : Bs) : Bool := (List.range s.size).all (fun i => chF i (byteAt s i)) && bif !(s.toList == []) then decide ((s.size : Int) ≤ 24) else false
theorem nameF_miss {s : Bs} {i : Nat} (hi : i < s.size) (h : chF i (byteAt s i) = false) : nameF s = false := by
  have : (List.range s.size).all (fun i => chF i (byteAt s i)) = false := by
    rw [List.all_eq_false]
    exact ⟨i, List.mem_range.2 hi, by simpa using h⟩
  rw [nameF, this, Bool.false_and]
theorem nameF_all {s : Bs} (h : ∀ i, i < s.size → chF i (byteAt s i) = true) : nameF s = bif !(s.toList == []) then decide ((s.size : Int) ≤ 24) else false := by
  have : (List.range s.size).all (fun i => chF i (byteAt s i)) = true := by
    rw [List.all_eq_true]
    intro i hi
    exact h i (List.mem_range.1 hi)
  rw [nameF, this, Bool.true_and]
theorem f93 (s : Bs) (hs : s.size ≤ maxLen) : AF Tryz.prog 93 [.d (eS s)] [] (fun o p => o = .ret (.d (.lit (.bool (nameF s)))) ∧ p = []) := by
  refine AF.intro hT Tryz.func93 rfl (by kernel_rfl) (Nat.le_of_ble_eq_true rfl) ?_
  repeat (first | refine wA0 rfl rfl rfl rfl ?_ | refine AL.nil ?_ | refine AW.seq ?_ | refine AW.region ?_ | refine AW.block ?_)
  refine AW.weak (Weak.keep [0,6,7] [] rfl rfl) ?_
  refine AW.loop (I := fun n st => ∃ i : Nat, i + n = s.size ∧ (∀ k, k < i → chF k (byteAt s k) = true) ∧ st = ⟨49, [(0, .d (eS s)), (6, .d (eI s.size)), (7, .d (eI i))], []⟩) s.size ⟨0, by omega, fun k hk => by omega, rfl⟩ ?_
  rintro n st ⟨i, hi, hk, rfl⟩
  repeat (first | refine wA0 rfl rfl rfl rfl ?_ | refine AL.nil ?_ | refine AW.seq ?_ | refine AW.region ?_)
  refine AW.cond rfl (fun hlt => ?_) (fun hlt => ?_)
  · have hlt' : i < s.size := by simpa using hlt
    repeat' (first | refine wA0 rfl rfl rfl rfl ?_ | refine wA1 rfl rfl rfl rfl rfl ?_ | refine AL.nil ?_ | refine AW.seq ?_ | refine AW.region ?_ | refine AW.skip ?_ | refine AW.block ?_ | refine AW.condT rfl (by assumption) ?_ | (refine AW.cond rfl ?_ ?_ <;> intro hc) | (refine AW.ret ?_; refine ⟨[], _, _, rfl, rfl, ⟨?_, rfl⟩, rfl⟩))
    all_goals simp only [Int.toNat_natCast] at *
    all_goals first
      | (refine congrArg (fun b => AOut.ret (.d (.lit (.bool b)))) (nameF_miss hlt' ?_).symm; simp only [chF, *, cond_false]; done)
      | (refine ⟨n - 1, _, by omega, Weak.keep [0,6,7] [] rfl rfl, i + 1, by omega, le_step hk ?_, ?_⟩
         · simp only [chF, *, cond_true, cond_false]
         · rw [i64s (by omega)]
           rfl)
  · have hge : i = s.size := by
      have : ¬ ((i : Int) < (s.size : Int)) := by simpa using hlt
      omega
    subst hge
    repeat' (first | refine wA0 rfl rfl rfl rfl ?_ | refine wA1 rfl rfl rfl rfl rfl ?_ | refine AL.nil ?_ | refine AW.seq ?_ | refine AW.region ?_ | refine AW.exit ?_ | (refine AW.ret ?_; refine ⟨[], _, _, rfl, rfl, ⟨?_, rfl⟩, rfl⟩))
    refine congrArg (fun b => AOut.ret (.d (.lit (.bool b)))) ?_
    rw [nameF_all hk]
    simp only [toList_nil]
end Go.Pv
namespace Go.Pv
open Go.RowKit Go.Proofs

theorem mem_getD {α : Type} [Inhabited α] {l : List α} {i : Nat} (h : i < l.length) : l.getD i default ∈ l := by
  rw [List.getD_eq_getElem?_getD, List.getElem?_eq_getElem h]
  exact List.getElem_mem h
/-- Two texts are equal. -/
def eqS (a b : Bs) : Bool := a.toList == b.toList
/-- slices.Index at texts. -/
theorem f99 (l : List Bs) (x : Bs) (hl : l.length ≤ maxLen) : AF Tryz.prog 99 [.d (eSs l), .d (eS x)] [] (fun o p => o = .ret (.d (eI (idx (fun y => eqS x y) l))) ∧ p = []) := by
  refine AF.intro hT Tryz.func99 rfl (by kernel_rfl) (Nat.le_of_ble_eq_true rfl) ?_
  repeat (first | refine wA0 rfl rfl rfl rfl ?_ | refine AL.nil ?_ | refine AW.seq ?_ | refine AW.region ?_ | refine AW.block ?_)
  refine AW.weak (Weak.keep [0,1,7,8] [] rfl rfl) ?_
  refine AW.loop (I := fun n st => ∃ i : Nat, i + n = l.length ∧ (∀ k, k < i → (fun y => eqS x y) (l.getD k default) = false) ∧ st = ⟨19, [(0, .d (eSs l)), (1, .d (eS x)), (7, .d (eI l.length)), (8, .d (eI i))], []⟩) l.length ⟨0, by omega, fun k hk => by omega, rfl⟩ ?_
  rintro n st ⟨i, hi, hk, rfl⟩
  repeat (first | refine wA0 rfl rfl rfl rfl ?_ | refine AL.nil ?_ | refine AW.seq ?_ | refine AW.region ?_)
  refine AW.cond rfl (fun hlt => ?_) (fun hlt => ?_)
  · have hlt' : i < l.length := by simpa using hlt
    repeat (first | refine wA0 rfl rfl rfl rfl ?_ | refine AL.nil ?_ | refine AW.seq ?_ | refine AW.region ?_ | refine AW.skip ?_ | refine AW.block ?_)
    skip
    refine AW.cond rfl (fun hc => ?_) (fun hc => ?_)
    · repeat' (first | refine wA0 rfl rfl rfl rfl ?_ | refine AL.nil ?_ | refine AW.seq ?_ | refine AW.region ?_ | (refine AW.ret ?_; refine ⟨[], _, _, rfl, rfl, ⟨?_, rfl⟩, rfl⟩))
      exact congrArg (fun b => AOut.ret (.d (.lit (.int .i64 b)))) (idx_hit hlt' hk hc).symm
    · repeat (first | refine wA0 rfl rfl rfl rfl ?_ | refine AL.nil ?_ | refine AW.region ?_ | refine AW.skip ?_)
      refine ⟨n - 1, _, by omega, Weak.keep [0,1,7,8] [] rfl rfl, i + 1, by omega, le_step hk hc, ?_⟩
      rw [i64s (by omega)]
      rfl
  · obtain rfl : i = l.length := by
      have : ¬ ((i : Int) < (l.length : Int)) := by simpa using hlt
      omega
    repeat' (first | refine wA0 rfl rfl rfl rfl ?_ | refine AL.nil ?_ | refine AW.seq ?_ | refine AW.region ?_ | refine AW.exit ?_ | (refine AW.ret ?_; refine ⟨[], _, _, rfl, rfl, ⟨?_, rfl⟩, rfl⟩))
    exact congrArg (fun b => AOut.ret (.d (.lit (.int .i64 b)))) (idx_miss hk).symm
/-- slices.Contains at texts. -/
def hasS (l : List Bs) (x : Bs) : Bool := decide (idx (fun y => eqS x y) l ≥ 0)
theorem f67 (l : List Bs) (x : Bs) (hl : l.length ≤ maxLen) : AF Tryz.prog 67 [.d (eSs l), .d (eS x)] [] (fun o p => o = .ret (.d (.lit (.bool (hasS l x)))) ∧ p = []) := by
  refine AF.intro hT Tryz.func67 rfl (by kernel_rfl) (Nat.le_of_ble_eq_true rfl) ?_
  repeat (first | refine wA0 rfl rfl rfl rfl ?_ | refine AL.nil ?_ | refine AW.seq ?_ | refine AW.region ?_)
  refine AL.call0 rfl rfl rfl (f99 l x hl) rfl rfl rfl ?_
  repeat' (first | refine wA0 rfl rfl rfl rfl ?_ | refine AL.nil ?_ | (refine AW.ret ?_; refine ⟨[], _, _, rfl, rfl, ⟨?_, rfl⟩, rfl⟩))
  rfl
/-- slices.IndexFunc. -/
theorem f60 (l : List Tb) (F : FuncId) (x : Bs) (q : Tb → Bool) (hl : l.length ≤ maxLen) (hf : ∀ t, t ∈ l → AF Tryz.prog F [.d (eT t), .ptr (.par 0) 0] [.cells [.d (eS x)]] (fun o p => o = .ret (.d (.lit (.bool (q t)))) ∧ p = [.cells [.d (eS x)]])) :
    AF Tryz.prog 60 [.d (eTs l), .fn (.func F) [] [.ptr (.par 0) 0]] [.cells [.d (eS x)]] (fun o p => o = .ret (.d (eI (idx q l))) ∧ p = [.cells [.d (eS x)]]) := by
  refine AF.intro hT Tryz.func60 rfl (by kernel_rfl) (Nat.le_of_ble_eq_true rfl) ?_
  repeat (first | refine wA0 rfl rfl rfl rfl ?_ | refine AL.nil ?_ | refine AW.seq ?_ | refine AW.region ?_ | refine AW.block ?_)
  refine AW.weak (Weak.keep [0,1,7,8] [.par 0] rfl rfl) ?_
  refine AW.loop (I := fun n st => ∃ i : Nat, i + n = l.length ∧ (∀ k, k < i → q (l.getD k default) = false) ∧ st = ⟨19, [(0, .d (eTs l)), (1, .fn (.func F) [] [.ptr (.par 0) 0]), (7, .d (eI l.length)), (8, .d (eI i))], [(.par 0, .cells [.d (eS x)])]⟩) l.length ⟨0, by omega, fun k hk => by omega, rfl⟩ ?_
  rintro n st ⟨i, hi, hk, rfl⟩
  repeat (first | refine wA0 rfl rfl rfl rfl ?_ | refine AL.nil ?_ | refine AW.seq ?_ | refine AW.region ?_)
  refine AW.cond rfl (fun hlt => ?_) (fun hlt => ?_)
  · have hlt' : i < l.length := by simpa using hlt
    repeat (first | refine wA0 rfl rfl rfl rfl ?_ | refine AL.nil ?_ | refine AW.seq ?_ | refine AW.region ?_ | refine AW.skip ?_ | refine AW.block ?_)
    refine AL.effN _ (VE.call [.par 0] [] rfl rfl rfl rfl rfl (hf _ (mem_getD hlt')) (fun _ _ h => h) rfl) rfl rfl rfl rfl rfl ?_
    repeat (refine AL.nil ?_)
    refine AW.cond rfl (fun hc => ?_) (fun hc => ?_)
    · repeat' (first | refine wA0 rfl rfl rfl rfl ?_ | refine AL.nil ?_ | refine AW.seq ?_ | refine AW.region ?_ | (refine AW.ret ?_; refine ⟨[], _, _, rfl, rfl, ⟨?_, rfl⟩, rfl⟩))
      exact congrArg (fun b => AOut.ret (.d (.lit (.int .i64 b)))) (idx_hit hlt' hk hc).symm
    · repeat (first | refine wA0 rfl rfl rfl rfl ?_ | refine AL.nil ?_ | refine AW.region ?_ | refine AW.skip ?_)
      refine ⟨n - 1, _, by omega, Weak.keep [0,1,7,8] [.par 0] rfl rfl, i + 1, by omega, le_step hk hc, ?_⟩
      rw [i64s (by omega)]
      rfl
  · obtain rfl : i = l.length := by
      have : ¬ ((i : Int) < (l.length : Int)) := by simpa using hlt
      omega
    repeat' (first | refine wA0 rfl rfl rfl rfl ?_ | refine AL.nil ?_ | refine AW.seq ?_ | refine AW.region ?_ | refine AW.exit ?_ | (refine AW.ret ?_; refine ⟨[], _, _, rfl, rfl, ⟨?_, rfl⟩, rfl⟩))
    exact congrArg (fun b => AOut.ret (.d (.lit (.int .i64 b)))) (idx_miss hk).symm
/-- slices.IndexFunc. -/
theorem f64 (l : List At) (F : FuncId) (x : Bs) (q : At → Bool) (hl : l.length ≤ maxLen) (hf : ∀ t, t ∈ l → AF Tryz.prog F [.d (eA t), .ptr (.par 0) 0] [.cells [.d (eS x)]] (fun o p => o = .ret (.d (.lit (.bool (q t)))) ∧ p = [.cells [.d (eS x)]])) :
    AF Tryz.prog 64 [.d (eAs l), .fn (.func F) [] [.ptr (.par 0) 0]] [.cells [.d (eS x)]] (fun o p => o = .ret (.d (eI (idx q l))) ∧ p = [.cells [.d (eS x)]]) := by
  refine AF.intro hT Tryz.func64 rfl (by kernel_rfl) (Nat.le_of_ble_eq_true rfl) ?_
  repeat (first | refine wA0 rfl rfl rfl rfl ?_ | refine AL.nil ?_ | refine AW.seq ?_ | refine AW.region ?_ | refine AW.block ?_)
  refine AW.weak (Weak.keep [0,1,7,8] [.par 0] rfl rfl) ?_
  refine AW.loop (I := fun n st => ∃ i : Nat, i + n = l.length ∧ (∀ k, k < i → q (l.getD k default) = false) ∧ st = ⟨19, [(0, .d (eAs l)), (1, .fn (.func F) [] [.ptr (.par 0) 0]), (7, .d (eI l.length)), (8, .d (eI i))], [(.par 0, .cells [.d (eS x)])]⟩) l.length ⟨0, by omega, fun k hk => by omega, rfl⟩ ?_
  rintro n st ⟨i, hi, hk, rfl⟩
  repeat (first | refine wA0 rfl rfl rfl rfl ?_ | refine AL.nil ?_ | refine AW.seq ?_ | refine AW.region ?_)
  refine AW.cond rfl (fun hlt => ?_) (fun hlt => ?_)
  · have hlt' : i < l.length := by simpa using hlt
    repeat (first | refine wA0 rfl rfl rfl rfl ?_ | refine AL.nil ?_ | refine AW.seq ?_ | refine AW.region ?_ | refine AW.skip ?_ | refine AW.block ?_)
    refine AL.effN _ (VE.call [.par 0] [] rfl rfl rfl rfl rfl (hf _ (mem_getD hlt')) (fun _ _ h => h) rfl) rfl rfl rfl rfl rfl ?_
    repeat (refine AL.nil ?_)
    refine AW.cond rfl (fun hc => ?_) (fun hc => ?_)
    · repeat' (first | refine wA0 rfl rfl rfl rfl ?_ | refine AL.nil ?_ | refine AW.seq ?_ | refine AW.region ?_ | (refine AW.ret ?_; refine ⟨[], _, _, rfl, rfl, ⟨?_, rfl⟩, rfl⟩))
      exact congrArg (fun b => AOut.ret (.d (.lit (.int .i64 b)))) (idx_hit hlt' hk hc).symm
    · repeat (first | refine wA0 rfl rfl rfl rfl ?_ | refine AL.nil ?_ | refine AW.region ?_ | refine AW.skip ?_)
      refine ⟨n - 1, _, by omega, Weak.keep [0,1,7,8] [.par 0] rfl rfl, i + 1, by omega, le_step hk hc, ?_⟩
      rw [i64s (by omega)]
      rfl
  · obtain rfl : i = l.length := by
      have : ¬ ((i : Int) < (l.length : Int)) := by simpa using hlt
      omega
    repeat' (first | refine wA0 rfl rfl rfl rfl ?_ | refine AL.nil ?_ | refine AW.seq ?_ | refine AW.region ?_ | refine AW.exit ?_ | (refine AW.ret ?_; refine ⟨[], _, _, rfl, rfl, ⟨?_, rfl⟩, rfl⟩))
    exact congrArg (fun b => AOut.ret (.d (.lit (.int .i64 b)))) (idx_miss hk).symm
/-- schema.Find$1. -/
theorem f61 (t : Tb) (x : Bs) : AF Tryz.prog 61 [.d (eT t), .ptr (.par 0) 0] [.cells [.d (eS x)]] (fun o p => o = .ret (.d (.lit (.bool (eqS t.name x)))) ∧ p = [.cells [.d (eS x)]]) := by
  refine AF.intro hT Tryz.func61 rfl (by kernel_rfl) (Nat.le_of_ble_eq_true rfl) ?_
  repeat' (first | refine wA0 rfl rfl rfl rfl ?_ | refine AL.nil ?_ | refine AW.seq ?_ | refine AW.region ?_ | refine bA rfl rfl rfl rfl rfl rfl ?_ | (refine AW.ret ?_; refine ⟨[], _, _, rfl, rfl, ⟨?_, rfl⟩, rfl⟩))
  rfl
/-- schema.Find. -/
def findF (l : List Tb) (x : Bs) : Int := idx (fun t => eqS t.name x) l
theorem f25 (l : List Tb) (x : Bs) (hl : l.length ≤ maxLen) : AF Tryz.prog 25 [.d (.agg [eTs l]), .d (eS x)] [] (fun o p => o = .ret (.d (eI (findF l x))) ∧ p = []) := by
  refine AF.intro hT Tryz.func25 rfl (by kernel_rfl) (Nat.le_of_ble_eq_true rfl) ?_
  repeat (first | refine wA0 rfl rfl rfl rfl ?_ | refine AL.nil ?_ | refine AW.seq ?_ | refine AW.region ?_ | refine bA rfl rfl rfl rfl rfl rfl ?_)
  refine AL.effN _ (VE.call [.loc 3] [] rfl rfl rfl rfl rfl (f60 l 61 x (fun t => eqS t.name x) hl (fun t _ => f61 t x)) (fun _ _ h => h) rfl) rfl rfl rfl rfl rfl ?_
  repeat' (first | refine wA0 rfl rfl rfl rfl ?_ | refine AL.nil ?_ | (refine AW.ret ?_; refine ⟨[], _, _, rfl, rfl, ⟨?_, rfl⟩, rfl⟩))
  rfl
/-- schema.Column$1, $2. -/
theorem f65 (t : At) (x : Bs) : AF Tryz.prog 65 [.d (eA t), .ptr (.par 0) 0] [.cells [.d (eS x)]] (fun o p => o = .ret (.d (.lit (.bool (eqS t.name x)))) ∧ p = [.cells [.d (eS x)]]) := by
  refine AF.intro hT Tryz.func65 rfl (by kernel_rfl) (Nat.le_of_ble_eq_true rfl) ?_
  repeat' (first | refine wA0 rfl rfl rfl rfl ?_ | refine AL.nil ?_ | refine AW.seq ?_ | refine AW.region ?_ | refine bA rfl rfl rfl rfl rfl rfl ?_ | (refine AW.ret ?_; refine ⟨[], _, _, rfl, rfl, ⟨?_, rfl⟩, rfl⟩))
  rfl
theorem f66 (t : At) (x : Bs) (hl : t.was.length ≤ maxLen) : AF Tryz.prog 66 [.d (eA t), .ptr (.par 0) 0] [.cells [.d (eS x)]] (fun o p => o = .ret (.d (.lit (.bool (hasS t.was x)))) ∧ p = [.cells [.d (eS x)]]) := by
  refine AF.intro hT Tryz.func66 rfl (by kernel_rfl) (Nat.le_of_ble_eq_true rfl) ?_
  repeat (first | refine wA0 rfl rfl rfl rfl ?_ | refine AL.nil ?_ | refine AW.seq ?_ | refine AW.region ?_ | refine bA rfl rfl rfl rfl rfl rfl ?_)
  refine AL.call0 rfl rfl rfl (f67 t.was x hl) rfl rfl rfl ?_
  repeat' (first | refine wA0 rfl rfl rfl rfl ?_ | refine AL.nil ?_ | (refine AW.ret ?_; refine ⟨[], _, _, rfl, rfl, ⟨?_, rfl⟩, rfl⟩))
  rfl
/-- schema.Column. -/
def columnF (l : List At) (x : Bs) : Int := bif decide (idx (fun t => eqS t.name x) l ≥ 0) then idx (fun t => eqS t.name x) l else idx (fun t => hasS t.was x) l
theorem f29 (t : Tb) (x : Bs) (hl : t.attrs.length ≤ maxLen) (hw : ∀ a, a ∈ t.attrs → a.was.length ≤ maxLen) : AF Tryz.prog 29 [.d (eT t), .d (eS x)] [] (fun o p => o = .ret (.d (eI (columnF t.attrs x))) ∧ p = []) := by
  refine AF.intro hT Tryz.func29 rfl (by kernel_rfl) (Nat.le_of_ble_eq_true rfl) ?_
  repeat (first | refine wA0 rfl rfl rfl rfl ?_ | refine AL.nil ?_ | refine AW.seq ?_ | refine AW.region ?_ | refine bA rfl rfl rfl rfl rfl rfl ?_)
  refine AL.effN _ (VE.call [.loc 3] [] rfl rfl rfl rfl rfl (f64 t.attrs 65 x (fun t => eqS t.name x) hl (fun t _ => f65 t x)) (fun _ _ h => h) rfl) rfl rfl rfl rfl rfl ?_
  repeat (first | refine wA0 rfl rfl rfl rfl ?_ | refine AL.nil ?_ | refine AW.seq ?_ | refine AW.region ?_)
  refine AW.cond rfl (fun hc => ?_) (fun hc => ?_)
  · repeat' (first | refine wA0 rfl rfl rfl rfl ?_ | refine AL.nil ?_ | refine AW.seq ?_ | refine AW.region ?_ | (refine AW.ret ?_; refine ⟨[], _, _, rfl, rfl, ⟨?_, rfl⟩, rfl⟩))
    refine congrArg (fun b => AOut.ret (.d (.lit (.int .i64 b)))) ?_
    simp only [columnF, hc, cond_true]
  · repeat (first | refine wA0 rfl rfl rfl rfl ?_ | refine AW.seq ?_ | refine AW.region ?_ | refine AW.skip ?_)
    refine AL.effN _ (VE.call [.loc 3] [] rfl rfl rfl rfl rfl (f64 t.attrs 66 x (fun t => hasS t.was x) hl (fun t ht => f66 t x (hw t ht))) (fun _ _ h => h) rfl) rfl rfl rfl rfl rfl ?_
    repeat' (first | refine wA0 rfl rfl rfl rfl ?_ | refine AL.nil ?_ | (refine AW.ret ?_; refine ⟨[], _, _, rfl, rfl, ⟨?_, rfl⟩, rfl⟩))
    refine congrArg (fun b => AOut.ret (.d (.lit (.int .i64 b)))) ?_
    simp only [columnF, hc, cond_false]
end Go.Pv
namespace Go.Pv
open Go.RowKit Go.Proofs

/-- schema.Fits. -/
def fitsF (t : Tb) (row : List Vl) : Bool := bif !((row.length : Int) == (t.attrs.length : Int)) then false else (List.range row.length).all fun i => fitF (t.attrs.getD i default).kind (row.getD i default)
def eVs (l : List Vl) : D := .sl 3 l.length (fun i => eV (l.getD i default))
theorem f27 (t : Tb) (row : List Vl) (hl : row.length ≤ maxLen) : AF Tryz.prog 27 [.d (eT t), .d (eVs row)] [] (fun o p => o = .ret (.d (.lit (.bool (fitsF t row)))) ∧ p = []) := by
  refine AF.intro hT Tryz.func27 rfl (by kernel_rfl) (Nat.le_of_ble_eq_true rfl) ?_
  repeat (first | refine wA0 rfl rfl rfl rfl ?_ | refine AL.nil ?_ | refine AW.seq ?_ | refine AW.region ?_ | refine bA rfl rfl rfl rfl rfl rfl ?_)
  refine AW.cond rfl (fun h0 => ?_) (fun h0 => ?_)
  · repeat' (first | refine wA0 rfl rfl rfl rfl ?_ | refine AL.nil ?_ | refine AW.seq ?_ | refine AW.region ?_ | (refine AW.ret ?_; refine ⟨[], _, _, rfl, rfl, ⟨?_, rfl⟩, rfl⟩))
    refine congrArg (fun b => AOut.ret (.d (.lit (.bool b)))) ?_
    have h0' : (!((row.length : Int) == (t.attrs.length : Int))) = true := h0
    simp only [fitsF, h0', cond_true]
  · have h0' : (!((row.length : Int) == (t.attrs.length : Int))) = false := h0
    have hlen : row.length = t.attrs.length := by
      have h1 := h0'
      simp only [Bool.not_eq_false', beq_iff_eq] at h1
      omega
    repeat (first | refine wA0 rfl rfl rfl rfl ?_ | refine AL.nil ?_ | refine AW.seq ?_ | refine AW.region ?_ | refine AW.skip ?_ | refine AW.block ?_)
    refine AW.weak (Weak.keep [1,2,13,14] [.loc 2] rfl rfl) ?_
    refine AW.loop (I := fun n st => ∃ i : Nat, i + n = row.length ∧ (∀ k, k < i → fitF (t.attrs.getD k default).kind (row.getD k default) = true) ∧ st = ⟨30, [(1, .d (eVs row)), (2, .ptr (.loc 2) 0), (13, .d (eI row.length)), (14, .d (eI i))], [(.loc 2, .cells [.d (eS t.name), .d (eAs t.attrs), .d (eIs t.key)])]⟩) row.length ⟨0, by omega, fun k hk => by omega, rfl⟩ ?_
    rintro n st ⟨i, hi, hk, rfl⟩
    repeat (first | refine wA0 rfl rfl rfl rfl ?_ | refine AL.nil ?_ | refine AW.seq ?_ | refine AW.region ?_)
    refine AW.cond rfl (fun hlt => ?_) (fun hlt => ?_)
    · have hlt' : i < row.length := by simpa using hlt
      repeat (first | refine wA0 rfl rfl rfl rfl ?_ | refine AL.nil ?_ | refine AW.seq ?_ | refine AW.region ?_ | refine AW.skip ?_ | refine AW.block ?_ | refine dW ?_ | refine wG0 rfl rfl rfl rfl ?_)
      refine DG.call0 rfl rfl rfl (f62 _ _ _ _) rfl rfl rfl ?_
      repeat (first | refine wG0 rfl rfl rfl rfl ?_ | refine nG ?_)
      refine AW.cond rfl (fun hc => ?_) (fun hc => ?_)
      · repeat' (first | refine wA0 rfl rfl rfl rfl ?_ | refine AL.nil ?_ | refine AW.seq ?_ | refine AW.region ?_ | (refine AW.ret ?_; refine ⟨[], _, _, rfl, rfl, ⟨?_, rfl⟩, rfl⟩))
        refine congrArg (fun b => AOut.ret (.d (.lit (.bool b)))) ?_
        have hc' : (!fitF (t.attrs.getD i default).kind (row.getD i default)) = true := hc
        have : (List.range row.length).all (fun i => fitF (t.attrs.getD i default).kind (row.getD i default)) = false := by
          rw [List.all_eq_false]
          exact ⟨i, List.mem_range.2 hlt', by simpa using hc'⟩
        simp only [fitsF, h0', cond_false, this]
      · repeat (first | refine wA0 rfl rfl rfl rfl ?_ | refine AL.nil ?_ | refine AW.region ?_ | refine AW.skip ?_)
        refine ⟨n - 1, _, by omega, Weak.keep [1,2,13,14] [.loc 2] rfl rfl, i + 1, by omega, le_step hk ?_, ?_⟩
        · have hc' : (!fitF (t.attrs.getD i default).kind (row.getD i default)) = false := hc
          simpa using hc'
        · rw [i64s (by omega)]
          rfl
    · obtain rfl : i = row.length := by
        have : ¬ ((i : Int) < (row.length : Int)) := by simpa using hlt
        omega
      repeat' (first | refine wA0 rfl rfl rfl rfl ?_ | refine AL.nil ?_ | refine AW.seq ?_ | refine AW.region ?_ | refine AW.exit ?_ | (refine AW.ret ?_; refine ⟨[], _, _, rfl, rfl, ⟨?_, rfl⟩, rfl⟩))
      refine congrArg (fun b => AOut.ret (.d (.lit (.bool b)))) ?_
      have : (List.range row.length).all (fun i => fitF (t.attrs.getD i default).kind (row.getD i default)) = true := by
        rw [List.all_eq_true]
        intro x hx
        exact hk x (List.mem_range.1 hx)
      simp only [fitsF, h0', cond_false, this]
end Go.Pv
namespace Go.Pv
open Go.RowKit Go.Proofs

/-- slices.Clone. -/
theorem f54 (n : Nat) (f : Nat → D) (hn : n ≤ maxLen) (hb : n * 8 ≤ 140737488355328) : AF Tryz.prog 54 [.d (.sl 1 n f)] [] (fun o p => o = .ret (.sl (.par 0) n) ∧ p = [.arr false 3 1 n (fun i => (f i).cells) none]) := by
  refine AF.intro hT Tryz.func54 rfl (by kernel_rfl) (Nat.le_of_ble_eq_true rfl) ?_
  repeat (first | refine wA0 rfl rfl rfl rfl ?_ | refine AL.nil ?_ | refine AW.seq ?_ | refine AW.region ?_)
  refine AL.isnil hT rfl rfl rfl rfl rfl rfl (fun b h0 => ?_)
  refine AL.nil ?_
  refine AW.cond rfl (fun hc => ?_) (fun hc => ?_)
  · obtain rfl := h0 hc
    repeat (first | refine wA0 rfl rfl rfl rfl ?_ | refine AL.nil ?_ | refine AW.seq ?_ | refine AW.region ?_)
    refine AW.weak (Weak.seed 2 100 3 1 (fun i => (f i).cells) rfl rfl) ?_
    refine AW.ret ?_
    exact ⟨[.loc 100], _, _, rfl, rfl, ⟨rfl, rfl⟩, rfl⟩
  · repeat (first | refine AW.seq ?_ | refine AW.region ?_ | refine AW.skip ?_)
    refine AL.effN _ (VE.bslice hT (d := 5) (fun _ => []) rfl rfl rfl rfl rfl rfl rfl (fun i hi => absurd hi (by omega))) rfl rfl rfl rfl rfl ?_
    refine wA0 rfl rfl rfl rfl ?_
    refine AL.effN _ (VE.append hT (d := 7) (fun i => (f i).cells) [.loc 5] rfl rfl rfl rfl rfl trivial rfl rfl rfl rfl ⟨rfl, by omega, ?_⟩ (fun i hi => absurd hi (by omega)) (fun i _ => by rw [Nat.zero_add])) rfl rfl rfl rfl rfl ?_
    · show (0 + n) * 8 ≤ _
      omega
    refine wA0 rfl rfl rfl rfl ?_
    refine AL.nil ?_
    refine AW.ret ?_
    refine ⟨[.loc 7], _, _, rfl, rfl, ⟨?_, ?_⟩, rfl⟩
    · show AOut.ret (.sl (.par 0) (0 + n)) = _
      rw [Nat.zero_add]
    · show [Obj.arr false 3 1 (0 + n) _ none] = _
      rw [Nat.zero_add]
/-- slices.Clone. -/
theorem f53 (n : Nat) (f : Nat → D) (hn : n ≤ maxLen) (hb : n * 80 ≤ 140737488355328) : AF Tryz.prog 53 [.d (.sl 6 n f)] [] (fun o p => o = .ret (.sl (.par 0) n) ∧ p = [.arr false 53 6 n (fun i => (f i).cells) none]) := by
  refine AF.intro hT Tryz.func53 rfl (by kernel_rfl) (Nat.le_of_ble_eq_true rfl) ?_
  repeat (first | refine wA0 rfl rfl rfl rfl ?_ | refine AL.nil ?_ | refine AW.seq ?_ | refine AW.region ?_)
  refine AL.isnil hT rfl rfl rfl rfl rfl rfl (fun b h0 => ?_)
  refine AL.nil ?_
  refine AW.cond rfl (fun hc => ?_) (fun hc => ?_)
  · obtain rfl := h0 hc
    repeat (first | refine wA0 rfl rfl rfl rfl ?_ | refine AL.nil ?_ | refine AW.seq ?_ | refine AW.region ?_)
    refine AW.weak (Weak.seed 2 100 53 6 (fun i => (f i).cells) rfl rfl) ?_
    refine AW.ret ?_
    exact ⟨[.loc 100], _, _, rfl, rfl, ⟨rfl, rfl⟩, rfl⟩
  · repeat (first | refine AW.seq ?_ | refine AW.region ?_ | refine AW.skip ?_)
    refine AL.effN _ (VE.bslice hT (d := 5) (fun _ => []) rfl rfl rfl rfl rfl rfl rfl (fun i hi => absurd hi (by omega))) rfl rfl rfl rfl rfl ?_
    refine wA0 rfl rfl rfl rfl ?_
    refine AL.effN _ (VE.append hT (d := 7) (fun i => (f i).cells) [.loc 5] rfl rfl rfl rfl rfl trivial rfl rfl rfl rfl ⟨rfl, by omega, ?_⟩ (fun i hi => absurd hi (by omega)) (fun i _ => by rw [Nat.zero_add])) rfl rfl rfl rfl rfl ?_
    · show (0 + n) * 80 ≤ _
      omega
    refine wA0 rfl rfl rfl rfl ?_
    refine AL.nil ?_
    refine AW.ret ?_
    refine ⟨[.loc 7], _, _, rfl, rfl, ⟨?_, ?_⟩, rfl⟩
    · show AOut.ret (.sl (.par 0) (0 + n)) = _
      rw [Nat.zero_add]
    · show [Obj.arr false 53 6 (0 + n) _ none] = _
      rw [Nat.zero_add]
/-- slices.Clone. -/
theorem f52 (n : Nat) (f : Nat → D) (hn : n ≤ maxLen) (hb : n * 64 ≤ 140737488355328) : AF Tryz.prog 52 [.d (.sl 3 n f)] [] (fun o p => o = .ret (.sl (.par 0) n) ∧ p = [.arr false 44 3 n (fun i => (f i).cells) none]) := by
  refine AF.intro hT Tryz.func52 rfl (by kernel_rfl) (Nat.le_of_ble_eq_true rfl) ?_
  repeat (first | refine wA0 rfl rfl rfl rfl ?_ | refine AL.nil ?_ | refine AW.seq ?_ | refine AW.region ?_)
  refine AL.isnil hT rfl rfl rfl rfl rfl rfl (fun b h0 => ?_)
  refine AL.nil ?_
  refine AW.cond rfl (fun hc => ?_) (fun hc => ?_)
  · obtain rfl := h0 hc
    repeat (first | refine wA0 rfl rfl rfl rfl ?_ | refine AL.nil ?_ | refine AW.seq ?_ | refine AW.region ?_)
    refine AW.weak (Weak.seed 2 100 44 3 (fun i => (f i).cells) rfl rfl) ?_
    refine AW.ret ?_
    exact ⟨[.loc 100], _, _, rfl, rfl, ⟨rfl, rfl⟩, rfl⟩
  · repeat (first | refine AW.seq ?_ | refine AW.region ?_ | refine AW.skip ?_)
    refine AL.effN _ (VE.bslice hT (d := 5) (fun _ => []) rfl rfl rfl rfl rfl rfl rfl (fun i hi => absurd hi (by omega))) rfl rfl rfl rfl rfl ?_
    refine wA0 rfl rfl rfl rfl ?_
    refine AL.effN _ (VE.append hT (d := 7) (fun i => (f i).cells) [.loc 5] rfl rfl rfl rfl rfl trivial rfl rfl rfl rfl ⟨rfl, by omega, ?_⟩ (fun i hi => absurd hi (by omega)) (fun i _ => by rw [Nat.zero_add])) rfl rfl rfl rfl rfl ?_
    · show (0 + n) * 64 ≤ _
      omega
    refine wA0 rfl rfl rfl rfl ?_
    refine AL.nil ?_
    refine AW.ret ?_
    refine ⟨[.loc 7], _, _, rfl, rfl, ⟨?_, ?_⟩, rfl⟩
    · show AOut.ret (.sl (.par 0) (0 + n)) = _
      rw [Nat.zero_add]
    · show [Obj.arr false 44 3 (0 + n) _ none] = _
      rw [Nat.zero_add]
/-- slices.Clone. -/
theorem f56 (n : Nat) (f : Nat → D) (hn : n ≤ maxLen) (hb : n * 32 ≤ 140737488355328) : AF Tryz.prog 56 [.d (.sl 3 n f)] [] (fun o p => o = .ret (.sl (.par 0) n) ∧ p = [.arr false 26 3 n (fun i => (f i).cells) none]) := by
  refine AF.intro hT Tryz.func56 rfl (by kernel_rfl) (Nat.le_of_ble_eq_true rfl) ?_
  repeat (first | refine wA0 rfl rfl rfl rfl ?_ | refine AL.nil ?_ | refine AW.seq ?_ | refine AW.region ?_)
  refine AL.isnil hT rfl rfl rfl rfl rfl rfl (fun b h0 => ?_)
  refine AL.nil ?_
  refine AW.cond rfl (fun hc => ?_) (fun hc => ?_)
  · obtain rfl := h0 hc
    repeat (first | refine wA0 rfl rfl rfl rfl ?_ | refine AL.nil ?_ | refine AW.seq ?_ | refine AW.region ?_)
    refine AW.weak (Weak.seed 2 100 26 3 (fun i => (f i).cells) rfl rfl) ?_
    refine AW.ret ?_
    exact ⟨[.loc 100], _, _, rfl, rfl, ⟨rfl, rfl⟩, rfl⟩
  · repeat (first | refine AW.seq ?_ | refine AW.region ?_ | refine AW.skip ?_)
    refine AL.effN _ (VE.bslice hT (d := 5) (fun _ => []) rfl rfl rfl rfl rfl rfl rfl (fun i hi => absurd hi (by omega))) rfl rfl rfl rfl rfl ?_
    refine wA0 rfl rfl rfl rfl ?_
    refine AL.effN _ (VE.append hT (d := 7) (fun i => (f i).cells) [.loc 5] rfl rfl rfl rfl rfl trivial rfl rfl rfl rfl ⟨rfl, by omega, ?_⟩ (fun i hi => absurd hi (by omega)) (fun i _ => by rw [Nat.zero_add])) rfl rfl rfl rfl rfl ?_
    · show (0 + n) * 32 ≤ _
      omega
    refine wA0 rfl rfl rfl rfl ?_
    refine AL.nil ?_
    refine AW.ret ?_
    refine ⟨[.loc 7], _, _, rfl, rfl, ⟨?_, ?_⟩, rfl⟩
    · show AOut.ret (.sl (.par 0) (0 + n)) = _
      rw [Nat.zero_add]
    · show [Obj.arr false 26 3 (0 + n) _ none] = _
      rw [Nat.zero_add]
/-- slices.Clone. -/
theorem f143 (n : Nat) (f : Nat → D) (hn : n ≤ maxLen) (hb : n * 16 ≤ 140737488355328) : AF Tryz.prog 143 [.d (.sl 1 n f)] [] (fun o p => o = .ret (.sl (.par 0) n) ∧ p = [.arr false 9 1 n (fun i => (f i).cells) none]) := by
  refine AF.intro hT Tryz.func143 rfl (by kernel_rfl) (Nat.le_of_ble_eq_true rfl) ?_
  repeat (first | refine wA0 rfl rfl rfl rfl ?_ | refine AL.nil ?_ | refine AW.seq ?_ | refine AW.region ?_)
  refine AL.isnil hT rfl rfl rfl rfl rfl rfl (fun b h0 => ?_)
  refine AL.nil ?_
  refine AW.cond rfl (fun hc => ?_) (fun hc => ?_)
  · obtain rfl := h0 hc
    repeat (first | refine wA0 rfl rfl rfl rfl ?_ | refine AL.nil ?_ | refine AW.seq ?_ | refine AW.region ?_)
    refine AW.weak (Weak.seed 2 100 9 1 (fun i => (f i).cells) rfl rfl) ?_
    refine AW.ret ?_
    exact ⟨[.loc 100], _, _, rfl, rfl, ⟨rfl, rfl⟩, rfl⟩
  · repeat (first | refine AW.seq ?_ | refine AW.region ?_ | refine AW.skip ?_)
    refine AL.effN _ (VE.bslice hT (d := 5) (fun _ => []) rfl rfl rfl rfl rfl rfl rfl (fun i hi => absurd hi (by omega))) rfl rfl rfl rfl rfl ?_
    refine wA0 rfl rfl rfl rfl ?_
    refine AL.effN _ (VE.append hT (d := 7) (fun i => (f i).cells) [.loc 5] rfl rfl rfl rfl rfl trivial rfl rfl rfl rfl ⟨rfl, by omega, ?_⟩ (fun i hi => absurd hi (by omega)) (fun i _ => by rw [Nat.zero_add])) rfl rfl rfl rfl rfl ?_
    · show (0 + n) * 16 ≤ _
      omega
    refine wA0 rfl rfl rfl rfl ?_
    refine AL.nil ?_
    refine AW.ret ?_
    refine ⟨[.loc 7], _, _, rfl, rfl, ⟨?_, ?_⟩, rfl⟩
    · show AOut.ret (.sl (.par 0) (0 + n)) = _
      rw [Nat.zero_add]
    · show [Obj.arr false 9 1 (0 + n) _ none] = _
      rw [Nat.zero_add]
end Go.Pv
