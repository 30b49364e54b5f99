/- Part of the proofs over this seat: V22 V23 V24. -/
import Derived.Test.YteohopnpcanfpaaGreatDoorZKn
import Derived.Test.YteohopnpcanfpaaGreatDoorZKo
set_option maxRecDepth 100000
namespace Go.Pv
open Go.RowKit Go.Proofs

/-- Two lists have equal elements, 'bad' saying which are not. -/
def sameBy {α : Type} [Inhabited α] (bad : α → α → Bool) (a b : List α) : Bool := bif !((a.length : Int) == (b.length : Int)) then false else !(List.range a.length).any (fun i => bad (a.getD i default) (b.getD i default))
def badS (x y : Bs) : Bool := !(eqS x y)
def badI (x y : Int) : Bool := x != y
def textsF (a b : List Bs) : Bool := sameBy badS a b
def intsF (a b : List Int) : Bool := sameBy badI a b
def badV (x y : Vl) : Bool := !(x.kind == y.kind && (x.n == y.n && x.text.toList == y.text.toList))
def badA (x y : At) : Bool := bif bif bif !(eqS x.name y.name) then true else x.kind != y.kind then true else badV x.dflt y.dflt then true else !textsF x.was y.was
def attrsF (a b : List At) : Bool := sameBy badA a b
def sameT (x y : Tb) : Bool := bif bif eqS x.name y.name then intsF x.key y.key else false then attrsF x.attrs y.attrs else false
theorem f100 (a b : List Bs) (ha : a.length ≤ maxLen) : AF Tryz.prog 100 [.d (eSs a), .d (eSs b)] [] (fun o p => o = .ret (.d (.lit (.bool (textsF a b)))) ∧ p = []) := by
  refine AF.intro hT Tryz.func100 rfl (by kernel_rfl) (Nat.le_of_ble_eq_true rfl) ?_
  repeat (first | refine wA0 rfl rfl rfl rfl ?_ | refine AL.nil ?_ | refine AW.seq ?_ | refine AW.region ?_)
  refine AW.cond rfl (fun h0 => ?_) (fun h0 => ?_)
  · repeat' (first | refine wA0 rfl rfl rfl rfl ?_ | refine AL.nil ?_ | refine AW.seq ?_ | refine AW.region ?_ | (refine AW.ret ?_; refine ⟨[], _, _, rfl, rfl, ⟨?_, rfl⟩, rfl⟩))
    refine congrArg (fun b => AOut.ret (.d (.lit (.bool b)))) ?_
    have h0' : (!((a.length : Int) == (b.length : Int))) = true := h0
    simp only [textsF, sameBy, h0', cond_true]
  · have h0' : (!((a.length : Int) == (b.length : Int))) = false := h0
    have hlen : a.length = b.length := by
      have h1 := h0'
      simp only [Bool.not_eq_false', beq_iff_eq] at h1
      omega
    repeat (first | refine wA0 rfl rfl rfl rfl ?_ | refine AL.nil ?_ | refine AW.seq ?_ | refine AW.region ?_ | refine AW.skip ?_ | refine AW.block ?_)
    refine AW.weak (Weak.keep [0,1,5] [] rfl rfl) ?_
    refine AW.loop (I := fun n st => ∃ i : Nat, i + n = a.length ∧ (∀ k, k < i → badS (a.getD k default) (b.getD k default) = false) ∧ st = ⟨26, [(0, .d (eSs a)), (1, .d (eSs b)), (5, .d (eI i))], []⟩) a.length ⟨0, by omega, fun k hk => by omega, rfl⟩ ?_
    rintro n st ⟨i, hi, hk, rfl⟩
    repeat (first | refine wA0 rfl rfl rfl rfl ?_ | refine AL.nil ?_ | refine AW.seq ?_ | refine AW.region ?_)
    refine AW.cond rfl (fun hlt => ?_) (fun hlt => ?_)
    · have hlt' : i < a.length := by simpa using hlt
      have hlb : i < b.length := by omega
      have hib : (0 : Int) ≤ (i : Int) ∧ (i : Int) < (b.length : Int) := by omega
      have hia : (0 : Int) ≤ (i : Int) ∧ (i : Int) < (a.length : Int) := by omega
      repeat (first | refine AW.seq ?_ | refine AW.skip ?_ | refine AW.block ?_ | refine dW ?_ | refine wG0 rfl rfl rfl rfl ?_ | refine nG ?_)
      refine AW.cond rfl (fun hc => ?_) (fun hc => ?_)
      · repeat' (first | refine wA0 rfl rfl rfl rfl ?_ | refine AL.nil ?_ | refine AW.seq ?_ | refine AW.region ?_ | (refine AW.ret ?_; refine ⟨[], _, _, rfl, rfl, ⟨?_, rfl⟩, rfl⟩))
        refine congrArg (fun b => AOut.ret (.d (.lit (.bool b)))) ?_
        have hc' : badS (a.getD i default) (b.getD i default) = true := hc
        have : (List.range a.length).any (fun i => badS (a.getD i default) (b.getD i default)) = true := List.any_eq_true.2 ⟨i, List.mem_range.2 hlt', hc'⟩
        simp only [textsF, sameBy, h0', this, cond_false, Bool.not_true]
      · repeat (first | refine wA0 rfl rfl rfl rfl ?_ | refine AL.nil ?_ | refine AW.region ?_ | refine AW.skip ?_)
        refine ⟨n - 1, _, by omega, Weak.keep [0,1,5] [] rfl rfl, i + 1, by omega, le_step hk hc, ?_⟩
        rw [i64s (by omega)]
        rfl
    · obtain rfl : i = a.length := by
        have : ¬ ((i : Int) < (a.length : Int)) := by simpa using hlt
        omega
      repeat' (first | refine wA0 rfl rfl rfl rfl ?_ | refine AL.nil ?_ | refine AW.seq ?_ | refine AW.region ?_ | refine AW.exit ?_ | (refine AW.ret ?_; refine ⟨[], _, _, rfl, rfl, ⟨?_, rfl⟩, rfl⟩))
      refine congrArg (fun b => AOut.ret (.d (.lit (.bool b)))) ?_
      have : (List.range a.length).any (fun i => badS (a.getD i default) (b.getD i default)) = false := by
        rw [List.any_eq_false]
        intro x hx
        simpa using hk x (List.mem_range.1 hx)
      simp only [textsF, sameBy, h0', this, cond_false, Bool.not_false]
theorem f68 (a b : List Int) (ha : a.length ≤ maxLen) : AF Tryz.prog 68 [.d (eIs a), .d (eIs b)] [] (fun o p => o = .ret (.d (.lit (.bool (intsF a b)))) ∧ p = []) := by
  refine AF.intro hT Tryz.func68 rfl (by kernel_rfl) (Nat.le_of_ble_eq_true rfl) ?_
  repeat (first | refine wA0 rfl rfl rfl rfl ?_ | refine AL.nil ?_ | refine AW.seq ?_ | refine AW.region ?_)
  refine AW.cond rfl (fun h0 => ?_) (fun h0 => ?_)
  · repeat' (first | refine wA0 rfl rfl rfl rfl ?_ | refine AL.nil ?_ | refine AW.seq ?_ | refine AW.region ?_ | (refine AW.ret ?_; refine ⟨[], _, _, rfl, rfl, ⟨?_, rfl⟩, rfl⟩))
    refine congrArg (fun b => AOut.ret (.d (.lit (.bool b)))) ?_
    have h0' : (!((a.length : Int) == (b.length : Int))) = true := h0
    simp only [intsF, sameBy, h0', cond_true]
  · have h0' : (!((a.length : Int) == (b.length : Int))) = false := h0
    have hlen : a.length = b.length := by
      have h1 := h0'
      simp only [Bool.not_eq_false', beq_iff_eq] at h1
      omega
    repeat (first | refine wA0 rfl rfl rfl rfl ?_ | refine AL.nil ?_ | refine AW.seq ?_ | refine AW.region ?_ | refine AW.skip ?_ | refine AW.block ?_)
    refine AW.weak (Weak.keep [0,1,5] [] rfl rfl) ?_
    refine AW.loop (I := fun n st => ∃ i : Nat, i + n = a.length ∧ (∀ k, k < i → badI (a.getD k default) (b.getD k default) = false) ∧ st = ⟨26, [(0, .d (eIs a)), (1, .d (eIs b)), (5, .d (eI i))], []⟩) a.length ⟨0, by omega, fun k hk => by omega, rfl⟩ ?_
    rintro n st ⟨i, hi, hk, rfl⟩
    repeat (first | refine wA0 rfl rfl rfl rfl ?_ | refine AL.nil ?_ | refine AW.seq ?_ | refine AW.region ?_)
    refine AW.cond rfl (fun hlt => ?_) (fun hlt => ?_)
    · have hlt' : i < a.length := by simpa using hlt
      have hlb : i < b.length := by omega
      have hib : (0 : Int) ≤ (i : Int) ∧ (i : Int) < (b.length : Int) := by omega
      have hia : (0 : Int) ≤ (i : Int) ∧ (i : Int) < (a.length : Int) := by omega
      repeat (first | refine AW.seq ?_ | refine AW.skip ?_ | refine AW.block ?_ | refine dW ?_ | refine wG0 rfl rfl rfl rfl ?_ | refine nG ?_)
      refine AW.cond rfl (fun hc => ?_) (fun hc => ?_)
      · repeat' (first | refine wA0 rfl rfl rfl rfl ?_ | refine AL.nil ?_ | refine AW.seq ?_ | refine AW.region ?_ | (refine AW.ret ?_; refine ⟨[], _, _, rfl, rfl, ⟨?_, rfl⟩, rfl⟩))
        refine congrArg (fun b => AOut.ret (.d (.lit (.bool b)))) ?_
        have hc' : badI (a.getD i default) (b.getD i default) = true := hc
        have : (List.range a.length).any (fun i => badI (a.getD i default) (b.getD i default)) = true := List.any_eq_true.2 ⟨i, List.mem_range.2 hlt', hc'⟩
        simp only [intsF, sameBy, h0', this, cond_false, Bool.not_true]
      · repeat (first | refine wA0 rfl rfl rfl rfl ?_ | refine AL.nil ?_ | refine AW.region ?_ | refine AW.skip ?_)
        refine ⟨n - 1, _, by omega, Weak.keep [0,1,5] [] rfl rfl, i + 1, by omega, le_step hk hc, ?_⟩
        rw [i64s (by omega)]
        rfl
    · obtain rfl : i = a.length := by
        have : ¬ ((i : Int) < (a.length : Int)) := by simpa using hlt
        omega
      repeat' (first | refine wA0 rfl rfl rfl rfl ?_ | refine AL.nil ?_ | refine AW.seq ?_ | refine AW.region ?_ | refine AW.exit ?_ | (refine AW.ret ?_; refine ⟨[], _, _, rfl, rfl, ⟨?_, rfl⟩, rfl⟩))
      refine congrArg (fun b => AOut.ret (.d (.lit (.bool b)))) ?_
      have : (List.range a.length).any (fun i => badI (a.getD i default) (b.getD i default)) = false := by
        rw [List.any_eq_false]
        intro x hx
        simpa using hk x (List.mem_range.1 hx)
      simp only [intsF, sameBy, h0', this, cond_false, Bool.not_false]
theorem f69 (a b : List At) (ha : a.length ≤ maxLen) (hw : ∀ x, x ∈ a → x.was.length ≤ maxLen) : AF Tryz.prog 69 [.d (eAs a), .d (eAs b)] [] (fun o p => o = .ret (.d (.lit (.bool (attrsF a b)))) ∧ p = []) := by
  refine AF.intro hT Tryz.func69 rfl (by kernel_rfl) (Nat.le_of_ble_eq_true rfl) ?_
  repeat (first | refine wA0 rfl rfl rfl rfl ?_ | refine AL.nil ?_ | refine AW.seq ?_ | refine AW.region ?_)
  refine AW.cond rfl (fun h0 => ?_) (fun h0 => ?_)
  · repeat' (first | refine wA0 rfl rfl rfl rfl ?_ | refine AL.nil ?_ | refine AW.seq ?_ | refine AW.region ?_ | (refine AW.ret ?_; refine ⟨[], _, _, rfl, rfl, ⟨?_, rfl⟩, rfl⟩))
    refine congrArg (fun b => AOut.ret (.d (.lit (.bool b)))) ?_
    have h0' : (!((a.length : Int) == (b.length : Int))) = true := h0
    simp only [attrsF, sameBy, h0', cond_true]
  · have h0' : (!((a.length : Int) == (b.length : Int))) = false := h0
    have hlen : a.length = b.length := by
      have h1 := h0'
      simp only [Bool.not_eq_false', beq_iff_eq] at h1
      omega
    repeat (first | refine wA0 rfl rfl rfl rfl ?_ | refine AL.nil ?_ | refine AW.seq ?_ | refine AW.region ?_ | refine AW.skip ?_ | refine AW.block ?_)
    refine AW.weak (Weak.keep [0,1,5] [] rfl rfl) ?_
    refine AW.loop (I := fun n st => ∃ i : Nat, i + n = a.length ∧ (∀ k, k < i → badA (a.getD k default) (b.getD k default) = false) ∧ st = ⟨68, [(0, .d (eAs a)), (1, .d (eAs b)), (5, .d (eI i))], []⟩) a.length ⟨0, by omega, fun k hk => by omega, rfl⟩ ?_
    rintro n st ⟨i, hi, hk, rfl⟩
    repeat (first | refine wA0 rfl rfl rfl rfl ?_ | refine AL.nil ?_ | refine AW.seq ?_ | refine AW.region ?_)
    refine AW.cond rfl (fun hlt => ?_) (fun hlt => ?_)
    · have hlt' : i < a.length := by simpa using hlt
      have hlb : i < b.length := by omega
      have hib : (0 : Int) ≤ (i : Int) ∧ (i : Int) < (b.length : Int) := by omega
      have hia : (0 : Int) ≤ (i : Int) ∧ (i : Int) < (a.length : Int) := by omega
      repeat (first | refine AW.seq ?_ | refine AW.skip ?_ | refine AW.block ?_ | refine dW ?_ | refine wG0 rfl rfl rfl rfl ?_ | refine wG1 rfl rfl rfl rfl rfl ?_)
      refine kG1 rfl rfl rfl rfl (fun hγ => f100 _ _ (hw _ (mem_getD hlt'))) rfl rfl rfl ?_
      repeat (first | refine wG0 rfl rfl rfl rfl ?_ | refine wG1 rfl rfl rfl rfl rfl ?_ | refine nG ?_)
      refine AW.cond rfl (fun hc => ?_) (fun hc => ?_)
      · repeat' (first | refine wA0 rfl rfl rfl rfl ?_ | refine AL.nil ?_ | refine AW.seq ?_ | refine AW.region ?_ | (refine AW.ret ?_; refine ⟨[], _, _, rfl, rfl, ⟨?_, rfl⟩, rfl⟩))
        refine congrArg (fun b => AOut.ret (.d (.lit (.bool b)))) ?_
        have hc' : badA (a.getD i default) (b.getD i default) = true := hc
        have : (List.range a.length).any (fun i => badA (a.getD i default) (b.getD i default)) = true := List.any_eq_true.2 ⟨i, List.mem_range.2 hlt', hc'⟩
        simp only [attrsF, sameBy, h0', this, cond_false, Bool.not_true]
      · repeat (first | refine wA0 rfl rfl rfl rfl ?_ | refine AL.nil ?_ | refine AW.region ?_ | refine AW.skip ?_)
        refine ⟨n - 1, _, by omega, Weak.keep [0,1,5] [] rfl rfl, i + 1, by omega, le_step hk hc, ?_⟩
        rw [i64s (by omega)]
        rfl
    · obtain rfl : i = a.length := by
        have : ¬ ((i : Int) < (a.length : Int)) := by simpa using hlt
        omega
      repeat' (first | refine wA0 rfl rfl rfl rfl ?_ | refine AL.nil ?_ | refine AW.seq ?_ | refine AW.region ?_ | refine AW.exit ?_ | (refine AW.ret ?_; refine ⟨[], _, _, rfl, rfl, ⟨?_, rfl⟩, rfl⟩))
      refine congrArg (fun b => AOut.ret (.d (.lit (.bool b)))) ?_
      have : (List.range a.length).any (fun i => badA (a.getD i default) (b.getD i default)) = false := by
        rw [List.any_eq_false]
        intro x hx
        simpa using hk x (List.mem_range.1 hx)
      simp only [attrsF, sameBy, h0', this, cond_false, Bool.not_false]
theorem f31 (x y : Tb) (hx : OkT x) : AF Tryz.prog 31 [.d (eT x), .d (eT y)] [] (fun o p => o = .ret (.d (.lit (.bool (sameT x y)))) ∧ p = []) := by
  refine AF.intro hT Tryz.func31 rfl (by kernel_rfl) (Nat.le_of_ble_eq_true rfl) ?_
  repeat (first | refine wA0 rfl rfl rfl rfl ?_ | refine wA1 rfl rfl rfl rfl rfl ?_ | refine AL.nil ?_ | refine AW.seq ?_ | refine AW.region ?_ | refine bA rfl rfl rfl rfl rfl rfl ?_)
  refine kA1 rfl rfl rfl rfl (fun hγ => f68 x.key y.key hx.key) rfl rfl rfl ?_
  repeat (first | refine wA0 rfl rfl rfl rfl ?_ | refine wA1 rfl rfl rfl rfl rfl ?_)
  refine kA1 rfl rfl rfl rfl (fun hγ => f69 x.attrs y.attrs hx.attrs hx.was) rfl rfl rfl ?_
  repeat' (first | refine wA0 rfl rfl rfl rfl ?_ | refine AL.nil ?_ | (refine AW.ret ?_; refine ⟨[], _, _, rfl, rfl, ⟨?_, rfl⟩, rfl⟩))
  rfl
end Go.Pv
namespace Go.Pv
open Go.RowKit Go.Proofs

/-- cleanseref06.Small. -/
def attrBig (a : At) : Bool := bif decide ((a.was.length : Int) > 10) then true else decide ((a.dflt.text.size : Int) > 300)
def tabBig (t : Tb) : Bool := bif bif decide ((t.attrs.length : Int) > 20) then true else decide ((t.key.length : Int) > 20) then true else decide ((t.name.size : Int) > 100)
def tabBig2 (t : Tb) : Bool := bif tabBig t then true else t.attrs.any attrBig
def smallS (l : List Tb) : Bool := bif decide ((l.length : Int) > 24) then false else !l.any tabBig2
theorem any_false {α : Type} [Inhabited α] {p : α → Bool} {l : List α} (h : ∀ k, k < l.length → p (l.getD k default) = false) : l.any p = false := by
  rw [List.any_eq_false]
  intro x hx
  obtain ⟨k, hk, rfl⟩ := List.getElem_of_mem hx
  have := h k hk
  simpa [List.getD_eq_getElem?_getD, hk] using this
theorem f50 (l : List Tb) : AF Tryz.prog 50 [.d (.agg [eTs l])] [] (fun o p => o = .ret (.d (.lit (.bool (smallS l)))) ∧ p = []) := by
  refine AF.intro hT Tryz.func50 rfl (by kernel_rfl) (Nat.le_of_ble_eq_true rfl) ?_
  repeat (first | refine wA0 rfl rfl rfl rfl ?_ | refine AL.nil ?_ | refine AW.seq ?_ | refine AW.region ?_ | refine bA rfl rfl rfl rfl rfl rfl ?_)
  refine AW.cond rfl (fun h0 => ?_) (fun h0 => ?_)
  · repeat' (first | refine wA0 rfl rfl rfl rfl ?_ | refine AL.nil ?_ | refine AW.seq ?_ | refine AW.region ?_ | (refine AW.ret ?_; refine ⟨[], _, _, rfl, rfl, ⟨?_, rfl⟩, rfl⟩))
    refine congrArg (fun b => AOut.ret (.d (.lit (.bool b)))) ?_
    have h0' : decide ((l.length : Int) > 24) = true := h0
    simp only [smallS, h0', cond_true]
  · have h0' : decide ((l.length : Int) > 24) = false := h0
    have hl : l.length ≤ 24 := by simp at h0'; omega
    repeat (first | refine wA0 rfl rfl rfl rfl ?_ | refine AL.nil ?_ | refine AW.seq ?_ | refine AW.region ?_ | refine AW.skip ?_ | refine AW.block ?_)
    refine AW.weak (Weak.keep [1,3] [.loc 1] rfl rfl) ?_
    refine AW.loop (I := fun n st => ∃ i : Nat, i + n = l.length ∧ (∀ k, k < i → tabBig2 (l.getD k default) = false) ∧ st = ⟨64, [(1, .ptr (.loc 1) 0), (3, .d (eI i))], [(.loc 1, .cells [.d (eTs l)])]⟩) l.length ⟨0, by omega, fun k hk => by omega, rfl⟩ ?_
    rintro n st ⟨i, hi, hk, rfl⟩
    repeat (first | refine wA0 rfl rfl rfl rfl ?_ | refine AL.nil ?_ | refine AW.seq ?_ | refine AW.region ?_)
    refine AW.cond rfl (fun hlt => ?_) (fun hlt => ?_)
    · have hlt' : i < l.length := by simpa using hlt
      repeat (first | refine wA0 rfl rfl rfl rfl ?_ | refine wA1 rfl rfl rfl rfl rfl ?_ | refine AL.nil ?_ | refine AW.seq ?_ | refine AW.region ?_ | refine AW.skip ?_ | refine AW.block ?_ | refine sA rfl rfl rfl rfl rfl rfl rfl rfl rfl ?_ | refine bA rfl rfl rfl rfl rfl rfl ?_)
      refine AW.cond rfl (fun h1 => ?_) (fun h1 => ?_)
      · repeat' (first | refine wA0 rfl rfl rfl rfl ?_ | refine AL.nil ?_ | refine AW.seq ?_ | refine AW.region ?_ | (refine AW.ret ?_; refine ⟨[], _, _, rfl, rfl, ⟨?_, rfl⟩, rfl⟩))
        refine congrArg (fun b => AOut.ret (.d (.lit (.bool b)))) ?_
        have h1' : tabBig (l.getD i default) = true := h1
        have : l.any tabBig2 = true := List.any_eq_true.2 ⟨_, mem_getD hlt', by simp only [tabBig2, h1', cond_true]⟩
        simp only [smallS, h0', this, cond_false, Bool.not_true]
      · have h1' : tabBig (l.getD i default) = false := h1
        have hat : (l.getD i default).attrs.length ≤ 20 := by
          rcases Nat.lt_or_ge 20 (l.getD i default).attrs.length with h | h
          · exfalso
            have : decide (((l.getD i default).attrs.length : Int) > 20) = true := by rw [decide_eq_true_eq]; omega
            simp only [tabBig, this, cond_true] at h1'
            cases h1'
          · exact h
        repeat (first | refine wA0 rfl rfl rfl rfl ?_ | refine AL.nil ?_ | refine AW.seq ?_ | refine AW.region ?_ | refine AW.skip ?_ | refine AW.block ?_)
        refine AW.weak (Weak.keep [1,3,4,5] [.loc 1,.loc 4] rfl rfl) ?_
        refine AW.loop (I := fun n st => ∃ j : Nat, j + n = (l.getD i default).attrs.length ∧ (∀ k, k < j → attrBig ((l.getD i default).attrs.getD k default) = false) ∧ st = ⟨64, [(1, .ptr (.loc 1) 0), (3, .d (eI i)), (4, .ptr (.loc 4) 0), (5, .d (eI j))],
          [(.loc 1, .cells [.d (eTs l)]), (.loc 4, .cells [.d (eS (l.getD i default).name), .d (eAs (l.getD i default).attrs), .d (eIs (l.getD i default).key)])]⟩) (l.getD i default).attrs.length ⟨0, by omega, fun k hk => by omega, rfl⟩ ?_
        rintro m st ⟨j, hj, hkj, rfl⟩
        repeat (first | refine wA0 rfl rfl rfl rfl ?_ | refine AL.nil ?_ | refine AW.seq ?_ | refine AW.region ?_)
        refine AW.cond rfl (fun hlt2 => ?_) (fun hlt2 => ?_)
        · have hlt2' : j < (l.getD i default).attrs.length := by simpa using hlt2
          have hij : (0 : Int) ≤ (j : Int) ∧ (j : Int) < ((l.getD i default).attrs.length : Int) := by omega
          repeat (first | refine wA0 rfl rfl rfl rfl ?_ | refine wA1 rfl rfl rfl rfl rfl ?_ | refine AL.nil ?_ | refine AW.seq ?_ | refine AW.region ?_ | refine AW.skip ?_ | refine AW.block ?_)
          refine AW.cond rfl (fun h2 => ?_) (fun h2 => ?_)
          · repeat' (first | refine wA0 rfl rfl rfl rfl ?_ | refine AL.nil ?_ | refine AW.seq ?_ | refine AW.region ?_ | (refine AW.ret ?_; refine ⟨[], _, _, rfl, rfl, ⟨?_, rfl⟩, rfl⟩))
            refine congrArg (fun b => AOut.ret (.d (.lit (.bool b)))) ?_
            have h2' : attrBig ((l.getD i default).attrs.getD j default) = true := h2
            have h3 : (l.getD i default).attrs.any attrBig = true := List.any_eq_true.2 ⟨_, mem_getD hlt2', h2'⟩
            have : l.any tabBig2 = true := List.any_eq_true.2 ⟨_, mem_getD hlt', by simp only [tabBig2, h1', h3, cond_false]⟩
            simp only [smallS, h0', this, cond_false, Bool.not_true]
          · repeat (first | refine wA0 rfl rfl rfl rfl ?_ | refine AL.nil ?_ | refine AW.region ?_ | refine AW.skip ?_)
            refine ⟨m - 1, _, by omega, Weak.keep [1,3,4,5] [.loc 1,.loc 4] rfl rfl, j + 1, by omega, le_step hkj h2, ?_⟩
            rw [i64s (by simp only [maxLen]; omega)]
            rfl
        · obtain rfl : j = (l.getD i default).attrs.length := by
            have : ¬ ((j : Int) < ((l.getD i default).attrs.length : Int)) := by simpa using hlt2
            omega
          refine AW.exit ?_
          repeat (first | refine wA0 rfl rfl rfl rfl ?_ | refine AL.nil ?_ | refine AW.region ?_)
          refine ⟨n - 1, _, by omega, Weak.keep [1,3] [.loc 1] rfl rfl, i + 1, by omega, le_step hk ?_, ?_⟩
          · simp only [tabBig2, h1', cond_false]
            exact any_false hkj
          · rw [i64s (by simp only [maxLen]; omega)]
            rfl
    · obtain rfl : i = l.length := by
        have : ¬ ((i : Int) < (l.length : Int)) := by simpa using hlt
        omega
      repeat' (first | refine wA0 rfl rfl rfl rfl ?_ | refine AL.nil ?_ | refine AW.seq ?_ | refine AW.region ?_ | refine AW.exit ?_ | (refine AW.ret ?_; refine ⟨[], _, _, rfl, rfl, ⟨?_, rfl⟩, rfl⟩))
      refine congrArg (fun b => AOut.ret (.d (.lit (.bool b)))) ?_
      simp only [smallS, h0', any_false hk, cond_false, Bool.not_false]
/-- small, without a row. -/
def smallF (l : List Tb) (c : Ch) (n : Int) : Bool := bif bif bif smallS l then decide ((c.name.size : Int) ≤ 100) else false then decide ((c.dflt.text.size : Int) ≤ 300) else false then decide (n ≤ 20) else false
theorem f16n (l : List Tb) (c : Ch) : AF Tryz.prog 16 [.d (.agg [eTs l]), .d (eC c), .d (.lit (.slice none 0 0))] [] (fun o p => o = .ret (.d (.lit (.bool (smallF l c 0)))) ∧ p = []) := by
  refine AF.intro hT Tryz.func16 rfl (by kernel_rfl) (Nat.le_of_ble_eq_true rfl) ?_
  repeat (first | refine wA0 rfl rfl rfl rfl ?_ | refine AL.nil ?_ | refine AW.seq ?_ | refine AW.region ?_ | refine bA rfl rfl rfl rfl rfl rfl ?_)
  refine AL.call0 rfl rfl rfl (f50 l) rfl rfl rfl ?_
  repeat' (first | refine wA0 rfl rfl rfl rfl ?_ | refine wA1 rfl rfl rfl rfl rfl ?_ | refine AL.nil ?_ | (refine AW.ret ?_; refine ⟨[], _, _, rfl, rfl, ⟨?_, rfl⟩, rfl⟩))
  rfl
end Go.Pv
namespace Go.Pv
open Go.RowKit Go.Proofs

def sName : Bs := ⟨#[110, 97, 109, 101]⟩
def sAge : Bs := ⟨#[97, 103, 101]⟩
def sYears : Bs := ⟨#[121, 101, 97, 114, 115]⟩
def sT : Bs := ⟨#[116]⟩
def sAnn : Bs := ⟨#[97, 110, 110]⟩
def sBorn : Bs := ⟨#[98, 111, 114, 110]⟩
def sampA : List At := [⟨sName, 1, [], zV⟩, ⟨sAge, 2, [sYears], zV⟩]
def sampT : Tb := ⟨sT, sampA, [0]⟩
def sampL : List Tb := [sampT]
def sampR : List Vl := [⟨1, 0, sAnn⟩, ⟨2, 7, ⟨#[]⟩⟩]
/-- The chapter's example. -/
theorem f48 : AF Tryz.prog 48 [] [] (fun o p => o = .ret (.d (.agg [eTs sampL])) ∧ p = []) := by
  refine AF.intro hT Tryz.func48 rfl (by kernel_rfl) (Nat.le_of_ble_eq_true rfl) ?_
  repeat (first | refine wA0 rfl rfl rfl rfl ?_ | refine AL.nil ?_ | refine AW.seq ?_ | refine AW.region ?_ | refine bA rfl rfl rfl rfl rfl rfl ?_)
  refine AL.effN _ (VE.bslice hT (d := 2) (FS [sYears]) rfl rfl rfl rfl rfl rfl rfl (fun q hq => ?_)) rfl rfl rfl rfl rfl ?_
  · obtain rfl : q = 0 := by omega
    rfl
  refine AL.weak (Weak.freezeN 2 (.loc 2) (fun q => eS (([sYears] : List Bs).getD q default)) rfl rfl rfl rfl (fun q hq => rfl) rfl) ?_
  repeat (refine wA0 rfl rfl rfl rfl ?_)
  refine AL.effN _ (VE.bslice hT (d := 4) (fun q => if q = 0 then [eS sName, eI 1, .lit (.slice none 0 0), eI 0, eI 0, eS ⟨#[]⟩] else FA sampA 1) rfl rfl rfl rfl rfl rfl rfl (fun q hq => ?_)) rfl rfl rfl rfl rfl ?_
  · have : q = 0 ∨ q = 1 := by omega
    rcases this with rfl | rfl <;> rfl
  refine AL.weak (Weak.trans (Weak.arrImp (.loc 4) 2 (FA sampA) rfl rfl rfl (fun q hq π vs h => ?_) rfl) (Weak.freezeN 4 (.loc 4) (fun q => eA (sampA.getD q default)) rfl rfl rfl rfl (fun q hq => rfl) rfl)) ?_
  · have : q = 0 ∨ q = 1 := by omega
    rcases this with rfl | rfl
    · obtain ⟨v1, r1, rfl, a1, b1, v2, r2, rfl, a2, b2, v3, r3, rfl, a3, b3, h4⟩ := h
      exact ⟨v1, _, rfl, a1, b1, v2, _, rfl, a2, b2, v3, _, rfl, a3, nilSl_rep b3, h4⟩
    · exact h
  refine AL.effN _ (VE.bslice hT (d := 5) (FI [0]) rfl rfl rfl rfl rfl rfl rfl (fun q hq => ?_)) rfl rfl rfl rfl rfl ?_
  · obtain rfl : q = 0 := by omega
    rfl
  refine AL.weak (Weak.freezeN 5 (.loc 5) (fun q => eI (([0] : List Int).getD q 0)) rfl rfl rfl rfl (fun q hq => rfl) rfl) ?_
  repeat (refine wA0 rfl rfl rfl rfl ?_)
  refine AL.effN _ (VE.bslice hT (d := 7) (FT sampL) rfl rfl rfl rfl rfl rfl rfl (fun q hq => ?_)) rfl rfl rfl rfl rfl ?_
  · obtain rfl : q = 0 := by omega
    rfl
  refine AL.weak (Weak.freezeN 7 (.loc 7) (fun q => eT (sampL.getD q default)) rfl rfl rfl rfl (fun q hq => rfl) rfl) ?_
  repeat' (first | refine wA0 rfl rfl rfl rfl ?_ | refine AL.nil ?_ | refine sA rfl rfl rfl rfl rfl rfl rfl rfl rfl ?_ | (refine AW.ret ?_; refine ⟨[], _, _, rfl, rfl, ⟨?_, rfl⟩, rfl⟩))
  rfl
theorem f49 : AF Tryz.prog 49 [] [] (fun o p => o = .ret (.d (eVs sampR)) ∧ p = []) := by
  refine AF.intro hT Tryz.func49 rfl (by kernel_rfl) (Nat.le_of_ble_eq_true rfl) ?_
  repeat (first | refine wA0 rfl rfl rfl rfl ?_ | refine AL.nil ?_ | refine AW.seq ?_ | refine AW.region ?_)
  refine AL.effN _ (VE.bslice hT (d := 3) (FV sampR) rfl rfl rfl rfl rfl rfl rfl (fun q hq => ?_)) rfl rfl rfl rfl rfl ?_
  · have : q = 0 ∨ q = 1 := by omega
    rcases this with rfl | rfl <;> rfl
  refine AL.weak (Weak.freezeN 3 (.loc 3) (fun q => eV (sampR.getD q default)) rfl rfl rfl rfl (fun q hq => rfl) rfl) ?_
  repeat' (first | refine wA0 rfl rfl rfl rfl ?_ | refine AL.nil ?_ | (refine AW.ret ?_; refine ⟨[], _, _, rfl, rfl, ⟨?_, rfl⟩, rfl⟩))
  rfl
end Go.Pv
