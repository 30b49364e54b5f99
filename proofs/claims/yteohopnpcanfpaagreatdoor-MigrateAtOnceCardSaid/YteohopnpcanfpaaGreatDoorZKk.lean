/- Part of the proofs over this seat: V12 V13. -/
import Derived.Test.YteohopnpcanfpaaGreatDoorZKj
import Derived.WalkKit
import Derived.Deep.RegionLaw
import Derived.Deep.Upon
import Derived.Lib.SliceRun
set_option maxRecDepth 100000
namespace Go.Pv
open Go.RowKit Go.Proofs

/-- schema.find: whether a change is formed; what it finds. -/
def formA (c : Ch) : Bool := emp c.attr
def formD (c : Ch) : Bool := emp c.name && (c.to == 0 && zeroV c.dflt)
def formR (c : Ch) : Bool := c.to == 0 && zeroV c.dflt
def formC (c : Ch) : Bool := emp c.name
def tabOf (l : List Tb) (c : Ch) : Tb := l.getD (findF l c.table).toNat default
def colOf (l : List Tb) (c : Ch) : Int := columnF (tabOf l c).attrs c.attr
/-- The table's and attribute's indices and the error; 'ck' is the error that the kind's check gives. -/
def findR (form named : Bool) (ck : Int) (l : List Tb) (c : Ch) : Int × Int × Int :=
  bif (bif !form then true else !validF l) then (0, 0, 1)
  else bif decide (findF l c.table < 0) then (0, 0, 11)
  else bif (bif named then decide (colOf l c < 0) else false) then (0, 0, 11)
  else (findF l c.table, colOf l c, ck)
theorem findF_lt {l : List Tb} {x : Bs} (h : ¬ findF l x < 0) : 0 ≤ findF l x ∧ findF l x < l.length := by
  rcases idx_lt (fun t => eqS t.name x) l with h1 | ⟨h1, h2⟩
  · exact ⟨by omega, h1⟩
  · unfold findF at h; omega
theorem columnF_nat {l : List At} {x : Bs} (h : 0 ≤ columnF l x) : ∃ n : Nat, columnF l x = n ∧ n < l.length := by
  unfold columnF at h ⊢
  cases h1 : decide (idx (fun t => eqS t.name x) l ≥ 0) with
  | true =>
    rw [h1] at h
    obtain ⟨n, e, hn, _⟩ := idx_nat (p := fun t : At => eqS t.name x) (l := l) h
    exact ⟨n, e, hn⟩
  | false =>
    rw [h1] at h
    obtain ⟨n, e, hn, _⟩ := idx_nat (p := fun t : At => hasS t.was x) (l := l) h
    exact ⟨n, e, hn⟩
structure OkC (c : Ch) : Prop where
  name : c.name.size ≤ maxLen
theorem f51a (l : List Tb) (c : Ch) (hk : c.kind = 1) (hl : OkS l) (hc : OkC c) : AF Tryz.prog 51 [.d (.agg [eTs l]), .d (eC c)] [] (fun o p => o = .ret (.tup [effA, .d (eI (findR (formA c) false (checkA (tabOf l c) c) l c).1), .d (eI (findR (formA c) false (checkA (tabOf l c) c) l c).2.1), .d (eI (findR (formA c) false (checkA (tabOf l c) c) l c).2.2)]) ∧ p = []) := by
  refine AF.intro hT Tryz.func51 rfl (by kernel_rfl) (Nat.le_of_ble_eq_true rfl) ?_
  repeat (first | refine wA0 rfl rfl rfl rfl ?_ | refine AL.nil ?_ | refine AW.seq ?_ | refine AW.region ?_ | refine bA rfl rfl rfl rfl rfl rfl ?_)
  refine AL.call0 rfl rfl rfl (f85a c hk) rfl rfl rfl ?_
  repeat (first | refine wA0 rfl rfl rfl rfl ?_ | refine wA1 rfl rfl rfl rfl rfl ?_ | refine AL.nil ?_ | refine AW.seq ?_ | refine AW.region ?_ | refine sA rfl rfl rfl rfl rfl rfl rfl rfl rfl ?_)
  refine kA1 rfl rfl rfl rfl (fun hγ => f23 l hl) rfl rfl rfl ?_
  repeat (first | refine wA0 rfl rfl rfl rfl ?_ | refine wA1 rfl rfl rfl rfl rfl ?_ | refine AL.nil ?_)
  refine AW.cond rfl (fun h1 => ?_) (fun h1 => ?_)
  · have h1' : (bif !formA c then true else !validF l) = true := h1
    repeat' (first | refine wA0 rfl rfl rfl rfl ?_ | refine AL.nil ?_ | refine AW.seq ?_ | refine AW.region ?_ | refine sA rfl rfl rfl rfl rfl rfl rfl rfl rfl ?_ | (refine AW.ret ?_; refine ⟨[], _, _, rfl, rfl, ⟨?_, rfl⟩, rfl⟩))
    simp only [findR, h1', cond_true]
    rfl
  · have h1' : (bif !formA c then true else !validF l) = false := h1
    repeat (first | refine wA0 rfl rfl rfl rfl ?_ | refine AW.seq ?_ | refine AW.region ?_ | refine AW.skip ?_)
    refine AL.call0 rfl rfl rfl (f25 l c.table hl.len) rfl rfl rfl ?_
    repeat (first | refine wA0 rfl rfl rfl rfl ?_ | refine AL.nil ?_ | refine AW.seq ?_ | refine AW.region ?_)
    refine AW.cond rfl (fun h2 => ?_) (fun h2 => ?_)
    · repeat' (first | refine wA0 rfl rfl rfl rfl ?_ | refine AL.nil ?_ | refine AW.seq ?_ | refine AW.region ?_ | refine sA rfl rfl rfl rfl rfl rfl rfl rfl rfl ?_ | (refine AW.ret ?_; refine ⟨[], _, _, rfl, rfl, ⟨?_, rfl⟩, rfl⟩))
      have h2' : decide (findF l c.table < 0) = true := h2
      simp only [findR, h1', h2', cond_true, cond_false]
      rfl
    · have h2' : decide (findF l c.table < 0) = false := h2
      have hb := findF_lt (l := l) (x := c.table) (by simpa using h2')
      have hm : tabOf l c ∈ l := mem_getD (by omega)
      repeat (first | refine AW.seq ?_ | refine AW.skip ?_ | refine dW ?_ | refine wG0 rfl rfl rfl rfl ?_)
      refine DG.call0 rfl rfl rfl (f29 (tabOf l c) c.attr (hl.t _ hm).attrs (hl.t _ hm).was) rfl rfl rfl ?_
      repeat (first | refine wA0 rfl rfl rfl rfl ?_ | refine wA1 rfl rfl rfl rfl rfl ?_ | refine AL.nil ?_ | refine AW.seq ?_ | refine AW.region ?_ | refine wG0 rfl rfl rfl rfl ?_ | refine nG ?_)
      refine AW.condF rfl rfl ?_
      have h3' : (bif false then decide (colOf l c < 0) else false) = false := rfl
      repeat (first | refine AW.seq ?_ | refine AW.skip ?_ | refine dW ?_ | refine wG0 rfl rfl rfl rfl ?_)
      refine DG.call0 rfl rfl rfl (f130 (tabOf l c) c (colOf l c) (hl.t _ hm) hc.name) rfl rfl rfl ?_
      repeat (first | refine wG0 rfl rfl rfl rfl ?_ | refine sG rfl rfl rfl rfl rfl rfl rfl rfl rfl ?_ | refine nG ?_)
      refine AW.ret ?_
      refine ⟨[], _, _, rfl, rfl, ⟨?_, rfl⟩, rfl⟩
      simp only [findR, h1', h2', h3', cond_false]
      rfl
theorem f51d (l : List Tb) (c : Ch) (hk : c.kind = 2) (hl : OkS l) : AF Tryz.prog 51 [.d (.agg [eTs l]), .d (eC c)] [] (fun o p => o = .ret (.tup [effD, .d (eI (findR (formD c) true (checkD (tabOf l c) (colOf l c)) l c).1), .d (eI (findR (formD c) true (checkD (tabOf l c) (colOf l c)) l c).2.1), .d (eI (findR (formD c) true (checkD (tabOf l c) (colOf l c)) l c).2.2)]) ∧ p = []) := by
  refine AF.intro hT Tryz.func51 rfl (by kernel_rfl) (Nat.le_of_ble_eq_true rfl) ?_
  repeat (first | refine wA0 rfl rfl rfl rfl ?_ | refine AL.nil ?_ | refine AW.seq ?_ | refine AW.region ?_ | refine bA rfl rfl rfl rfl rfl rfl ?_)
  refine AL.call0 rfl rfl rfl (f85d c hk) rfl rfl rfl ?_
  repeat (first | refine wA0 rfl rfl rfl rfl ?_ | refine wA1 rfl rfl rfl rfl rfl ?_ | refine AL.nil ?_ | refine AW.seq ?_ | refine AW.region ?_ | refine sA rfl rfl rfl rfl rfl rfl rfl rfl rfl ?_)
  refine kA1 rfl rfl rfl rfl (fun hγ => f23 l hl) rfl rfl rfl ?_
  repeat (first | refine wA0 rfl rfl rfl rfl ?_ | refine wA1 rfl rfl rfl rfl rfl ?_ | refine AL.nil ?_)
  refine AW.cond rfl (fun h1 => ?_) (fun h1 => ?_)
  · have h1' : (bif !formD c then true else !validF l) = true := h1
    repeat' (first | refine wA0 rfl rfl rfl rfl ?_ | refine AL.nil ?_ | refine AW.seq ?_ | refine AW.region ?_ | refine sA rfl rfl rfl rfl rfl rfl rfl rfl rfl ?_ | (refine AW.ret ?_; refine ⟨[], _, _, rfl, rfl, ⟨?_, rfl⟩, rfl⟩))
    simp only [findR, h1', cond_true]
    rfl
  · have h1' : (bif !formD c then true else !validF l) = false := h1
    repeat (first | refine wA0 rfl rfl rfl rfl ?_ | refine AW.seq ?_ | refine AW.region ?_ | refine AW.skip ?_)
    refine AL.call0 rfl rfl rfl (f25 l c.table hl.len) rfl rfl rfl ?_
    repeat (first | refine wA0 rfl rfl rfl rfl ?_ | refine AL.nil ?_ | refine AW.seq ?_ | refine AW.region ?_)
    refine AW.cond rfl (fun h2 => ?_) (fun h2 => ?_)
    · repeat' (first | refine wA0 rfl rfl rfl rfl ?_ | refine AL.nil ?_ | refine AW.seq ?_ | refine AW.region ?_ | refine sA rfl rfl rfl rfl rfl rfl rfl rfl rfl ?_ | (refine AW.ret ?_; refine ⟨[], _, _, rfl, rfl, ⟨?_, rfl⟩, rfl⟩))
      have h2' : decide (findF l c.table < 0) = true := h2
      simp only [findR, h1', h2', cond_true, cond_false]
      rfl
    · have h2' : decide (findF l c.table < 0) = false := h2
      have hb := findF_lt (l := l) (x := c.table) (by simpa using h2')
      have hm : tabOf l c ∈ l := mem_getD (by omega)
      repeat (first | refine AW.seq ?_ | refine AW.skip ?_ | refine dW ?_ | refine wG0 rfl rfl rfl rfl ?_)
      refine DG.call0 rfl rfl rfl (f29 (tabOf l c) c.attr (hl.t _ hm).attrs (hl.t _ hm).was) rfl rfl rfl ?_
      repeat (first | refine wA0 rfl rfl rfl rfl ?_ | refine wA1 rfl rfl rfl rfl rfl ?_ | refine AL.nil ?_ | refine AW.seq ?_ | refine AW.region ?_ | refine wG0 rfl rfl rfl rfl ?_ | refine nG ?_)
      refine AW.cond rfl (fun h3 => ?_) (fun h3 => ?_)
      · have h3' : (bif true then decide (colOf l c < 0) else false) = true := h3
        repeat' (first | refine wA0 rfl rfl rfl rfl ?_ | refine AL.nil ?_ | refine AW.seq ?_ | refine AW.region ?_ | refine sA rfl rfl rfl rfl rfl rfl rfl rfl rfl ?_ | (refine AW.ret ?_; refine ⟨[], _, _, rfl, rfl, ⟨?_, rfl⟩, rfl⟩))
        simp only [findR, h1', h2', h3', cond_true, cond_false]
        rfl
      · have h3' : (bif true then decide (colOf l c < 0) else false) = false := h3
        repeat (first | refine AW.seq ?_ | refine AW.skip ?_ | refine dW ?_ | refine wG0 rfl rfl rfl rfl ?_)
        refine DG.call0 rfl rfl rfl (f135 (tabOf l c) c (colOf l c) (hl.t _ hm)) rfl rfl rfl ?_
        repeat (first | refine wG0 rfl rfl rfl rfl ?_ | refine sG rfl rfl rfl rfl rfl rfl rfl rfl rfl ?_ | refine nG ?_)
        refine AW.ret ?_
        refine ⟨[], _, _, rfl, rfl, ⟨?_, rfl⟩, rfl⟩
        simp only [findR, h1', h2', h3', cond_false]
        rfl
theorem f51r (l : List Tb) (c : Ch) (hk : c.kind = 3) (hl : OkS l) (hc : OkC c) : AF Tryz.prog 51 [.d (.agg [eTs l]), .d (eC c)] [] (fun o p => o = .ret (.tup [effR, .d (eI (findR (formR c) true (freshF (tabOf l c) c) l c).1), .d (eI (findR (formR c) true (freshF (tabOf l c) c) l c).2.1), .d (eI (findR (formR c) true (freshF (tabOf l c) c) l c).2.2)]) ∧ p = []) := by
  refine AF.intro hT Tryz.func51 rfl (by kernel_rfl) (Nat.le_of_ble_eq_true rfl) ?_
  repeat (first | refine wA0 rfl rfl rfl rfl ?_ | refine AL.nil ?_ | refine AW.seq ?_ | refine AW.region ?_ | refine bA rfl rfl rfl rfl rfl rfl ?_)
  refine AL.call0 rfl rfl rfl (f85r c hk) rfl rfl rfl ?_
  repeat (first | refine wA0 rfl rfl rfl rfl ?_ | refine wA1 rfl rfl rfl rfl rfl ?_ | refine AL.nil ?_ | refine AW.seq ?_ | refine AW.region ?_ | refine sA rfl rfl rfl rfl rfl rfl rfl rfl rfl ?_)
  refine kA1 rfl rfl rfl rfl (fun hγ => f23 l hl) rfl rfl rfl ?_
  repeat (first | refine wA0 rfl rfl rfl rfl ?_ | refine wA1 rfl rfl rfl rfl rfl ?_ | refine AL.nil ?_)
  refine AW.cond rfl (fun h1 => ?_) (fun h1 => ?_)
  · have h1' : (bif !formR c then true else !validF l) = true := h1
    repeat' (first | refine wA0 rfl rfl rfl rfl ?_ | refine AL.nil ?_ | refine AW.seq ?_ | refine AW.region ?_ | refine sA rfl rfl rfl rfl rfl rfl rfl rfl rfl ?_ | (refine AW.ret ?_; refine ⟨[], _, _, rfl, rfl, ⟨?_, rfl⟩, rfl⟩))
    simp only [findR, h1', cond_true]
    rfl
  · have h1' : (bif !formR c then true else !validF l) = false := h1
    repeat (first | refine wA0 rfl rfl rfl rfl ?_ | refine AW.seq ?_ | refine AW.region ?_ | refine AW.skip ?_)
    refine AL.call0 rfl rfl rfl (f25 l c.table hl.len) rfl rfl rfl ?_
    repeat (first | refine wA0 rfl rfl rfl rfl ?_ | refine AL.nil ?_ | refine AW.seq ?_ | refine AW.region ?_)
    refine AW.cond rfl (fun h2 => ?_) (fun h2 => ?_)
    · repeat' (first | refine wA0 rfl rfl rfl rfl ?_ | refine AL.nil ?_ | refine AW.seq ?_ | refine AW.region ?_ | refine sA rfl rfl rfl rfl rfl rfl rfl rfl rfl ?_ | (refine AW.ret ?_; refine ⟨[], _, _, rfl, rfl, ⟨?_, rfl⟩, rfl⟩))
      have h2' : decide (findF l c.table < 0) = true := h2
      simp only [findR, h1', h2', cond_true, cond_false]
      rfl
    · have h2' : decide (findF l c.table < 0) = false := h2
      have hb := findF_lt (l := l) (x := c.table) (by simpa using h2')
      have hm : tabOf l c ∈ l := mem_getD (by omega)
      repeat (first | refine AW.seq ?_ | refine AW.skip ?_ | refine dW ?_ | refine wG0 rfl rfl rfl rfl ?_)
      refine DG.call0 rfl rfl rfl (f29 (tabOf l c) c.attr (hl.t _ hm).attrs (hl.t _ hm).was) rfl rfl rfl ?_
      repeat (first | refine wA0 rfl rfl rfl rfl ?_ | refine wA1 rfl rfl rfl rfl rfl ?_ | refine AL.nil ?_ | refine AW.seq ?_ | refine AW.region ?_ | refine wG0 rfl rfl rfl rfl ?_ | refine nG ?_)
      refine AW.cond rfl (fun h3 => ?_) (fun h3 => ?_)
      · have h3' : (bif true then decide (colOf l c < 0) else false) = true := h3
        repeat' (first | refine wA0 rfl rfl rfl rfl ?_ | refine AL.nil ?_ | refine AW.seq ?_ | refine AW.region ?_ | refine sA rfl rfl rfl rfl rfl rfl rfl rfl rfl ?_ | (refine AW.ret ?_; refine ⟨[], _, _, rfl, rfl, ⟨?_, rfl⟩, rfl⟩))
        simp only [findR, h1', h2', h3', cond_true, cond_false]
        rfl
      · have h3' : (bif true then decide (colOf l c < 0) else false) = false := h3
        repeat (first | refine AW.seq ?_ | refine AW.skip ?_ | refine dW ?_ | refine wG0 rfl rfl rfl rfl ?_)
        refine DG.call0 rfl rfl rfl (f141 (tabOf l c) c (colOf l c) (hl.t _ hm) hc.name) rfl rfl rfl ?_
        repeat (first | refine wG0 rfl rfl rfl rfl ?_ | refine sG rfl rfl rfl rfl rfl rfl rfl rfl rfl ?_ | refine nG ?_)
        refine AW.ret ?_
        refine ⟨[], _, _, rfl, rfl, ⟨?_, rfl⟩, rfl⟩
        simp only [findR, h1', h2', h3', cond_false]
        rfl
theorem f51c (l : List Tb) (c : Ch) (hk : c.kind = 4) (hl : OkS l) : AF Tryz.prog 51 [.d (.agg [eTs l]), .d (eC c)] [] (fun o p => o = .ret (.tup [effC, .d (eI (findR (formC c) true (checkC (tabOf l c) c (colOf l c).toNat) l c).1), .d (eI (findR (formC c) true (checkC (tabOf l c) c (colOf l c).toNat) l c).2.1), .d (eI (findR (formC c) true (checkC (tabOf l c) c (colOf l c).toNat) l c).2.2)]) ∧ p = []) := by
  refine AF.intro hT Tryz.func51 rfl (by kernel_rfl) (Nat.le_of_ble_eq_true rfl) ?_
  repeat (first | refine wA0 rfl rfl rfl rfl ?_ | refine AL.nil ?_ | refine AW.seq ?_ | refine AW.region ?_ | refine bA rfl rfl rfl rfl rfl rfl ?_)
  refine AL.call0 rfl rfl rfl (f85c c hk) rfl rfl rfl ?_
  repeat (first | refine wA0 rfl rfl rfl rfl ?_ | refine wA1 rfl rfl rfl rfl rfl ?_ | refine AL.nil ?_ | refine AW.seq ?_ | refine AW.region ?_ | refine sA rfl rfl rfl rfl rfl rfl rfl rfl rfl ?_)
  refine kA1 rfl rfl rfl rfl (fun hγ => f23 l hl) rfl rfl rfl ?_
  repeat (first | refine wA0 rfl rfl rfl rfl ?_ | refine wA1 rfl rfl rfl rfl rfl ?_ | refine AL.nil ?_)
  refine AW.cond rfl (fun h1 => ?_) (fun h1 => ?_)
  · have h1' : (bif !formC c then true else !validF l) = true := h1
    repeat' (first | refine wA0 rfl rfl rfl rfl ?_ | refine AL.nil ?_ | refine AW.seq ?_ | refine AW.region ?_ | refine sA rfl rfl rfl rfl rfl rfl rfl rfl rfl ?_ | (refine AW.ret ?_; refine ⟨[], _, _, rfl, rfl, ⟨?_, rfl⟩, rfl⟩))
    simp only [findR, h1', cond_true]
    rfl
  · have h1' : (bif !formC c then true else !validF l) = false := h1
    repeat (first | refine wA0 rfl rfl rfl rfl ?_ | refine AW.seq ?_ | refine AW.region ?_ | refine AW.skip ?_)
    refine AL.call0 rfl rfl rfl (f25 l c.table hl.len) rfl rfl rfl ?_
    repeat (first | refine wA0 rfl rfl rfl rfl ?_ | refine AL.nil ?_ | refine AW.seq ?_ | refine AW.region ?_)
    refine AW.cond rfl (fun h2 => ?_) (fun h2 => ?_)
    · repeat' (first | refine wA0 rfl rfl rfl rfl ?_ | refine AL.nil ?_ | refine AW.seq ?_ | refine AW.region ?_ | refine sA rfl rfl rfl rfl rfl rfl rfl rfl rfl ?_ | (refine AW.ret ?_; refine ⟨[], _, _, rfl, rfl, ⟨?_, rfl⟩, rfl⟩))
      have h2' : decide (findF l c.table < 0) = true := h2
      simp only [findR, h1', h2', cond_true, cond_false]
      rfl
    · have h2' : decide (findF l c.table < 0) = false := h2
      have hb := findF_lt (l := l) (x := c.table) (by simpa using h2')
      have hm : tabOf l c ∈ l := mem_getD (by omega)
      repeat (first | refine AW.seq ?_ | refine AW.skip ?_ | refine dW ?_ | refine wG0 rfl rfl rfl rfl ?_)
      refine DG.call0 rfl rfl rfl (f29 (tabOf l c) c.attr (hl.t _ hm).attrs (hl.t _ hm).was) rfl rfl rfl ?_
      repeat (first | refine wA0 rfl rfl rfl rfl ?_ | refine wA1 rfl rfl rfl rfl rfl ?_ | refine AL.nil ?_ | refine AW.seq ?_ | refine AW.region ?_ | refine wG0 rfl rfl rfl rfl ?_ | refine nG ?_)
      refine AW.cond rfl (fun h3 => ?_) (fun h3 => ?_)
      · have h3' : (bif true then decide (colOf l c < 0) else false) = true := h3
        repeat' (first | refine wA0 rfl rfl rfl rfl ?_ | refine AL.nil ?_ | refine AW.seq ?_ | refine AW.region ?_ | refine sA rfl rfl rfl rfl rfl rfl rfl rfl rfl ?_ | (refine AW.ret ?_; refine ⟨[], _, _, rfl, rfl, ⟨?_, rfl⟩, rfl⟩))
        simp only [findR, h1', h2', h3', cond_true, cond_false]
        rfl
      · have h3' : (bif true then decide (colOf l c < 0) else false) = false := h3
        obtain ⟨n, hn, hna⟩ : ∃ n : Nat, colOf l c = n ∧ n < (tabOf l c).attrs.length := by
          have h4 : ¬ colOf l c < 0 := by
            intro h5
            have : decide (colOf l c < 0) = true := by simpa using h5
            simp only [cond_true, this] at h3'
            cases h3'
          have h5 : 0 ≤ columnF (tabOf l c).attrs c.attr := by unfold colOf at h4; omega
          exact columnF_nat h5
        have hck : AF Tryz.prog 145 [.d (eT (tabOf l c)), .d (eC c), .d (eI (colOf l c))] [] (fun o p => o = .ret (.d (eI (checkC (tabOf l c) c (colOf l c).toNat))) ∧ p = []) := by
          rw [hn]
          exact f145 (tabOf l c) c n hna
        repeat (first | refine AW.seq ?_ | refine AW.skip ?_ | refine dW ?_ | refine wG0 rfl rfl rfl rfl ?_)
        refine DG.call0 rfl rfl rfl (hck) rfl rfl rfl ?_
        repeat (first | refine wG0 rfl rfl rfl rfl ?_ | refine sG rfl rfl rfl rfl rfl rfl rfl rfl rfl ?_ | refine nG ?_)
        refine AW.ret ?_
        refine ⟨[], _, _, rfl, rfl, ⟨?_, rfl⟩, rfl⟩
        simp only [findR, h1', h2', h3', cond_false]
        rfl
def effX : PV := .d (.agg [.lit (.bool false), .lit .nilFunc, .lit .nilFunc, .lit .nilFunc])
theorem f51x (l : List Tb) (c : Ch) (n1 : (c.kind == 1) = false) (n2 : (c.kind == 2) = false) (n3 : (c.kind == 3) = false) (n4 : (c.kind == 4) = false) (hl : OkS l) : AF Tryz.prog 51 [.d (.agg [eTs l]), .d (eC c)] [] (fun o p => o = .ret (.tup [effX, .d (eI 0), .d (eI 0), .d (eI 1)]) ∧ p = []) := by
  refine AF.intro hT Tryz.func51 rfl (by kernel_rfl) (Nat.le_of_ble_eq_true rfl) ?_
  repeat (first | refine wA0 rfl rfl rfl rfl ?_ | refine AL.nil ?_ | refine AW.seq ?_ | refine AW.region ?_ | refine bA rfl rfl rfl rfl rfl rfl ?_)
  refine AL.call0 rfl rfl rfl (f85x c n1 n2 n3 n4) rfl rfl rfl ?_
  repeat (first | refine wA0 rfl rfl rfl rfl ?_ | refine wA1 rfl rfl rfl rfl rfl ?_ | refine AL.nil ?_ | refine AW.seq ?_ | refine AW.region ?_ | refine sA rfl rfl rfl rfl rfl rfl rfl rfl rfl ?_)
  refine kA1 rfl rfl rfl rfl (fun hγ => f23 l hl) rfl rfl rfl ?_
  repeat (first | refine wA0 rfl rfl rfl rfl ?_ | refine wA1 rfl rfl rfl rfl rfl ?_ | refine AL.nil ?_)
  refine AW.condT rfl rfl ?_
  repeat' (first | refine wA0 rfl rfl rfl rfl ?_ | refine AL.nil ?_ | refine AW.seq ?_ | refine AW.region ?_ | refine sA rfl rfl rfl rfl rfl rfl rfl rfl rfl ?_ | (refine AW.ret ?_; refine ⟨[], _, _, rfl, rfl, ⟨?_, rfl⟩, rfl⟩))
  rfl
end Go.Pv
namespace Go.Pv
open Go.RowKit Go.Proofs

theorem run_clear_cells {P : Program} (w : World) (t e ty : TypeId) (z : Value) (ht : P.underlying t = some (.slice e)) (hv : ∀ w, (zeroValue e).run P w = .ok z w) (h1 : ∀ v ∈ z.cells.toList, v.oneCell' = true) (b o c : Nat)
    (hc : ∀ j, j < z.cells.size → (w.cell? ⟨b, o + j, none⟩).isSome = true) (hf : ∀ j, j < z.cells.size → w.frozen? ⟨b, o + j, none⟩ = false) :
    (Builtin.clear_ #[t] ty #[.slice (some ⟨b, o, none⟩) 1 c]).run P w = .ok (.tuple #[]) (w.setCells b o z.cells.toList) := by
  have hzc : (Builtin.zeroCells z.cells 1).toList = z.cells.toList := by
    apply List.ext_getElem
    · simp [Builtin.zeroCells]
    · intro i h1 h2
      have h2' : i < z.cells.size := by simpa using h2
      simp [Builtin.zeroCells, Nat.mod_eq_of_lt h2', getElem!_pos, h2']
  have hst := run_storeCells_cells (P := P) b o z.cells.toList 0 w (by simpa using hc) (by simpa using hf) h1
  simp only [Nat.add_zero] at hst
  simp [Builtin.clear_, run_underlying ht, hv, hzc, hst]

theorem setCells_row {P : Program} {w : World} {g o : Nat} {cur : Array Value} {e : TypeId} {vs : List Value} (hb : w.heap[g]? = some (.cells cur e (0, 0))) (hl : o + vs.length ≤ cur.size) (h1 : ∀ v ∈ vs, v.oneCell' = true) :
    w.setCells g o vs = w.setRow g (cur.toList.take o ++ vs ++ cur.toList.drop (o + vs.length)).toArray := by
  have hc : ∀ t, t < cur.size → w.cell? ⟨g, t, none⟩ = some cur[t]! := fun t ht => by simp [World.cell?, hb, ht]
  have a1 := run_storeCells_cells (P := P) g o vs 0 w (fun j hj => by rw [hc _ (by omega)]; rfl) (fun j hj => by simp [World.frozen?, hb]) h1
  have a2 := run_storeCells_at (P := P) g o e vs 0 cur w hb (by omega) h1
  simp only [Nat.add_zero] at a1 a2
  rw [a1] at a2
  simp only [Result.ok.injEq, true_and] at a2
  exact a2

set_option maxHeartbeats 4000000 in
/-- slices.Delete of one element: the walk. -/
theorem del138 (w : World) (g cap n a : Nat) (cur : Array Value) (hb : w.heap[g]? = some (.cells cur 53 (0, 0))) (h1 : ∀ v ∈ cur.toList.take (n * 6), v.oneCell' = true) (hn : n ≤ cap) (hs : cur.size = cap * 6) (ha : a < n) :
    Calls Tryz.prog 138 #[.slice (some ⟨g, 0, none⟩) n cap, .int .i64 a, .int .i64 ((a + 1 : Nat) : Int)] w (fun e w' => e = .returned (.slice (some ⟨g, 0, none⟩) (a + (n - (a + 1))) cap) ∧
      ∃ q, w' = ((Sort.ahead w q).setCells g (a * 6) ((cur.toList.take (n * 6)).drop ((a + 1) * 6))).setCells g ((a + (n - (a + 1))) * 6) (Value.agg #[zs, z0, zn, z0, z0, zs]).cells.toList) := by
  obtain ⟨hu, htj⟩ := elemOfT_spec hT (t := 41) rfl
  obtain ⟨i0, hi0, hz1, hz2, hz3⟩ := hT.inf htj
  have hz1' : i0.size = 6 := hz1
  have hc : ∀ t, t < cur.size → w.cell? ⟨g, t, none⟩ = some cur[t]! := fun t ht => by simp [World.cell?, hb, ht]
  have hf : ∀ t, w.frozen? ⟨g, t, none⟩ = false := fun t => by simp [World.frozen?, hb]
  obtain ⟨news, hnews⟩ : ∃ news, news = (cur.toList.take (n * 6)).drop ((a + 1) * 6) := ⟨_, rfl⟩
  have hk1 : (a + 1) * 6 + (n - (a + 1)) * 6 ≤ cur.size := by rw [hs]; omega
  have hlen : news.length = (n - (a + 1)) * 6 := by rw [hnews]; simp; omega
  obtain ⟨A, hA, hsrc⟩ : ∃ A : Addr, (if cap = a + 1 then some (⟨g, 0, none⟩ : Addr) else some ⟨g, (a + 1) * 6, none⟩) = some A ∧ Hid (∀ t u, news[t]? = some u → w.drew.cell? (A.add t) = some u) := by
    by_cases h : cap = a + 1
    · refine ⟨⟨g, 0, none⟩, by simp [h], fun t u hu => ?_⟩
      have h0 : news.length = 0 := by rw [hlen]; omega
      rw [List.length_eq_zero_iff.1 h0] at hu
      simp at hu
    · refine ⟨⟨g, (a + 1) * 6, none⟩, by simp [h], fun t u hu => ?_⟩
      have ht : t < (n - (a + 1)) * 6 := by
        have := (List.getElem?_eq_some_iff.1 hu).1
        rwa [hlen] at this
      rw [hnews, List.getElem?_drop, List.getElem?_take_of_lt (by omega)] at hu
      rw [Addr.add_lit]
      show w.cell? _ = _
      rw [hc _ (by omega)]
      rw [← hu]
      simp [show (a + 1) * 6 + t < cur.size by omega]
  have s1 : Hid (news.length = (n - (a + 1)) * 6) := hlen
  have s2 : Hid (∀ u ∈ news, u.oneCell' = true) := by
    intro u hu
    rw [hnews] at hu
    exact h1 u (List.mem_of_mem_drop hu)
  have s3 : Hid (∀ t, t < news.length → (w.drew.cell? ⟨g, 0 + a * 6 + t, none⟩).isSome = true ∧ w.drew.frozen? ⟨g, 0 + a * 6 + t, none⟩ = false) := by
    intro t ht
    rw [hlen] at ht
    exact ⟨by show (w.cell? _).isSome = true; rw [hc _ (by omega)]; rfl, hf _⟩
  obtain ⟨W1, hW1⟩ : ∃ W1, W1 = w.drew.setCells g (0 + a * 6) news := ⟨_, rfl⟩
  have hb1 : W1.heap[g]? = some (.cells (cur.toList.take (a * 6) ++ news ++ cur.toList.drop (a * 6 + news.length)).toArray 53 (0, 0)) := by
    rw [hW1, Nat.zero_add, setCells_row (P := Tryz.prog) (w := w.drew) hb (by rw [hlen]; omega) s2.out]
    exact setRow_heap w.drew g cur _ 53 (0, 0) hb
  have hsz1 : (cur.toList.take (a * 6) ++ news ++ cur.toList.drop (a * 6 + news.length)).length = cur.size := by
    simp
    omega
  have hcl : ∀ ty, (Builtin.clear_ #[41] ty #[.slice (some ⟨g, (a + (n - (a + 1))) * 6, none⟩) (n - (a + (n - (a + 1)))) (cap - (a + (n - (a + 1))))]).run Tryz.prog W1 = .ok (.tuple #[]) (W1.setCells g ((a + (n - (a + 1))) * 6) (Value.agg #[zs, z0, zn, z0, z0, zs]).cells.toList) :=
    fun ty => by
     rw [show n - (a + (n - (a + 1))) = 1 by omega]
     exact run_clear_cells W1 41 53 ty (.agg #[zs, z0, zn, z0, z0, zs]) hu (fun w => hT.run_zero (t := 53) rfl w) (by decide) g _ _ (fun t ht => by
      have ht' : t < 6 := ht
      simp only [World.cell?, hb1, Option.isSome_none, Bool.false_eq_true, if_false]
      rw [List.getElem?_toArray, List.getElem?_eq_getElem (by rw [hsz1]; omega)]
      rfl) (fun t _ => by simp [World.frozen?, hb1])
  have hX : Aside (W1 = w.drew.setCells g (0 + a * 6) news ∧ news = (cur.toList.take (n * 6)).drop ((a + 1) * 6)) := ⟨hW1, hnews⟩
  have hW : Hid (W1 = w.drew.setCells g (0 + a * 6) news) := hW1
  have hac : a ≤ cap := by omega
  have hp0 : (0 : Int) ≤ (a : Int) + 1 := by omega
  have hp1 : (a : Int) + 1 ≤ (n : Int) := by omega
  have hp2 : ((a : Int) + 1).toNat = a + 1 := by omega
  have hac1 : a + 1 ≤ cap := by omega
  have hne : ¬ ((a : Int) = ((a + 1 : Nat) : Int)) := by omega
  clear hW1 hnews hlen hb hb1 hsz1 hc hf
  go_enter Tryz.func138, Tryz.ntmps138
  go_wp2_with fail
  go_region_law (refine step_append_room rfl (.tmp 22) (.tmp 25) 41 rfl 53 i0 6 hu hi0 hz1' g 0 a cap (by simp [Act.eval, Act.put]) A (n - (a + 1)) (cap - (a + 1)) news (by simp [Act.eval, Act.put]) s1.out hsrc.out s2.out (by omega) s3.out ?_; rw [← hW.out])
  all_goals go_wp2
  all_goals go_ret
  all_goals (refine ⟨rfl, 1, ?_⟩; rw [hX.out.1, hX.out.2, Nat.zero_add]; rfl)

set_option maxHeartbeats 4000000 in
/-- slices.Delete of one element: the walk. -/
theorem del140 (w : World) (g cap n a : Nat) (cur : Array Value) (hb : w.heap[g]? = some (.cells cur 26 (0, 0))) (h1 : ∀ v ∈ cur.toList.take (n * 3), v.oneCell' = true) (hn : n ≤ cap) (hs : cur.size = cap * 3) (ha : a < n) :
    Calls Tryz.prog 140 #[.slice (some ⟨g, 0, none⟩) n cap, .int .i64 a, .int .i64 ((a + 1 : Nat) : Int)] w (fun e w' => e = .returned (.slice (some ⟨g, 0, none⟩) (a + (n - (a + 1))) cap) ∧
      ∃ q, w' = ((Sort.ahead w q).setCells g (a * 3) ((cur.toList.take (n * 3)).drop ((a + 1) * 3))).setCells g ((a + (n - (a + 1))) * 3) (Value.agg #[z0, z0, zs]).cells.toList) := by
  obtain ⟨hu, htj⟩ := elemOfT_spec hT (t := 29) rfl
  obtain ⟨i0, hi0, hz1, hz2, hz3⟩ := hT.inf htj
  have hz1' : i0.size = 3 := hz1
  have hc : ∀ t, t < cur.size → w.cell? ⟨g, t, none⟩ = some cur[t]! := fun t ht => by simp [World.cell?, hb, ht]
  have hf : ∀ t, w.frozen? ⟨g, t, none⟩ = false := fun t => by simp [World.frozen?, hb]
  obtain ⟨news, hnews⟩ : ∃ news, news = (cur.toList.take (n * 3)).drop ((a + 1) * 3) := ⟨_, rfl⟩
  have hk1 : (a + 1) * 3 + (n - (a + 1)) * 3 ≤ cur.size := by rw [hs]; omega
  have hlen : news.length = (n - (a + 1)) * 3 := by rw [hnews]; simp; omega
  obtain ⟨A, hA, hsrc⟩ : ∃ A : Addr, (if cap = a + 1 then some (⟨g, 0, none⟩ : Addr) else some ⟨g, (a + 1) * 3, none⟩) = some A ∧ Hid (∀ t u, news[t]? = some u → w.drew.cell? (A.add t) = some u) := by
    by_cases h : cap = a + 1
    · refine ⟨⟨g, 0, none⟩, by simp [h], fun t u hu => ?_⟩
      have h0 : news.length = 0 := by rw [hlen]; omega
      rw [List.length_eq_zero_iff.1 h0] at hu
      simp at hu
    · refine ⟨⟨g, (a + 1) * 3, none⟩, by simp [h], fun t u hu => ?_⟩
      have ht : t < (n - (a + 1)) * 3 := by
        have := (List.getElem?_eq_some_iff.1 hu).1
        rwa [hlen] at this
      rw [hnews, List.getElem?_drop, List.getElem?_take_of_lt (by omega)] at hu
      rw [Addr.add_lit]
      show w.cell? _ = _
      rw [hc _ (by omega)]
      rw [← hu]
      simp [show (a + 1) * 3 + t < cur.size by omega]
  have s1 : Hid (news.length = (n - (a + 1)) * 3) := hlen
  have s2 : Hid (∀ u ∈ news, u.oneCell' = true) := by
    intro u hu
    rw [hnews] at hu
    exact h1 u (List.mem_of_mem_drop hu)
  have s3 : Hid (∀ t, t < news.length → (w.drew.cell? ⟨g, 0 + a * 3 + t, none⟩).isSome = true ∧ w.drew.frozen? ⟨g, 0 + a * 3 + t, none⟩ = false) := by
    intro t ht
    rw [hlen] at ht
    exact ⟨by show (w.cell? _).isSome = true; rw [hc _ (by omega)]; rfl, hf _⟩
  obtain ⟨W1, hW1⟩ : ∃ W1, W1 = w.drew.setCells g (0 + a * 3) news := ⟨_, rfl⟩
  have hb1 : W1.heap[g]? = some (.cells (cur.toList.take (a * 3) ++ news ++ cur.toList.drop (a * 3 + news.length)).toArray 26 (0, 0)) := by
    rw [hW1, Nat.zero_add, setCells_row (P := Tryz.prog) (w := w.drew) hb (by rw [hlen]; omega) s2.out]
    exact setRow_heap w.drew g cur _ 26 (0, 0) hb
  have hsz1 : (cur.toList.take (a * 3) ++ news ++ cur.toList.drop (a * 3 + news.length)).length = cur.size := by
    simp
    omega
  have hcl : ∀ ty, (Builtin.clear_ #[29] ty #[.slice (some ⟨g, (a + (n - (a + 1))) * 3, none⟩) (n - (a + (n - (a + 1)))) (cap - (a + (n - (a + 1))))]).run Tryz.prog W1 = .ok (.tuple #[]) (W1.setCells g ((a + (n - (a + 1))) * 3) (Value.agg #[z0, z0, zs]).cells.toList) :=
    fun ty => by
     rw [show n - (a + (n - (a + 1))) = 1 by omega]
     exact run_clear_cells W1 29 26 ty (.agg #[z0, z0, zs]) hu (fun w => hT.run_zero (t := 26) rfl w) (by decide) g _ _ (fun t ht => by
      have ht' : t < 3 := ht
      simp only [World.cell?, hb1, Option.isSome_none, Bool.false_eq_true, if_false]
      rw [List.getElem?_toArray, List.getElem?_eq_getElem (by rw [hsz1]; omega)]
      rfl) (fun t _ => by simp [World.frozen?, hb1])
  have hX : Aside (W1 = w.drew.setCells g (0 + a * 3) news ∧ news = (cur.toList.take (n * 3)).drop ((a + 1) * 3)) := ⟨hW1, hnews⟩
  have hW : Hid (W1 = w.drew.setCells g (0 + a * 3) news) := hW1
  have hac : a ≤ cap := by omega
  have hp0 : (0 : Int) ≤ (a : Int) + 1 := by omega
  have hp1 : (a : Int) + 1 ≤ (n : Int) := by omega
  have hp2 : ((a : Int) + 1).toNat = a + 1 := by omega
  have hac1 : a + 1 ≤ cap := by omega
  have hne : ¬ ((a : Int) = ((a + 1 : Nat) : Int)) := by omega
  clear hW1 hnews hlen hb hb1 hsz1 hc hf
  go_enter Tryz.func140, Tryz.ntmps140
  go_wp2_with fail
  go_region_law (refine step_append_room rfl (.tmp 22) (.tmp 25) 29 rfl 26 i0 3 hu hi0 hz1' g 0 a cap (by simp [Act.eval, Act.put]) A (n - (a + 1)) (cap - (a + 1)) news (by simp [Act.eval, Act.put]) s1.out hsrc.out s2.out (by omega) s3.out ?_; rw [← hW.out])
  all_goals go_wp2
  all_goals go_ret
  all_goals (refine ⟨rfl, 1, ?_⟩; rw [hX.out.1, hX.out.2, Nat.zero_add]; rfl)

theorem cut_a {α : Type} (X z Y : List α) (m : Nat) (h : m ≤ X.length) : (X.take m ++ z ++ Y).take m = X.take m := by
  rw [List.append_assoc, List.take_append_of_le_length (by simp; omega), List.take_take, Nat.min_self]
theorem cut_b {α : Type} (P Q R : List α) (m : Nat) (h : P.length + Q.length = m) : (P ++ Q ++ R).take m = P ++ Q := by
  rw [List.take_append_of_le_length (by simp; omega), List.take_of_length_le (by simp; omega)]
/-- slices.Delete of one element. -/
theorem f138 (n a : Nat) (F : Nat → List D) (b : Bool) (ha : a < n) : AF Tryz.prog 138 [.sl (.par 0) n, .d (eI a), .d (eI ((a + 1 : Nat) : Int))] [.arr b 53 6 n F none]
    (fun o p => o = .ret (.sl (.par 1) (n - 1)) ∧ p = [.gone b (some n), .arr false 53 6 (n - 1) (fun q => if q < a then F q else F (q + 1)) none]) := by
  refine AF.arr1 (rest := [eI a, eI ((a + 1 : Nat) : Int)]) (F' := fun q => if q < a then F q else F (q + 1)) (by unfold Enters; kernel_rfl) ⟨rfl, rfl⟩ ?_
  rintro gh w u cs vs hp hG hown h1 hF hvs
  obtain ⟨v1, _, rfl, ⟨rfl, _⟩, v2, _, rfl, ⟨rfl, _⟩, rfl⟩ := hvs
  rcases hown with ⟨hlen, ⟨_, h0⟩ | ⟨g, cap, cur, rfl, _, hb, hn, hm, hs, ht⟩⟩
  · omega
  have hsub : a + (n - (a + 1)) = n - 1 := by omega
  refine (del138 w g cap n a cur hb (by rw [ht]; exact h1) hn hs ha).mono ?_
  rintro e0 w' ⟨rfl, q, rfl⟩
  rw [hsub, ht]
  have hcl : cs.length = n * 6 := hlen
  have hnk : n * 6 ≤ cap * 6 := Nat.mul_le_mul_right 6 hn
  have hb0 : (Sort.ahead w q).heap[g]? = some (.cells cur 53 (0, 0)) := hb
  have hone : ∀ v ∈ cs.drop ((a + 1) * 6), v.oneCell' = true := fun v hv => h1 v (List.mem_of_mem_drop hv)
  have r1 := setCells_row (P := Tryz.prog) hb0 (o := a * 6) (vs := cs.drop ((a + 1) * 6)) (by rw [List.length_drop]; omega) hone
  have hb1 := setRow_heap (Sort.ahead w q) g cur (cur.toList.take (a * 6) ++ cs.drop ((a + 1) * 6) ++ cur.toList.drop (a * 6 + (cs.drop ((a + 1) * 6)).length)).toArray 53 (0, 0) hb0
  have hl1 : (cur.toList.take (a * 6) ++ cs.drop ((a + 1) * 6) ++ cur.toList.drop (a * 6 + (cs.drop ((a + 1) * 6)).length)).length = cap * 6 := by
    rw [spl_len _ _ _ (by simp; omega)]
    simpa using hs
  have r2 := setCells_row (P := Tryz.prog) hb1 (o := (n - 1) * 6) (vs := (Value.agg #[zs, z0, zn, z0, z0, zs]).cells.toList) (by rw [List.size_toArray, hl1]; show (n - 1) * 6 + 6 ≤ _; omega) (by decide)
  rw [r1, r2]
  have hb2 := setRow_heap _ g _ ((cur.toList.take (a * 6) ++ cs.drop ((a + 1) * 6) ++ cur.toList.drop (a * 6 + (cs.drop ((a + 1) * 6)).length)).toArray.toList.take ((n - 1) * 6) ++ (Value.agg #[zs, z0, zn, z0, z0, zs]).cells.toList ++
    (cur.toList.take (a * 6) ++ cs.drop ((a + 1) * 6) ++ cur.toList.drop (a * 6 + (cs.drop ((a + 1) * 6)).length)).toArray.toList.drop ((n - 1) * 6 + (Value.agg #[zs, z0, zn, z0, z0, zs]).cells.toList.length)).toArray 53 (0, 0) hb1
  have hcut : cs.take (a * 6) ++ cs.drop ((a + 1) * 6) = ((cur.toList.take (a * 6) ++ cs.drop ((a + 1) * 6) ++ cur.toList.drop (a * 6 + (cs.drop ((a + 1) * 6)).length)).toArray.toList.take ((n - 1) * 6) ++ (Value.agg #[zs, z0, zn, z0, z0, zs]).cells.toList ++
    (cur.toList.take (a * 6) ++ cs.drop ((a + 1) * 6) ++ cur.toList.drop (a * 6 + (cs.drop ((a + 1) * 6)).length)).toArray.toList.drop ((n - 1) * 6 + (Value.agg #[zs, z0, zn, z0, z0, zs]).cells.toList.length)).take ((n - 1) * 6) := by
    have e1 : cur.toList.take (a * 6) = cs.take (a * 6) := by
      rw [← ht, List.take_take, Nat.min_eq_left (by omega)]
    rw [cut_a _ _ _ _ (by rw [List.toList_toArray, hl1]; omega), List.toList_toArray, cut_b _ _ _ _ (by rw [List.length_take, List.length_drop, Array.length_toList]; omega), e1]
  refine ⟨_, cs.take (a * 6) ++ cs.drop ((a + 1) * 6), rfl, ⟨by simp; omega, .inr ⟨g, cap, _, rfl, Nat.zero_le _, hb2, by omega, hm, ?_, hcut.symm⟩⟩, ?_, fun b hb => .inl hb, ?_, fun i hi => ?_⟩
  · rw [List.size_toArray, spl_len _ _ _ (by rw [List.toList_toArray, hl1]; show (n - 1) * 6 + 6 ≤ _; omega), List.toList_toArray, hl1]
  · refine ⟨rfl, rfl, rfl, by simp, fun k hk hne => ?_⟩
    have hgk : k ≠ g := fun e => hne (by rw [e]; rfl)
    rw [setRow_other _ _ _ _ hgk, setRow_other _ _ _ _ hgk]
    rfl
  · intro c hc
    rcases List.mem_append.1 hc with h | h
    · exact h1 c (List.mem_of_mem_take h)
    · exact h1 c (List.mem_of_mem_drop h)
  · by_cases hia : i < a
    · rw [if_pos hia, List.drop_append_of_le_length (by simp; omega), List.take_append_of_le_length (by simp; omega), List.drop_take, List.take_take, Nat.min_eq_left (by omega)]
      exact hF i (by omega)
    · rw [if_neg hia]
      have : ((cs.take (a * 6) ++ cs.drop ((a + 1) * 6)).drop (i * 6)).take 6 = (cs.drop ((i + 1) * 6)).take 6 := by
        rw [List.drop_append, List.drop_eq_nil_of_le (by simp; omega), List.nil_append, List.drop_drop, List.length_take]
        congr 2
        omega
      rw [this]
      exact hF (i + 1) (by omega)
/-- slices.Delete of one element. -/
theorem f140 (n a : Nat) (F : Nat → List D) (b : Bool) (ha : a < n) : AF Tryz.prog 140 [.sl (.par 0) n, .d (eI a), .d (eI ((a + 1 : Nat) : Int))] [.arr b 26 3 n F none]
    (fun o p => o = .ret (.sl (.par 1) (n - 1)) ∧ p = [.gone b (some n), .arr false 26 3 (n - 1) (fun q => if q < a then F q else F (q + 1)) none]) := by
  refine AF.arr1 (rest := [eI a, eI ((a + 1 : Nat) : Int)]) (F' := fun q => if q < a then F q else F (q + 1)) (by unfold Enters; kernel_rfl) ⟨rfl, rfl⟩ ?_
  rintro gh w u cs vs hp hG hown h1 hF hvs
  obtain ⟨v1, _, rfl, ⟨rfl, _⟩, v2, _, rfl, ⟨rfl, _⟩, rfl⟩ := hvs
  rcases hown with ⟨hlen, ⟨_, h0⟩ | ⟨g, cap, cur, rfl, _, hb, hn, hm, hs, ht⟩⟩
  · omega
  have hsub : a + (n - (a + 1)) = n - 1 := by omega
  refine (del140 w g cap n a cur hb (by rw [ht]; exact h1) hn hs ha).mono ?_
  rintro e0 w' ⟨rfl, q, rfl⟩
  rw [hsub, ht]
  have hcl : cs.length = n * 3 := hlen
  have hnk : n * 3 ≤ cap * 3 := Nat.mul_le_mul_right 3 hn
  have hb0 : (Sort.ahead w q).heap[g]? = some (.cells cur 26 (0, 0)) := hb
  have hone : ∀ v ∈ cs.drop ((a + 1) * 3), v.oneCell' = true := fun v hv => h1 v (List.mem_of_mem_drop hv)
  have r1 := setCells_row (P := Tryz.prog) hb0 (o := a * 3) (vs := cs.drop ((a + 1) * 3)) (by rw [List.length_drop]; omega) hone
  have hb1 := setRow_heap (Sort.ahead w q) g cur (cur.toList.take (a * 3) ++ cs.drop ((a + 1) * 3) ++ cur.toList.drop (a * 3 + (cs.drop ((a + 1) * 3)).length)).toArray 26 (0, 0) hb0
  have hl1 : (cur.toList.take (a * 3) ++ cs.drop ((a + 1) * 3) ++ cur.toList.drop (a * 3 + (cs.drop ((a + 1) * 3)).length)).length = cap * 3 := by
    rw [spl_len _ _ _ (by simp; omega)]
    simpa using hs
  have r2 := setCells_row (P := Tryz.prog) hb1 (o := (n - 1) * 3) (vs := (Value.agg #[z0, z0, zs]).cells.toList) (by rw [List.size_toArray, hl1]; show (n - 1) * 3 + 3 ≤ _; omega) (by decide)
  rw [r1, r2]
  have hb2 := setRow_heap _ g _ ((cur.toList.take (a * 3) ++ cs.drop ((a + 1) * 3) ++ cur.toList.drop (a * 3 + (cs.drop ((a + 1) * 3)).length)).toArray.toList.take ((n - 1) * 3) ++ (Value.agg #[z0, z0, zs]).cells.toList ++
    (cur.toList.take (a * 3) ++ cs.drop ((a + 1) * 3) ++ cur.toList.drop (a * 3 + (cs.drop ((a + 1) * 3)).length)).toArray.toList.drop ((n - 1) * 3 + (Value.agg #[z0, z0, zs]).cells.toList.length)).toArray 26 (0, 0) hb1
  have hcut : cs.take (a * 3) ++ cs.drop ((a + 1) * 3) = ((cur.toList.take (a * 3) ++ cs.drop ((a + 1) * 3) ++ cur.toList.drop (a * 3 + (cs.drop ((a + 1) * 3)).length)).toArray.toList.take ((n - 1) * 3) ++ (Value.agg #[z0, z0, zs]).cells.toList ++
    (cur.toList.take (a * 3) ++ cs.drop ((a + 1) * 3) ++ cur.toList.drop (a * 3 + (cs.drop ((a + 1) * 3)).length)).toArray.toList.drop ((n - 1) * 3 + (Value.agg #[z0, z0, zs]).cells.toList.length)).take ((n - 1) * 3) := by
    have e1 : cur.toList.take (a * 3) = cs.take (a * 3) := by
      rw [← ht, List.take_take, Nat.min_eq_left (by omega)]
    rw [cut_a _ _ _ _ (by rw [List.toList_toArray, hl1]; omega), List.toList_toArray, cut_b _ _ _ _ (by rw [List.length_take, List.length_drop, Array.length_toList]; omega), e1]
  refine ⟨_, cs.take (a * 3) ++ cs.drop ((a + 1) * 3), rfl, ⟨by simp; omega, .inr ⟨g, cap, _, rfl, Nat.zero_le _, hb2, by omega, hm, ?_, hcut.symm⟩⟩, ?_, fun b hb => .inl hb, ?_, fun i hi => ?_⟩
  · rw [List.size_toArray, spl_len _ _ _ (by rw [List.toList_toArray, hl1]; show (n - 1) * 3 + 3 ≤ _; omega), List.toList_toArray, hl1]
  · refine ⟨rfl, rfl, rfl, by simp, fun k hk hne => ?_⟩
    have hgk : k ≠ g := fun e => hne (by rw [e]; rfl)
    rw [setRow_other _ _ _ _ hgk, setRow_other _ _ _ _ hgk]
    rfl
  · intro c hc
    rcases List.mem_append.1 hc with h | h
    · exact h1 c (List.mem_of_mem_take h)
    · exact h1 c (List.mem_of_mem_drop h)
  · by_cases hia : i < a
    · rw [if_pos hia, List.drop_append_of_le_length (by simp; omega), List.take_append_of_le_length (by simp; omega), List.drop_take, List.take_take, Nat.min_eq_left (by omega)]
      exact hF i (by omega)
    · rw [if_neg hia]
      have : ((cs.take (a * 3) ++ cs.drop ((a + 1) * 3)).drop (i * 3)).take 3 = (cs.drop ((i + 1) * 3)).take 3 := by
        rw [List.drop_append, List.drop_eq_nil_of_le (by simp; omega), List.nil_append, List.drop_drop, List.length_take]
        congr 2
        omega
      rw [this]
      exact hF (i + 1) (by omega)
end Go.Pv
