/- Part of the proofs over this seat: V39 V40 V41. -/
import Derived.Test.YteohopnpcanfpaaGreatDoorZLa
set_option maxRecDepth 100000
namespace Go.Pv
open Go.RowKit Go.Proofs

def startE (S : List Tb) (c : Ch) (tabs : List (List Rw)) : Int := if validF S = false then 1 else if fitT S tabs = false then 1 else (applyX S c).2
def startM (S : List Tb) (c : Ch) (tabs : List (List Rw)) : Mg := ⟨S, c, (applyX S c).1, (findF S c.table).toNat, tabs, [], false⟩
theorem startE_zero {S : List Tb} {c : Ch} {tabs : List (List Rw)} (h : startE S c tabs = 0) : validF S = true ∧ fitT S tabs = true ∧ (applyX S c).2 = 0 ∧ errX S c = 0 := by
  unfold startE at h
  split at h
  · exact absurd h (by decide)
  · rename_i h1
    split at h
    · exact absurd h (by decide)
    · rename_i h2
      refine ⟨by simpa using h1, by simpa using h2, h, ?_⟩
      unfold applyX at h
      split at h
      · assumption
      · exact h
set_option maxHeartbeats 4000000 in
/-- migrate.Start, refused. -/
theorem f36e (S : List Tb) (c : Ch) (tabs : List (List Rw)) (hS : OkS S) (hc : OkC c) (hB : OkB S) (hl : tabs.length ≤ 1000) (hr : ∀ r, r ∈ tabs → r.length ≤ 100000) (hx : ∀ r, r ∈ tabs → ∀ x, x ∈ r → x.length ≤ 1000000) (he : startE S c tabs ≠ 0) :
    AF Tryz.prog 36 [.d (.agg [eTs S]), .d (eC c), .d (eTt tabs)] [] (fun o p => o = .ret (.tup [.d (.lit (.pointer none)), .d (eI (startE S c tabs))]) ∧ p = []) := by
  refine AF.intro hT Tryz.func36 rfl (by kernel_rfl) (Nat.le_of_ble_eq_true rfl) ?_
  repeat (first | refine wA0 rfl rfl rfl rfl ?_ | refine AL.nil ?_ | refine AW.seq ?_ | refine AW.region ?_ | refine bA rfl rfl rfl rfl rfl rfl ?_)
  refine AL.call0 rfl rfl rfl (f23 S hS) rfl rfl rfl ?_
  repeat (first | refine wA0 rfl rfl rfl rfl ?_ | refine wA1 rfl rfl rfl rfl rfl ?_)
  refine kA1 rfl rfl rfl rfl (fun hγ => f77 S tabs hl hr hx) rfl rfl rfl ?_
  repeat (first | refine wA0 rfl rfl rfl rfl ?_ | refine wA1 rfl rfl rfl rfl rfl ?_ | refine AL.nil ?_)
  refine AW.cond rfl (fun h1 => ?_) (fun h1 => ?_)
  · repeat' (first | refine wA0 rfl rfl rfl rfl ?_ | refine AL.nil ?_ | refine AW.seq ?_ | refine AW.region ?_ | (refine AW.ret ?_; refine ⟨[], _, _, rfl, rfl, ⟨?_, rfl⟩, rfl⟩))
    have : startE S c tabs = 1 := by
      unfold startE
      cases hv : validF S with
      | false => rfl
      | true =>
        rw [if_neg (by decide)]
        cases hf : fitT S tabs with
        | false => rfl
        | true => rw [hv, hf] at h1; cases h1
    rw [this]
    rfl
  · have h2 : startE S c tabs = (applyX S c).2 := by
      unfold startE
      cases hv : validF S with
      | false => rw [hv] at h1; cases h1
      | true =>
        rw [if_neg (by decide)]
        cases hf : fitT S tabs with
        | false => rw [hv, hf] at h1; cases h1
        | true => rfl
    rw [h2] at he ⊢
    repeat (first | refine wA0 rfl rfl rfl rfl ?_ | refine AW.seq ?_ | refine AW.region ?_ | refine AW.skip ?_)
    refine AL.call0 rfl rfl rfl (f17X S c hS hc hB) rfl rfl rfl ?_
    repeat (first | refine wA0 rfl rfl rfl rfl ?_ | refine AL.nil ?_ | refine AW.seq ?_ | refine AW.region ?_ | refine sA rfl rfl rfl rfl rfl rfl rfl rfl rfl ?_ | refine bA rfl rfl rfl rfl rfl rfl ?_)
    refine AW.condT rfl (by simpa using he) ?_
    repeat' (first | refine wA0 rfl rfl rfl rfl ?_ | refine AL.nil ?_ | refine AW.seq ?_ | refine AW.region ?_ | (refine AW.ret ?_; refine ⟨[], _, _, rfl, rfl, ⟨?_, rfl⟩, rfl⟩))
    rfl
set_option maxHeartbeats 4000000 in
theorem f36 (S : List Tb) (c : Ch) (tabs : List (List Rw)) (hS : OkS S) (hc : OkC c) (hB : OkB S) (hl : tabs.length ≤ 1000) (hr : ∀ r, r ∈ tabs → r.length ≤ 100000) (hx : ∀ r, r ∈ tabs → ∀ x, x ∈ r → x.length ≤ 1000000) (he : startE S c tabs = 0) :
    AF Tryz.prog 36 [.d (.agg [eTs S]), .d (eC c), .d (eTt tabs)] [] (fun o p => o = .ret (.tup [.ptr (.par 0) 0, .d (eI 0)]) ∧ p = mgP (startM S c tabs)) := by
  obtain ⟨g1, g2, g3, g4⟩ := startE_zero he
  refine AF.intro hT Tryz.func36 rfl (by kernel_rfl) (Nat.le_of_ble_eq_true rfl) ?_
  repeat (first | refine wA0 rfl rfl rfl rfl ?_ | refine AL.nil ?_ | refine AW.seq ?_ | refine AW.region ?_ | refine bA rfl rfl rfl rfl rfl rfl ?_)
  refine AL.call0 rfl rfl rfl (f23 S hS) rfl rfl rfl ?_
  repeat (first | refine wA0 rfl rfl rfl rfl ?_ | refine wA1 rfl rfl rfl rfl rfl ?_)
  refine kA1 rfl rfl rfl rfl (fun hγ => f77 S tabs hl hr hx) rfl rfl rfl ?_
  repeat (first | refine wA0 rfl rfl rfl rfl ?_ | refine wA1 rfl rfl rfl rfl rfl ?_ | refine AL.nil ?_)
  refine AW.condF rfl (by rw [g1, g2]; rfl) ?_
  repeat (first | refine wA0 rfl rfl rfl rfl ?_ | refine AW.seq ?_ | refine AW.region ?_ | refine AW.skip ?_)
  refine AL.call0 rfl rfl rfl (f17X S c hS hc hB) rfl rfl rfl ?_
  repeat (first | refine wA0 rfl rfl rfl rfl ?_ | refine AL.nil ?_ | refine AW.seq ?_ | refine AW.region ?_ | refine sA rfl rfl rfl rfl rfl rfl rfl rfl rfl ?_ | refine bA rfl rfl rfl rfl rfl rfl ?_)
  refine AW.condF rfl (by rw [g3]; rfl) ?_
  repeat (first | refine AW.seq ?_ | refine AW.skip ?_ | refine dW ?_ | refine wG0 rfl rfl rfl rfl ?_)
  refine DG.call0 rfl rfl rfl (f25 S c.table hS.len) rfl rfl rfl ?_
  repeat (refine wG0 rfl rfl rfl rfl ?_)
  refine DG.effN _ (VE.call [] [.loc 36] rfl rfl rfl rfl rfl (f78 tabs hl hr) (fun _ _ h => h) rfl) rfl rfl rfl rfl ?_
  repeat (first | refine wA0 rfl rfl rfl rfl ?_ | refine AL.nil ?_ | refine AW.seq ?_ | refine AW.region ?_ | refine wG0 rfl rfl rfl rfl ?_ | refine sA rfl rfl rfl rfl rfl rfl rfl rfl rfl ?_ | refine sG rfl rfl rfl rfl rfl rfl rfl rfl rfl ?_ | refine bG rfl rfl rfl rfl rfl rfl rfl ?_ | refine nG ?_)
  refine AW.weak (Weak.seedBox (.loc 38) 4 100 29 1 (FR []) rfl rfl rfl rfl) ?_
  refine AW.weak (Weak.fixN 100 true rfl rfl) ?_
  refine AW.ret ?_
  refine ⟨[.loc 38,.loc 36,.loc 100,.loc 3,.loc 4,.loc 10], _, _, rfl, rfl, ⟨rfl, ?_⟩, rfl⟩
  obtain ⟨_, _, ⟨ti, hti, _, _⟩, _⟩ := errX_zero g4
  have hf : ((findF S c.table).toNat : Int) = findF S c.table := by omega
  simp only [mgP, mgC, startM, hf]
  rfl
end Go.Pv
namespace Go.Pv
open Go.RowKit Go.Proofs

/-! ### The law's helpers -/
structure Opn where
  kind : Int
  n : Int
  row : Rw
instance : Inhabited Opn := ⟨⟨0, 0, []⟩⟩
def eO (o : Opn) : D := .agg [.lit (.int .u8 o.kind), eI o.n, eVs o.row]
def eOs (l : List Opn) : D := .sl 3 l.length (fun i => eO (l.getD i default))
def longV (v : Vl) : Bool := decide ((v.text.size : Int) > 300)
def shortR (r : Rw) : Bool := bif r.any longV then false else decide ((r.length : Int) ≤ 20)
theorem f76 (r : Rw) (hl : r.length ≤ maxLen) : AF Tryz.prog 76 [.d (eVs r)] [] (fun o p => o = .ret (.d (.lit (.bool (shortR r)))) ∧ p = []) := by
  refine AF.intro hT Tryz.func76 rfl (by kernel_rfl) (Nat.le_of_ble_eq_true rfl) ?_
  repeat (first | refine wA0 rfl rfl rfl rfl ?_ | refine AL.nil ?_ | refine AW.seq ?_ | refine AW.region ?_ | refine AW.block ?_)
  refine AW.weak (Weak.keep [0,3] [] rfl rfl) ?_
  refine AW.loop (I := fun n st => ∃ i : Nat, i + n = r.length ∧ (∀ k, k < i → longV (r.getD k default) = false) ∧ st = ⟨20, [(0, .d (eVs r)), (3, .d (eI i))], []⟩) r.length ⟨0, by omega, fun k hk => by omega, rfl⟩ ?_
  rintro n st ⟨i, hi, hk, rfl⟩
  repeat (first | refine wA0 rfl rfl rfl rfl ?_ | refine AL.nil ?_ | refine AW.seq ?_ | refine AW.region ?_)
  refine AW.cond rfl (fun hlt => ?_) (fun hlt => ?_)
  · have hlt' : i < r.length := by simpa using hlt
    repeat (first | refine wA0 rfl rfl rfl rfl ?_ | refine AL.nil ?_ | refine AW.seq ?_ | refine AW.region ?_ | refine AW.skip ?_ | refine AW.block ?_)
    refine AW.cond rfl (fun hc => ?_) (fun hc => ?_)
    · repeat' (first | refine wA0 rfl rfl rfl rfl ?_ | refine AL.nil ?_ | refine AW.seq ?_ | refine AW.region ?_ | (refine AW.ret ?_; refine ⟨[], _, _, rfl, rfl, ⟨?_, rfl⟩, rfl⟩))
      refine congrArg (fun b => AOut.ret (.d (.lit (.bool b)))) ?_
      have hc' : longV (r.getD i default) = true := hc
      have : r.any longV = true := List.any_eq_true.2 ⟨_, mem_getD hlt', hc'⟩
      simp only [shortR, this, cond_true]
    · repeat (first | refine wA0 rfl rfl rfl rfl ?_ | refine AL.nil ?_ | refine AW.region ?_ | refine AW.skip ?_)
      refine ⟨n - 1, _, by omega, Weak.keep [0,3] [] rfl rfl, i + 1, by omega, le_step hk hc, ?_⟩
      rw [i64s (by omega)]
      rfl
  · obtain rfl : i = r.length := by
      have : ¬ ((i : Int) < (r.length : Int)) := by simpa using hlt
      omega
    repeat' (first | refine wA0 rfl rfl rfl rfl ?_ | refine AL.nil ?_ | refine AW.seq ?_ | refine AW.region ?_ | refine AW.exit ?_ | (refine AW.ret ?_; refine ⟨[], _, _, rfl, rfl, ⟨?_, rfl⟩, rfl⟩))
    refine congrArg (fun b => AOut.ret (.d (.lit (.bool b)))) ?_
    simp only [shortR, any_false hk, cond_false]
def badR (r : Rw) : Bool := !shortR r
def fewBad (l : List Rw) : Bool := bif decide ((l.length : Int) > 20) then true else l.any badR
def fewT (l : List (List Rw)) : Bool := bif decide ((l.length : Int) > 6) then false else !l.any fewBad
theorem f75 (l : List (List Rw)) (hl : l.length ≤ maxLen) (hr : ∀ r, r ∈ l → ∀ x, x ∈ r → x.length ≤ maxLen) : AF Tryz.prog 75 [.d (eTt l)] [] (fun o p => o = .ret (.d (.lit (.bool (fewT l)))) ∧ p = []) := by
  refine AF.intro hT Tryz.func75 rfl (by kernel_rfl) (Nat.le_of_ble_eq_true rfl) ?_
  repeat (first | refine wA0 rfl rfl rfl rfl ?_ | refine AL.nil ?_ | refine AW.seq ?_ | refine AW.region ?_)
  refine AW.cond rfl (fun h0 => ?_) (fun h0 => ?_)
  · repeat' (first | refine wA0 rfl rfl rfl rfl ?_ | refine AL.nil ?_ | refine AW.seq ?_ | refine AW.region ?_ | (refine AW.ret ?_; refine ⟨[], _, _, rfl, rfl, ⟨?_, rfl⟩, rfl⟩))
    refine congrArg (fun b => AOut.ret (.d (.lit (.bool b)))) ?_
    have h0' : decide ((l.length : Int) > 6) = true := h0
    simp only [fewT, h0', cond_true]
  · have h0' : decide ((l.length : Int) > 6) = false := h0
    repeat (first | refine wA0 rfl rfl rfl rfl ?_ | refine AL.nil ?_ | refine AW.seq ?_ | refine AW.region ?_ | refine AW.skip ?_ | refine AW.block ?_)
    refine AW.weak (Weak.keep [0,3] [] rfl rfl) ?_
    refine AW.loop (I := fun n st => ∃ i : Nat, i + n = l.length ∧ (∀ k, k < i → fewBad (l.getD k default) = false) ∧ st = ⟨38, [(0, .d (eTt l)), (3, .d (eI i))], []⟩) l.length ⟨0, by omega, fun k hk => by omega, rfl⟩ ?_
    rintro n st ⟨i, hi, hk, rfl⟩
    repeat (first | refine wA0 rfl rfl rfl rfl ?_ | refine AL.nil ?_ | refine AW.seq ?_ | refine AW.region ?_)
    refine AW.cond rfl (fun hlt => ?_) (fun hlt => ?_)
    · have hlt' : i < l.length := by simpa using hlt
      have hm := mem_getD (α := List Rw) hlt'
      repeat (first | refine wA0 rfl rfl rfl rfl ?_ | refine AL.nil ?_ | refine AW.seq ?_ | refine AW.region ?_ | refine AW.skip ?_ | refine AW.block ?_)
      refine AW.cond rfl (fun h1 => ?_) (fun h1 => ?_)
      · repeat' (first | refine wA0 rfl rfl rfl rfl ?_ | refine AL.nil ?_ | refine AW.seq ?_ | refine AW.region ?_ | (refine AW.ret ?_; refine ⟨[], _, _, rfl, rfl, ⟨?_, rfl⟩, rfl⟩))
        refine congrArg (fun b => AOut.ret (.d (.lit (.bool b)))) ?_
        have h1' : decide (((l.getD i default).length : Int) > 20) = true := h1
        have : l.any fewBad = true := List.any_eq_true.2 ⟨_, hm, by simp only [fewBad, h1', cond_true]⟩
        simp only [fewT, h0', this, cond_false, Bool.not_true]
      · have h1' : decide (((l.getD i default).length : Int) > 20) = false := h1
        have h20 : (l.getD i []).length ≤ 20 := by
          have h2 : ¬ (((l.getD i []).length : Int) > 20) := of_decide_eq_false h1'
          omega
        have big : 20 < maxLen := by decide
        repeat (first | refine wA0 rfl rfl rfl rfl ?_ | refine AL.nil ?_ | refine AW.seq ?_ | refine AW.region ?_ | refine AW.skip ?_ | refine AW.block ?_)
        refine AW.weak (Weak.keep [0,3,4] [] rfl rfl) ?_
        refine AW.loop (I := fun n st => ∃ j : Nat, j + n = (l.getD i []).length ∧ (∀ k, k < j → badR ((l.getD i []).getD k default) = false) ∧ st = ⟨38, [(0, .d (eTt l)), (3, .d (eI i)), (4, .d (eI j))], []⟩) (l.getD i []).length ⟨0, by omega, fun k hk => by omega, rfl⟩ ?_
        rintro m st ⟨j, hj, hkj, rfl⟩
        repeat (first | refine wA0 rfl rfl rfl rfl ?_ | refine AL.nil ?_ | refine AW.seq ?_ | refine AW.region ?_)
        refine AW.cond rfl (fun hlt2 => ?_) (fun hlt2 => ?_)
        · have hlt2' : j < (l.getD i []).length := by simpa using hlt2
          have hm2 := mem_getD (α := Rw) hlt2'
          repeat (first | refine wA0 rfl rfl rfl rfl ?_ | refine AW.seq ?_ | refine AW.region ?_ | refine AW.skip ?_ | refine AW.block ?_)
          refine AL.call0 rfl rfl rfl (f76 ((l.getD i [] ).getD j [] ) (hr _ hm _ hm2)) rfl rfl rfl ?_
          repeat (first | refine wA0 rfl rfl rfl rfl ?_ | refine AL.nil ?_)
          refine AW.cond rfl (fun h2 => ?_) (fun h2 => ?_)
          · repeat' (first | refine wA0 rfl rfl rfl rfl ?_ | refine AL.nil ?_ | refine AW.seq ?_ | refine AW.region ?_ | (refine AW.ret ?_; refine ⟨[], _, _, rfl, rfl, ⟨?_, rfl⟩, rfl⟩))
            refine congrArg (fun b => AOut.ret (.d (.lit (.bool b)))) ?_
            have h2' : badR ((l.getD i []).getD j default) = true := h2
            have : l.any fewBad = true := List.any_eq_true.2 ⟨_, hm, by
              have : (l.getD i default).any badR = true := List.any_eq_true.2 ⟨_, hm2, h2'⟩
              simp only [fewBad, h1', this, cond_false]⟩
            simp only [fewT, h0', this, cond_false, Bool.not_true]
          · repeat (first | refine wA0 rfl rfl rfl rfl ?_ | refine AL.nil ?_ | refine AW.region ?_ | refine AW.skip ?_)
            refine ⟨m - 1, _, by omega, Weak.keep [0,3,4] [] rfl rfl, j + 1, by omega, le_step hkj h2, ?_⟩
            rw [i64s (by omega)]
            rfl
        · obtain rfl : j = (l.getD i []).length := by
            have : ¬ ((j : Int) < ((l.getD i []).length : Int)) := by simpa using hlt2
            omega
          refine AW.exit ?_
          repeat (first | refine wA0 rfl rfl rfl rfl ?_ | refine AL.nil ?_ | refine AW.region ?_)
          refine ⟨n - 1, _, by omega, Weak.keep [0,3] [] rfl rfl, i + 1, by omega, le_step hk ?_, ?_⟩
          · have : (l.getD i default).any badR = false := any_false hkj
            simp only [fewBad, h1', this, cond_false]
          · rw [i64s (by omega)]
            rfl
    · obtain rfl : i = l.length := by
        have : ¬ ((i : Int) < (l.length : Int)) := by simpa using hlt
        omega
      repeat' (first | refine wA0 rfl rfl rfl rfl ?_ | refine AL.nil ?_ | refine AW.seq ?_ | refine AW.region ?_ | refine AW.exit ?_ | (refine AW.ret ?_; refine ⟨[], _, _, rfl, rfl, ⟨?_, rfl⟩, rfl⟩))
      refine congrArg (fun b => AOut.ret (.d (.lit (.bool b)))) ?_
      simp only [fewT, h0', any_false hk, cond_false, Bool.not_false]
def badO (o : Opn) : Bool := !shortR o.row
def smallM (s : List Tb) (l : List (List Rw)) (ops : List Opn) : Bool := bif bif bif !smallS s then true else !fewT l then true else decide ((ops.length : Int) > 20) then false else !ops.any badO
theorem f35 (s : List Tb) (l : List (List Rw)) (ops : List Opn) (hl : l.length ≤ maxLen) (hr : ∀ r, r ∈ l → ∀ x, x ∈ r → x.length ≤ maxLen) (ho : ∀ o, o ∈ ops → o.row.length ≤ maxLen) :
    AF Tryz.prog 35 [.d (.agg [eTs s]), .d (eTt l), .d (eOs ops)] [] (fun o p => o = .ret (.d (.lit (.bool (smallM s l ops)))) ∧ p = []) := by
  refine AF.intro hT Tryz.func35 rfl (by kernel_rfl) (Nat.le_of_ble_eq_true rfl) ?_
  repeat (first | refine wA0 rfl rfl rfl rfl ?_ | refine AL.nil ?_ | refine AW.seq ?_ | refine AW.region ?_ | refine bA rfl rfl rfl rfl rfl rfl ?_)
  refine AL.call0 rfl rfl rfl (f50 s) rfl rfl rfl ?_
  repeat (first | refine wA0 rfl rfl rfl rfl ?_ | refine wA1 rfl rfl rfl rfl rfl ?_)
  refine kA1 rfl rfl rfl rfl (fun hγ => f75 l hl hr) rfl rfl rfl ?_
  repeat (first | refine wA0 rfl rfl rfl rfl ?_ | refine wA1 rfl rfl rfl rfl rfl ?_ | refine AL.nil ?_)
  refine AW.cond rfl (fun h0 => ?_) (fun h0 => ?_)
  · repeat' (first | refine wA0 rfl rfl rfl rfl ?_ | refine AL.nil ?_ | refine AW.seq ?_ | refine AW.region ?_ | (refine AW.ret ?_; refine ⟨[], _, _, rfl, rfl, ⟨?_, rfl⟩, rfl⟩))
    refine congrArg (fun b => AOut.ret (.d (.lit (.bool b)))) ?_
    have h0' : (bif bif !smallS s then true else !fewT l then true else decide ((ops.length : Int) > 20)) = true := h0
    simp only [smallM, h0', cond_true]
  · have h0' : (bif bif !smallS s then true else !fewT l then true else decide ((ops.length : Int) > 20)) = false := h0
    have h20 : ops.length ≤ 20 := by
      rcases Nat.lt_or_ge 20 ops.length with h | h
      · exfalso
        have h3 : decide ((ops.length : Int) > 20) = true := decide_eq_true (by omega)
        rw [h3] at h0'
        cases hs : smallS s <;> cases hf : fewT l <;> rw [hs, hf] at h0' <;> cases h0'
      · exact h
    have big : 20 < maxLen := by decide
    repeat (first | refine wA0 rfl rfl rfl rfl ?_ | refine AL.nil ?_ | refine AW.seq ?_ | refine AW.region ?_ | refine AW.skip ?_ | refine AW.block ?_)
    refine AW.weak (Weak.keep [2,7] [] rfl rfl) ?_
    refine AW.loop (I := fun n st => ∃ i : Nat, i + n = ops.length ∧ (∀ k, k < i → badO (ops.getD k default) = false) ∧ st = ⟨34, [(2, .d (eOs ops)), (7, .d (eI i))], []⟩) ops.length ⟨0, by omega, fun k hk => by omega, rfl⟩ ?_
    rintro n st ⟨i, hi, hk, rfl⟩
    repeat (first | refine wA0 rfl rfl rfl rfl ?_ | refine AL.nil ?_ | refine AW.seq ?_ | refine AW.region ?_)
    refine AW.cond rfl (fun hlt => ?_) (fun hlt => ?_)
    · have hlt' : i < ops.length := by simpa using hlt
      have hm := mem_getD (α := Opn) hlt'
      repeat (first | refine wA0 rfl rfl rfl rfl ?_ | refine AW.seq ?_ | refine AW.region ?_ | refine AW.skip ?_ | refine AW.block ?_)
      refine AL.call0 rfl rfl rfl (f76 (ops.getD i default).row (ho _ hm)) rfl rfl rfl ?_
      repeat (first | refine wA0 rfl rfl rfl rfl ?_ | refine AL.nil ?_)
      refine AW.cond rfl (fun hc => ?_) (fun hc => ?_)
      · repeat' (first | refine wA0 rfl rfl rfl rfl ?_ | refine AL.nil ?_ | refine AW.seq ?_ | refine AW.region ?_ | (refine AW.ret ?_; refine ⟨[], _, _, rfl, rfl, ⟨?_, rfl⟩, rfl⟩))
        refine congrArg (fun b => AOut.ret (.d (.lit (.bool b)))) ?_
        have hc' : badO (ops.getD i default) = true := hc
        have : ops.any badO = true := List.any_eq_true.2 ⟨_, hm, hc'⟩
        simp only [smallM, h0', this, cond_false, Bool.not_true]
      · repeat (first | refine wA0 rfl rfl rfl rfl ?_ | refine AL.nil ?_ | refine AW.region ?_ | refine AW.skip ?_)
        refine ⟨n - 1, _, by omega, Weak.keep [2,7] [] rfl rfl, i + 1, by omega, le_step hk hc, ?_⟩
        rw [i64s (by omega)]
        rfl
    · obtain rfl : i = ops.length := by
        have : ¬ ((i : Int) < (ops.length : Int)) := by simpa using hlt
        omega
      repeat' (first | refine wA0 rfl rfl rfl rfl ?_ | refine AL.nil ?_ | refine AW.seq ?_ | refine AW.region ?_ | refine AW.exit ?_ | (refine AW.ret ?_; refine ⟨[], _, _, rfl, rfl, ⟨?_, rfl⟩, rfl⟩))
      refine congrArg (fun b => AOut.ret (.d (.lit (.bool b)))) ?_
      simp only [smallM, h0', any_false hk, cond_false, Bool.not_false]
end Go.Pv
namespace Go.Pv
open Go.RowKit Go.Proofs

def badW (x y : Rw) : Bool := !rowsF x y
def sameRs (a b : List Rw) : Bool := sameBy badW a b
def badRs (x y : List Rw) : Bool := !sameRs x y
def sameTt (a b : List (List Rw)) : Bool := sameBy badRs a b
theorem sameBy_ne {α : Type} [Inhabited α] {bad : α → α → Bool} {a b : List α} (h : ((a.length : Int) != (b.length : Int)) = true) : sameBy bad a b = false := by
  have : (!((a.length : Int) == (b.length : Int))) = true := h
  simp only [sameBy, this, cond_true]
theorem sameBy_hit {α : Type} [Inhabited α] {bad : α → α → Bool} {a b : List α} {i : Nat} (hi : i < a.length) (h : bad (a.getD i default) (b.getD i default) = true) : sameBy bad a b = false := by
  have : (List.range a.length).any (fun i => bad (a.getD i default) (b.getD i default)) = true := List.any_eq_true.2 ⟨i, List.mem_range.2 hi, h⟩
  simp only [sameBy, this, Bool.not_true]
  cases (!((a.length : Int) == (b.length : Int))) <;> rfl
theorem sameBy_all {α : Type} [Inhabited α] {bad : α → α → Bool} {a b : List α} (he : a.length = b.length) (h : ∀ k, k < a.length → bad (a.getD k default) (b.getD k default) = false) : sameBy bad a b = true := by
  have h1 : (!((a.length : Int) == (b.length : Int))) = false := by simp [he]
  have : (List.range a.length).any (fun i => bad (a.getD i default) (b.getD i default)) = false := by
    rw [List.any_eq_false]
    intro x hx
    simpa using h x (List.mem_range.1 hx)
  simp only [sameBy, h1, this, cond_false, Bool.not_false]
theorem lenEq {a b : Nat} (h : ((a : Int) != (b : Int)) = false) : a = b := by
  have h2 : (a : Int) = (b : Int) := by simpa using h
  omega
theorem f44 (a b : List (List Rw)) (hl : a.length ≤ maxLen) (hr : ∀ r, r ∈ a → r.length ≤ maxLen) (hx : ∀ r, r ∈ a → ∀ x, x ∈ r → x.length ≤ maxLen) :
    AF Tryz.prog 44 [.d (eTt a), .d (eTt b)] [] (fun o p => o = .ret (.d (.lit (.bool (sameTt a b)))) ∧ p = []) := by
  refine AF.intro hT Tryz.func44 rfl (by kernel_rfl) (Nat.le_of_ble_eq_true rfl) ?_
  repeat (first | refine wA0 rfl rfl rfl rfl ?_ | refine AL.nil ?_ | refine AW.seq ?_ | refine AW.region ?_)
  refine AW.cond rfl (fun h0 => ?_) (fun h0 => ?_)
  · repeat' (first | refine wA0 rfl rfl rfl rfl ?_ | refine AL.nil ?_ | refine AW.seq ?_ | refine AW.region ?_ | (refine AW.ret ?_; refine ⟨[], _, _, rfl, rfl, ⟨?_, rfl⟩, rfl⟩))
    refine congrArg (fun b => AOut.ret (.d (.lit (.bool b)))) ?_
    exact (sameBy_ne h0).symm
  · have hlen := lenEq h0
    repeat (first | refine wA0 rfl rfl rfl rfl ?_ | refine AL.nil ?_ | refine AW.seq ?_ | refine AW.region ?_ | refine AW.skip ?_ | refine AW.block ?_)
    refine AW.weak (Weak.keep [0,1,5] [] rfl rfl) ?_
    refine AW.loop (I := fun n st => ∃ i : Nat, i + n = a.length ∧ (∀ k, k < i → badRs (a.getD k default) (b.getD k default) = false) ∧ st = ⟨54, [(0, .d (eTt a)), (1, .d (eTt b)), (5, .d (eI i))], []⟩) a.length ⟨0, by omega, fun k hk => by omega, rfl⟩ ?_
    rintro n st ⟨i, hi, hk, rfl⟩
    repeat (first | refine wA0 rfl rfl rfl rfl ?_ | refine AL.nil ?_ | refine AW.seq ?_ | refine AW.region ?_)
    refine AW.cond rfl (fun hlt => ?_) (fun hlt => ?_)
    · have hlt' : i < a.length := by simpa using hlt
      have hib : (0 : Int) ≤ (i : Int) ∧ (i : Int) < (b.length : Int) := by omega
      have hia : (0 : Int) ≤ (i : Int) ∧ (i : Int) < (a.length : Int) := by omega
      have hm := mem_getD (α := List Rw) hlt'
      repeat (first | refine AW.seq ?_ | refine AW.skip ?_ | refine AW.block ?_ | refine dW ?_ | refine wG0 rfl rfl rfl rfl ?_ | refine nG ?_)
      refine AW.cond rfl (fun h1 => ?_) (fun h1 => ?_)
      · repeat' (first | refine wA0 rfl rfl rfl rfl ?_ | refine AL.nil ?_ | refine AW.seq ?_ | refine AW.region ?_ | (refine AW.ret ?_; refine ⟨[], _, _, rfl, rfl, ⟨?_, rfl⟩, rfl⟩))
        refine congrArg (fun b => AOut.ret (.d (.lit (.bool b)))) ?_
        have h1' : badRs (a.getD i default) (b.getD i default) = true := by
          have : sameRs (a.getD i default) (b.getD i default) = false := sameBy_ne h1
          rw [badRs, this]
          rfl
        exact (sameBy_hit hlt' h1').symm
      · have hlen2 : (a.getD i []).length = (b.getD i []).length := lenEq h1
        repeat (first | refine wA0 rfl rfl rfl rfl ?_ | refine AL.nil ?_ | refine AW.seq ?_ | refine AW.region ?_ | refine AW.skip ?_ | refine AW.block ?_)
        refine AW.weak (Weak.keep [0,1,5,6] [] rfl rfl) ?_
        refine AW.loop (I := fun n st => ∃ j : Nat, j + n = (a.getD i []).length ∧ (∀ k, k < j → badW ((a.getD i []).getD k default) ((b.getD i []).getD k default) = false) ∧ st = ⟨54, [(0, .d (eTt a)), (1, .d (eTt b)), (5, .d (eI i)), (6, .d (eI j))], []⟩) (a.getD i []).length ⟨0, by omega, fun k hk => by omega, rfl⟩ ?_
        rintro m st ⟨j, hj, hkj, rfl⟩
        repeat (first | refine wA0 rfl rfl rfl rfl ?_ | refine AL.nil ?_ | refine AW.seq ?_ | refine AW.region ?_)
        refine AW.cond rfl (fun hlt2 => ?_) (fun hlt2 => ?_)
        · have hlt2' : j < (a.getD i []).length := by simpa using hlt2
          have hja : (0 : Int) ≤ (j : Int) ∧ (j : Int) < ((a.getD i []).length : Int) := by omega
          have hjb : (0 : Int) ≤ (j : Int) ∧ (j : Int) < ((b.getD i []).length : Int) := by omega
          have hm2 := mem_getD (α := Rw) hlt2'
          have h22 := f22 ((a.getD i []).getD j []) ((b.getD i []).getD j []) (hx _ hm _ hm2)
          repeat (first | refine AW.seq ?_ | refine AW.skip ?_ | refine AW.block ?_ | refine dW ?_ | refine wG0 rfl rfl rfl rfl ?_)
          refine DG.call0 rfl rfl rfl (h22) rfl rfl rfl ?_
          repeat (first | refine wG0 rfl rfl rfl rfl ?_ | refine nG ?_)
          refine AW.cond rfl (fun h2 => ?_) (fun h2 => ?_)
          · repeat' (first | refine wA0 rfl rfl rfl rfl ?_ | refine AL.nil ?_ | refine AW.seq ?_ | refine AW.region ?_ | (refine AW.ret ?_; refine ⟨[], _, _, rfl, rfl, ⟨?_, rfl⟩, rfl⟩))
            refine congrArg (fun b => AOut.ret (.d (.lit (.bool b)))) ?_
            have h2' : badW ((a.getD i []).getD j default) ((b.getD i []).getD j default) = true := h2
            have h1' : badRs (a.getD i default) (b.getD i default) = true := by
              have : sameRs (a.getD i default) (b.getD i default) = false := sameBy_hit hlt2' h2'
              rw [badRs, this]
              rfl
            exact (sameBy_hit hlt' h1').symm
          · repeat (first | refine wA0 rfl rfl rfl rfl ?_ | refine AL.nil ?_ | refine AW.region ?_ | refine AW.skip ?_)
            refine ⟨m - 1, _, by omega, Weak.keep [0,1,5,6] [] rfl rfl, j + 1, by omega, le_step hkj h2, ?_⟩
            rw [i64s (by have := hr _ hm; have : (a.getD i []).length ≤ maxLen := this; omega)]
            rfl
        · obtain rfl : j = (a.getD i []).length := by
            have : ¬ ((j : Int) < ((a.getD i []).length : Int)) := by simpa using hlt2
            omega
          refine AW.exit ?_
          repeat (first | refine wA0 rfl rfl rfl rfl ?_ | refine AL.nil ?_ | refine AW.region ?_)
          refine ⟨n - 1, _, by omega, Weak.keep [0,1,5] [] rfl rfl, i + 1, by omega, le_step hk ?_, ?_⟩
          · have : sameRs (a.getD i default) (b.getD i default) = true := sameBy_all hlen2 hkj
            rw [badRs, this]
            rfl
          · rw [i64s (by omega)]
            rfl
    · obtain rfl : i = a.length := by
        have : ¬ ((i : Int) < (a.length : Int)) := by simpa using hlt
        omega
      repeat' (first | refine wA0 rfl rfl rfl rfl ?_ | refine AL.nil ?_ | refine AW.seq ?_ | refine AW.region ?_ | refine AW.exit ?_ | (refine AW.ret ?_; refine ⟨[], _, _, rfl, rfl, ⟨?_, rfl⟩, rfl⟩))
      refine congrArg (fun b => AOut.ret (.d (.lit (.bool b)))) ?_
      exact (sameBy_all hlen hk).symm
end Go.Pv
