/- Part of the proofs over this seat: V30 V31. -/
import Derived.Test.YteohopnpcanfpaaGreatDoorZKw
set_option maxRecDepth 100000
namespace Go.Pv
open Go.RowKit Go.Proofs

theorem f16r (l : List Tb) (c : Ch) (row : List Vl) : AF Tryz.prog 16 [.d (.agg [eTs l]), .d (eC c), .d (eVs row)] [] (fun o p => o = .ret (.d (.lit (.bool (smallF l c row.length)))) ∧ p = []) := by
  refine AF.intro hT Tryz.func16 rfl (by kernel_rfl) (Nat.le_of_ble_eq_true rfl) ?_
  repeat (first | refine wA0 rfl rfl rfl rfl ?_ | refine AL.nil ?_ | refine AW.seq ?_ | refine AW.region ?_ | refine bA rfl rfl rfl rfl rfl rfl ?_)
  refine AL.call0 rfl rfl rfl (f50 l) rfl rfl rfl ?_
  repeat' (first | refine wA0 rfl rfl rfl rfl ?_ | refine wA1 rfl rfl rfl rfl rfl ?_ | refine AL.nil ?_ | (refine AW.ret ?_; refine ⟨[], _, _, rfl, rfl, ⟨?_, rfl⟩, rfl⟩))
  rfl
def rowsF (a b : List Vl) : Bool := sameBy badV a b
theorem f22 (a b : List Vl) (ha : a.length ≤ maxLen) : AF Tryz.prog 22 [.d (eVs a), .d (eVs b)] [] (fun o p => o = .ret (.d (.lit (.bool (rowsF a b)))) ∧ p = []) := by
  refine AF.intro hT Tryz.func22 rfl (by kernel_rfl) (Nat.le_of_ble_eq_true rfl) ?_
  repeat (first | refine wA0 rfl rfl rfl rfl ?_ | refine AL.nil ?_ | refine AW.seq ?_ | refine AW.region ?_)
  refine AW.cond rfl (fun h0 => ?_) (fun h0 => ?_)
  · repeat' (first | refine wA0 rfl rfl rfl rfl ?_ | refine AL.nil ?_ | refine AW.seq ?_ | refine AW.region ?_ | (refine AW.ret ?_; refine ⟨[], _, _, rfl, rfl, ⟨?_, rfl⟩, rfl⟩))
    refine congrArg (fun b => AOut.ret (.d (.lit (.bool b)))) ?_
    have h0' : (!((a.length : Int) == (b.length : Int))) = true := h0
    simp only [rowsF, sameBy, h0', cond_true]
  · have h0' : (!((a.length : Int) == (b.length : Int))) = false := h0
    have hlen : a.length = b.length := by
      have h1 := h0'
      simp only [Bool.not_eq_false', beq_iff_eq] at h1
      omega
    repeat (first | refine wA0 rfl rfl rfl rfl ?_ | refine AL.nil ?_ | refine AW.seq ?_ | refine AW.region ?_ | refine AW.skip ?_ | refine AW.block ?_)
    refine AW.weak (Weak.keep [0,1,5] [] rfl rfl) ?_
    refine AW.loop (I := fun n st => ∃ i : Nat, i + n = a.length ∧ (∀ k, k < i → badV (a.getD k default) (b.getD k default) = false) ∧ st = ⟨26, [(0, .d (eVs a)), (1, .d (eVs b)), (5, .d (eI i))], []⟩) a.length ⟨0, by omega, fun k hk => by omega, rfl⟩ ?_
    rintro n st ⟨i, hi, hk, rfl⟩
    repeat (first | refine wA0 rfl rfl rfl rfl ?_ | refine AL.nil ?_ | refine AW.seq ?_ | refine AW.region ?_)
    refine AW.cond rfl (fun hlt => ?_) (fun hlt => ?_)
    · have hlt' : i < a.length := by simpa using hlt
      have hlb : i < b.length := by omega
      have hib : (0 : Int) ≤ (i : Int) ∧ (i : Int) < (b.length : Int) := by omega
      have hia : (0 : Int) ≤ (i : Int) ∧ (i : Int) < (a.length : Int) := by omega
      repeat (first | refine AW.seq ?_ | refine AW.skip ?_ | refine AW.block ?_ | refine dW ?_ | refine wG0 rfl rfl rfl rfl ?_ | refine nG ?_)
      refine AW.cond rfl (fun hc => ?_) (fun hc => ?_)
      · repeat' (first | refine wA0 rfl rfl rfl rfl ?_ | refine AL.nil ?_ | refine AW.seq ?_ | refine AW.region ?_ | (refine AW.ret ?_; refine ⟨[], _, _, rfl, rfl, ⟨?_, rfl⟩, rfl⟩))
        refine congrArg (fun b => AOut.ret (.d (.lit (.bool b)))) ?_
        have hc' : badV (a.getD i default) (b.getD i default) = true := hc
        have : (List.range a.length).any (fun i => badV (a.getD i default) (b.getD i default)) = true := List.any_eq_true.2 ⟨i, List.mem_range.2 hlt', hc'⟩
        simp only [rowsF, sameBy, h0', this, cond_false, Bool.not_true]
      · repeat (first | refine wA0 rfl rfl rfl rfl ?_ | refine AL.nil ?_ | refine AW.region ?_ | refine AW.skip ?_)
        refine ⟨n - 1, _, by omega, Weak.keep [0,1,5] [] rfl rfl, i + 1, by omega, le_step hk hc, ?_⟩
        rw [i64s (by omega)]
        rfl
    · obtain rfl : i = a.length := by
        have : ¬ ((i : Int) < (a.length : Int)) := by simpa using hlt
        omega
      repeat' (first | refine wA0 rfl rfl rfl rfl ?_ | refine AL.nil ?_ | refine AW.seq ?_ | refine AW.region ?_ | refine AW.exit ?_ | (refine AW.ret ?_; refine ⟨[], _, _, rfl, rfl, ⟨?_, rfl⟩, rfl⟩))
      refine congrArg (fun b => AOut.ret (.d (.lit (.bool b)))) ?_
      have : (List.range a.length).any (fun i => badV (a.getD i default) (b.getD i default)) = false := by
        rw [List.any_eq_false]
        intro x hx
        simpa using hk x (List.mem_range.1 hx)
      simp only [rowsF, sameBy, h0', this, cond_false, Bool.not_false]
def badT (x y : Tb) : Bool := !(sameT x y)
def sameS (a b : List Tb) : Bool := sameBy badT a b
theorem f21 (a b : List Tb) (ha : a.length ≤ maxLen) (hx : ∀ t, t ∈ a → OkT t) : AF Tryz.prog 21 [.d (.agg [eTs a]), .d (.agg [eTs b])] [] (fun o p => o = .ret (.d (.lit (.bool (sameS a b)))) ∧ p = []) := by
  refine AF.intro hT Tryz.func21 rfl (by kernel_rfl) (Nat.le_of_ble_eq_true rfl) ?_
  repeat (first | refine wA0 rfl rfl rfl rfl ?_ | refine AL.nil ?_ | refine AW.seq ?_ | refine AW.region ?_ | refine bA rfl rfl rfl rfl rfl rfl ?_)
  refine AW.cond rfl (fun h0 => ?_) (fun h0 => ?_)
  · repeat' (first | refine wA0 rfl rfl rfl rfl ?_ | refine AL.nil ?_ | refine AW.seq ?_ | refine AW.region ?_ | (refine AW.ret ?_; refine ⟨[], _, _, rfl, rfl, ⟨?_, rfl⟩, rfl⟩))
    refine congrArg (fun b => AOut.ret (.d (.lit (.bool b)))) ?_
    have h0' : (!((a.length : Int) == (b.length : Int))) = true := h0
    simp only [sameS, sameBy, h0', cond_true]
  · have h0' : (!((a.length : Int) == (b.length : Int))) = false := h0
    have hlen : a.length = b.length := by
      have h1 := h0'
      simp only [Bool.not_eq_false', beq_iff_eq] at h1
      omega
    repeat (first | refine wA0 rfl rfl rfl rfl ?_ | refine AL.nil ?_ | refine AW.seq ?_ | refine AW.region ?_ | refine AW.skip ?_ | refine AW.block ?_)
    refine AW.weak (Weak.keep [2,3,5] [.loc 2,.loc 3] rfl rfl) ?_
    refine AW.loop (I := fun n st => ∃ i : Nat, i + n = a.length ∧ (∀ k, k < i → badT (a.getD k default) (b.getD k default) = false) ∧ st = ⟨32, [(2, .ptr (.loc 2) 0), (3, .ptr (.loc 3) 0), (5, .d (eI i))], [(.loc 2, .cells [.d (eTs a)]), (.loc 3, .cells [.d (eTs b)])]⟩) a.length ⟨0, by omega, fun k hk => by omega, rfl⟩ ?_
    rintro n st ⟨i, hi, hk, rfl⟩
    repeat (first | refine wA0 rfl rfl rfl rfl ?_ | refine AL.nil ?_ | refine AW.seq ?_ | refine AW.region ?_)
    refine AW.cond rfl (fun hlt => ?_) (fun hlt => ?_)
    · have hlt' : i < a.length := by simpa using hlt
      have hlb : i < b.length := by omega
      have hib : (0 : Int) ≤ (i : Int) ∧ (i : Int) < (b.length : Int) := by omega
      have hia : (0 : Int) ≤ (i : Int) ∧ (i : Int) < (a.length : Int) := by omega
      repeat (first | refine AW.seq ?_ | refine AW.skip ?_ | refine AW.block ?_ | refine dW ?_ | refine wG0 rfl rfl rfl rfl ?_)
      refine DG.call0 rfl rfl rfl (f31 (a.getD i default) (b.getD i default) (hx _ (mem_getD hlt'))) rfl rfl rfl ?_
      repeat (first | refine wG0 rfl rfl rfl rfl ?_ | refine nG ?_)
      refine AW.cond rfl (fun hc => ?_) (fun hc => ?_)
      · repeat' (first | refine wA0 rfl rfl rfl rfl ?_ | refine AL.nil ?_ | refine AW.seq ?_ | refine AW.region ?_ | (refine AW.ret ?_; refine ⟨[], _, _, rfl, rfl, ⟨?_, rfl⟩, rfl⟩))
        refine congrArg (fun b => AOut.ret (.d (.lit (.bool b)))) ?_
        have hc' : badT (a.getD i default) (b.getD i default) = true := hc
        have : (List.range a.length).any (fun i => badT (a.getD i default) (b.getD i default)) = true := List.any_eq_true.2 ⟨i, List.mem_range.2 hlt', hc'⟩
        simp only [sameS, sameBy, h0', this, cond_false, Bool.not_true]
      · repeat (first | refine wA0 rfl rfl rfl rfl ?_ | refine AL.nil ?_ | refine AW.region ?_ | refine AW.skip ?_)
        refine ⟨n - 1, _, by omega, Weak.keep [2,3,5] [.loc 2,.loc 3] rfl rfl, i + 1, by omega, le_step hk hc, ?_⟩
        rw [i64s (by omega)]
        rfl
    · obtain rfl : i = a.length := by
        have : ¬ ((i : Int) < (a.length : Int)) := by simpa using hlt
        omega
      repeat' (first | refine wA0 rfl rfl rfl rfl ?_ | refine AL.nil ?_ | refine AW.seq ?_ | refine AW.region ?_ | refine AW.exit ?_ | (refine AW.ret ?_; refine ⟨[], _, _, rfl, rfl, ⟨?_, rfl⟩, rfl⟩))
      refine congrArg (fun b => AOut.ret (.d (.lit (.bool b)))) ?_
      have : (List.range a.length).any (fun i => badT (a.getD i default) (b.getD i default)) = false := by
        rw [List.any_eq_false]
        intro x hx
        simpa using hk x (List.mem_range.1 hx)
      simp only [sameS, sameBy, h0', this, cond_false, Bool.not_false]
theorem sameS_refl (a : List Tb) : sameS a a = true := sameBy_refl (fun x => by simp [badT, sameT_refl]) a
theorem rowsF_refl (a : List Vl) : rowsF a a = true := sameBy_refl badV_refl a
/-- int(raw) % len. -/
theorem raw_mod {raw : Int} {k : Nat} (h0 : 0 ≤ raw) (h1 : raw ≤ 255) (hk : k ≠ 0) : ∃ n : Nat, (IntKind.i64.wrap raw).tmod (k : Int) = n ∧ n < k := by
  rw [IntWalk.i64_in _ (by omega)]
  refine ⟨raw.toNat % k, ?_, Nat.mod_lt _ (by omega)⟩
  obtain ⟨r, rfl⟩ : ∃ r : Nat, raw = r := ⟨raw.toNat, by omega⟩
  rw [Int.toNat_natCast]
  exact (Int.ofNat_tmod r k).symm
end Go.Pv
namespace Go.Pv
open Go.RowKit Go.Proofs

/-- What the law's loop asks of a value. -/
def MovedOK (c : Ch) (cast : Int) (row x : List Vl) (i : Nat) (to : Int) : Prop :=
  0 ≤ to → ∃ k : Nat, to = k ∧ k < x.length ∧ (x.getD k default = row.getD i default ∨ (c.kind = 4 ∧ cast = i))
theorem MovedOK.lt {c : Ch} {cast : Int} {row x : List Vl} {i : Nat} {to : Int} (h : MovedOK c cast row x i to) : decide (to ≥ 0) = true → 0 ≤ to ∧ to < (x.length : Int) := fun hd => by
  obtain ⟨k, e, hk, _⟩ := h (of_decide_eq_true hd)
  omega
theorem row_cond {c : Ch} {cast : Int} {row x : List Vl} {i : Nat} {to : Int} (h : MovedOK c cast row x i to) (_ : decide (to ≥ 0) = true → 0 ≤ to ∧ to < (x.length : Int)) :
    (bif bif decide (to ≥ 0) then badV (x.getD to.toNat default) (row.getD (i : Int).toNat default) else false then bif c.kind != 4 then true else (i : Int) != cast else false) = false := by
  cases hd : decide (to ≥ 0) with
  | false => rfl
  | true =>
    obtain ⟨k, rfl, hk, h1 | ⟨h1, h2⟩⟩ := h (of_decide_eq_true hd)
    · rw [Int.toNat_natCast, Int.toNat_natCast, h1, badV_refl]
      rfl
    · rw [h1, h2]
      cases (bif true then badV (x.getD (k : Int).toNat default) (row.getD (i : Int).toNat default) else false) <;> simp
set_option maxHeartbeats 8000000 in
/-- cleanselaw06.SchemaRows. -/
theorem f6 (l : List Tb) (c : Ch) (raw : Int) (row : List Vl) (hw : WideS l) (hraw : 0 ≤ raw ∧ raw ≤ 255) : AF Tryz.prog 6 [.d (.agg [eTs l]), .d (eC c), .d (.lit (.int .u8 raw)), .d (eVs row)] [] (fun o p => o = .ret (.d (.lit (.bool true))) ∧ p = []) := by
  refine AF.intro hT Tryz.func6 rfl (by kernel_rfl) (Nat.le_of_ble_eq_true rfl) ?_
  repeat (first | refine wA0 rfl rfl rfl rfl ?_ | refine AL.nil ?_ | refine AW.seq ?_ | refine AW.region ?_ | refine bA rfl rfl rfl rfl rfl rfl ?_)
  refine AL.call0 rfl rfl rfl (f15) rfl rfl rfl ?_
  repeat (first | refine wA0 rfl rfl rfl rfl ?_ | refine AL.nil ?_ | refine AW.seq ?_ | refine AW.region ?_)
  refine AL.call0 rfl rfl rfl (f16r l c row) rfl rfl rfl ?_
  repeat (first | refine wA0 rfl rfl rfl rfl ?_ | refine wA1 rfl rfl rfl rfl rfl ?_ | refine AL.nil ?_)
  refine AW.cond rfl (fun h0 => ?_) (fun h0 => ?_)
  · repeat' (first | refine wA0 rfl rfl rfl rfl ?_ | refine AL.nil ?_ | refine AW.seq ?_ | refine AW.region ?_ | (refine AW.ret ?_; refine ⟨[], _, _, rfl, rfl, ⟨?_, rfl⟩, rfl⟩))
    rfl
  · have hsF : smallF l c row.length = true := by
      cases h : smallF l c row.length with
      | true => rfl
      | false => rw [h] at h0; cases h0
    have hl0 : l.length ≠ 0 := by
      intro e
      rw [hsF, e] at h0
      cases h0
    obtain ⟨hS, hcn, _, hr⟩ := smallF_ok hsF
    have hr' : row.length ≤ 20 := by omega
    have big : (1000000 : Nat) ≤ maxLen := by decide
    have hl : OkS l := hS.okS hw
    have hcc : OkC c := ⟨by omega⟩
    have hllen := hl.len
    have hz : (l.length : Int) ≠ 0 := by omega
    obtain ⟨n, hn, hnl⟩ := raw_mod hraw.1 hraw.2 hl0
    have hia : (0 : Int) ≤ (n : Int) ∧ (n : Int) < (l.length : Int) := by omega
    have h17 := f17X l c hl hcc hS.okB
    have h19 := f19X l c n row hl hcc (by omega)
    have hnt := hl.t _ (mem_getD (α := Tb) hnl)
    repeat (first | refine wA0 rfl rfl rfl rfl ?_ | refine AL.nil ?_ | refine AW.seq ?_ | refine AW.region ?_ | refine AW.skip ?_)
    rw [hn]
    skip
    by_cases he : errX l c = 0
    · obtain ⟨g1, g2, ⟨ti, hti, htl, ht⟩, g4⟩ := errX_zero he
      have hg := Chg.of g1 g4
      rw [ht] at hg
      rw [applyX_ok he hti] at h17
      have hl' : OkS (l.set ti (tabX (l.getD ti default) c)) := hl.set hS g2 htl hg
      have hlen : (l.set ti (tabX (l.getD ti default) c)).length = l.length := List.length_set ..
      have hib : (0 : Int) ≤ (n : Int) ∧ (n : Int) < ((l.set ti (tabX (l.getD ti default) c)).length : Int) := by omega
      cases hfit : fitsF (l.getD n default) row with
      | false =>
        rw [convX_bad he hfit] at h19
        refine AL.call0 rfl rfl rfl (h17) rfl rfl rfl ?_
        repeat (first | refine wA0 rfl rfl rfl rfl ?_ | refine AL.nil ?_ | refine AW.seq ?_ | refine AW.region ?_ | refine sA rfl rfl rfl rfl rfl rfl rfl rfl rfl ?_ | refine bA rfl rfl rfl rfl rfl rfl ?_)
        refine AL.call0 rfl rfl rfl (h19) rfl rfl rfl ?_
        repeat (first | refine wA0 rfl rfl rfl rfl ?_ | refine wA1 rfl rfl rfl rfl rfl ?_ | refine AL.nil ?_ | refine AW.seq ?_ | refine AW.region ?_)
        refine kA1 rfl rfl rfl rfl (fun hγ => f27 (l.getD n default) row (by omega)) rfl rfl rfl ?_
        repeat (first | refine wA0 rfl rfl rfl rfl ?_ | refine wA1 rfl rfl rfl rfl rfl ?_ | refine AL.nil ?_)
        refine AW.condT rfl ?_ ?_
        · show (bif (0 : Int) != 0 then true else !fitsF (l.getD n default) row) = true
          rw [hfit]; rfl
        repeat' (first | refine wA0 rfl rfl rfl rfl ?_ | refine wA1 rfl rfl rfl rfl rfl ?_ | refine AL.nil ?_ | refine AW.seq ?_ | refine AW.region ?_ | (refine AW.ret ?_; refine ⟨[], _, _, rfl, rfl, ⟨?_, rfl⟩, rfl⟩))
        rfl
      | true =>
        have hrl := (fits_iff.1 hfit).1
        rw [convX_ok he hti hnl hfit] at h19
        have key : (∃ x, (if n = ti then rowR (rowX (l.getD ti default) c row) else (row, 0)) = (x, 0) ∧ fitsF ((l.set ti (tabX (l.getD ti default) c)).getD n default) x = true ∧
              ∀ i, i < row.length → MovedOK c (columnF (l.getD n default).attrs c.attr) row x i (bif eqS (l.getD n default).name c.table then movedF (l.getD n default) c i else i)) ∨
            (n = ti ∧ rowX (l.getD ti default) c row = none) := by
          have hnm := valid_name g2 hnl hti
          by_cases e : n = ti
          · subst e
            cases hx : rowX (l.getD n default) c row with
            | none => exact .inr ⟨rfl, rfl⟩
            | some x =>
              left
              obtain ⟨k1, k2⟩ := hg.row hfit hx
              refine ⟨x, by rw [if_pos rfl]; rfl, by rw [getD_set_same hnl]; exact k1, fun i hi => ?_⟩
              rw [hnm, decide_eq_true rfl, cond_true]
              exact fun h0 => k2 i hi h0
          · left
            refine ⟨row, by rw [if_neg e], by rw [getD_set_ne e]; exact hfit, fun i hi => ?_⟩
            rw [hnm, decide_eq_false e, cond_false]
            exact fun _ => ⟨i, rfl, hi, .inl rfl⟩
        rcases key with ⟨x, hx, hfx, hmv0⟩ | ⟨rfl, hx⟩
        · rw [hx] at h19
          have hxl := (fits_iff.1 hfx).1
          have hxm : x.length ≤ maxLen := by
            have := (hl'.t _ (mem_getD (α := Tb) (show n < (l.set ti (tabX (l.getD ti default) c)).length by omega))).attrs
            omega
          refine AL.call0 rfl rfl rfl (h17) rfl rfl rfl ?_
          repeat (first | refine wA0 rfl rfl rfl rfl ?_ | refine AL.nil ?_ | refine AW.seq ?_ | refine AW.region ?_ | refine sA rfl rfl rfl rfl rfl rfl rfl rfl rfl ?_ | refine bA rfl rfl rfl rfl rfl rfl ?_)
          refine AL.call0 rfl rfl rfl (h19) rfl rfl rfl ?_
          repeat (first | refine wA0 rfl rfl rfl rfl ?_ | refine wA1 rfl rfl rfl rfl rfl ?_ | refine AL.nil ?_ | refine AW.seq ?_ | refine AW.region ?_)
          refine kA1 rfl rfl rfl rfl (fun hγ => f27 (l.getD n default) row (by omega)) rfl rfl rfl ?_
          repeat (first | refine wA0 rfl rfl rfl rfl ?_ | refine wA1 rfl rfl rfl rfl rfl ?_ | refine AL.nil ?_)
          refine AW.condF rfl ?_ ?_
          · show (bif (0 : Int) != 0 then true else !fitsF (l.getD n default) row) = false
            rw [hfit]; rfl
          repeat (first | refine wA0 rfl rfl rfl rfl ?_ | refine AL.nil ?_ | refine AW.seq ?_ | refine AW.region ?_ | refine AW.skip ?_)
          refine AW.condF rfl rfl ?_
          repeat (first | refine wA0 rfl rfl rfl rfl ?_ | refine wA1 rfl rfl rfl rfl rfl ?_ | refine AW.seq ?_ | refine AW.region ?_ | refine AW.skip ?_)
          refine kA1 rfl rfl rfl rfl (fun hγ => f27 ((l.set ti (tabX (l.getD ti default) c)).getD n default) x hxm) rfl rfl rfl ?_
          repeat (first | refine wA0 rfl rfl rfl rfl ?_ | refine wA1 rfl rfl rfl rfl rfl ?_ | refine AL.nil ?_)
          refine AW.condF rfl ?_ ?_
          · show (bif !(((l.set ti (tabX (l.getD ti default) c)).length : Int) == (l.length : Int)) then true else !fitsF ((l.set ti (tabX (l.getD ti default) c)).getD n default) x) = false
            rw [hfx, hlen, beq_self_eq_true]; rfl
          repeat (first | refine AW.seq ?_ | refine AW.skip ?_ | refine dW ?_ | refine wG0 rfl rfl rfl rfl ?_)
          refine DG.call0 rfl rfl rfl (f29 (l.getD n default) c.attr hnt.attrs hnt.was) rfl rfl rfl ?_
          repeat (first | refine wA0 rfl rfl rfl rfl ?_ | refine AL.nil ?_ | refine AW.seq ?_ | refine AW.region ?_ | refine AW.block ?_ | refine wG0 rfl rfl rfl rfl ?_ | refine nG ?_)
          refine AW.weak (Weak.keep [3,4,5,9,10,13,18,19] [.loc 4,.loc 5] rfl rfl) ?_
          refine AW.loop (I := fun m st => ∃ i : Nat, i + m = row.length ∧ st = ⟨205, [(3, .d (eVs row)), (4, .ptr (.loc 4) 0), (5, .ptr (.loc 5) 0), (9, .d (.lit (.bool true))), (10, .d (eI n)), (13, .d (eVs x)), (18, .d (eI (columnF (l.getD n default).attrs c.attr))), (19, .d (eI i))], [(.loc 4, .cells [.d (eTs l)]), (.loc 5, .cells ((eC c).cells.map PV.d))]⟩) row.length ⟨0, by omega, rfl⟩ ?_
          rintro m st ⟨i, hi, rfl⟩
          repeat (first | refine wA0 rfl rfl rfl rfl ?_ | refine AL.nil ?_ | refine AW.seq ?_ | refine AW.region ?_)
          refine AW.cond rfl (fun hlt => ?_) (fun hlt => ?_)
          · have hlt' : i < row.length := by simpa using hlt
            have hic : (0 : Int) ≤ (i : Int) ∧ (i : Int) < (row.length : Int) := by omega
            have hmv := hmv0 i hlt'
            repeat (first | refine wA0 rfl rfl rfl rfl ?_ | refine AL.nil ?_ | refine AW.seq ?_ | refine AW.region ?_ | refine AW.skip ?_ | refine AW.block ?_ | refine dW ?_ | refine wG0 rfl rfl rfl rfl ?_ | refine nG ?_)
            refine AW.cond rfl (fun hname => ?_) (fun hname => ?_)
            · have hname' : eqS (l.getD n default).name c.table = true := hname
              rw [hname', cond_true] at hmv
              have hto := hmv.lt
              repeat (first | refine dW ?_ | refine wG0 rfl rfl rfl rfl ?_)
              refine DG.call0 rfl rfl rfl (f32 (l.getD n default) c i hnt (by omega)) rfl rfl rfl ?_
              repeat (first | refine AW.seq ?_ | refine dW ?_ | refine wG0 rfl rfl rfl rfl ?_ | refine wG1 rfl rfl rfl rfl rfl ?_ | refine nG ?_)
              refine AW.condF rfl ?_ ?_
              · exact row_cond hmv hto
              repeat (first | refine wA0 rfl rfl rfl rfl ?_ | refine AL.nil ?_ | refine AW.region ?_ | refine AW.skip ?_)
              refine ⟨m - 1, _, by omega, Weak.keep [3,4,5,9,10,13,18,19] [.loc 4,.loc 5] rfl rfl, i + 1, by omega, ?_⟩
              rw [i64s (by simp only [maxLen]; omega)]
              rfl
            · have hname' : eqS (l.getD n default).name c.table = false := hname
              rw [hname', cond_false] at hmv
              have hto := hmv.lt
              repeat (first | refine AW.seq ?_ | refine AW.skip ?_ | refine dW ?_ | refine wG0 rfl rfl rfl rfl ?_ | refine wG1 rfl rfl rfl rfl rfl ?_ | refine nG ?_)
              refine AW.condF rfl ?_ ?_
              · exact row_cond hmv hto
              repeat (first | refine wA0 rfl rfl rfl rfl ?_ | refine AL.nil ?_ | refine AW.region ?_ | refine AW.skip ?_)
              refine ⟨m - 1, _, by omega, Weak.keep [3,4,5,9,10,13,18,19] [.loc 4,.loc 5] rfl rfl, i + 1, by omega, ?_⟩
              rw [i64s (by simp only [maxLen]; omega)]
              rfl
          · refine AW.exit ?_
            repeat' (first | refine wA0 rfl rfl rfl rfl ?_ | refine AL.nil ?_ | refine AW.seq ?_ | refine AW.region ?_ | (refine AW.ret ?_; refine ⟨[], _, _, rfl, rfl, ⟨?_, rfl⟩, rfl⟩))
            rfl
        · obtain ⟨k1, k2, k3, k4⟩ := hg.row_none hx
          rw [if_pos rfl, hx] at h19
          have hcp : decide (columnF (l.getD n default).attrs c.attr < 0) = false := decide_eq_false (by omega)
          have hci : 0 ≤ columnF (l.getD n default).attrs c.attr ∧ columnF (l.getD n default).attrs c.attr < (row.length : Int) := by omega
          have hnm : eqS (l.getD n default).name c.table = true := by
            rw [valid_name g2 hnl hti]; exact decide_eq_true rfl
          have k4' : (castF (row.getD (columnF (l.getD n default).attrs c.attr).toNat default) c.to).2 ≠ 0 := k4
          refine AL.call0 rfl rfl rfl (h17) rfl rfl rfl ?_
          repeat (first | refine wA0 rfl rfl rfl rfl ?_ | refine AL.nil ?_ | refine AW.seq ?_ | refine AW.region ?_ | refine sA rfl rfl rfl rfl rfl rfl rfl rfl rfl ?_ | refine bA rfl rfl rfl rfl rfl rfl ?_)
          refine AL.call0 rfl rfl rfl (h19) rfl rfl rfl ?_
          repeat (first | refine wA0 rfl rfl rfl rfl ?_ | refine wA1 rfl rfl rfl rfl rfl ?_ | refine AL.nil ?_ | refine AW.seq ?_ | refine AW.region ?_)
          refine kA1 rfl rfl rfl rfl (fun hγ => f27 (l.getD n default) row (by omega)) rfl rfl rfl ?_
          repeat (first | refine wA0 rfl rfl rfl rfl ?_ | refine wA1 rfl rfl rfl rfl rfl ?_ | refine AL.nil ?_)
          refine AW.condF rfl ?_ ?_
          · show (bif (0 : Int) != 0 then true else !fitsF (l.getD n default) row) = false
            rw [hfit]; rfl
          repeat (first | refine wA0 rfl rfl rfl rfl ?_ | refine AL.nil ?_ | refine AW.seq ?_ | refine AW.region ?_ | refine AW.skip ?_)
          refine AW.condT rfl rfl ?_
          repeat (first | refine AW.seq ?_ | refine dW ?_ | refine wG0 rfl rfl rfl rfl ?_)
          refine DG.call0 rfl rfl rfl (f29 (l.getD n default) c.attr hnt.attrs hnt.was) rfl rfl rfl ?_
          repeat (first | refine AW.seq ?_ | refine dW ?_ | refine wG0 rfl rfl rfl rfl ?_ | refine wG1 rfl rfl rfl rfl rfl ?_ | refine nG ?_)
          refine AW.condF rfl ?_ ?_
          · show (bif bif bif (15 : Int) != 15 then true else c.kind != 4 then true else decide (columnF (l.getD n default).attrs c.attr < 0) then true else !(eqS (l.getD n default).name c.table)) = false
            rw [k1, hcp, hnm]; rfl
          repeat (first | refine AW.seq ?_ | refine AW.skip ?_ | refine dW ?_ | refine wG0 rfl rfl rfl rfl ?_)
          refine DG.call0 rfl rfl rfl (f33x _ _ _ c.to) rfl rfl rfl ?_
          repeat' (first | refine wA0 rfl rfl rfl rfl ?_ | refine wA1 rfl rfl rfl rfl rfl ?_ | refine AL.nil ?_ | refine AW.seq ?_ | refine AW.region ?_ | refine wG0 rfl rfl rfl rfl ?_ | refine sG rfl rfl rfl rfl rfl rfl rfl rfl rfl ?_ | refine bG rfl rfl rfl rfl rfl rfl rfl ?_ | refine nG ?_ | (refine AW.ret ?_; refine ⟨[], _, _, rfl, rfl, ⟨?_, rfl⟩, rfl⟩))
          refine congrArg (fun b => AOut.ret (.d (.lit (.bool b)))) ?_
          show (bif true then (castF (row.getD (columnF (l.getD n default).attrs c.attr).toNat default) c.to).2 != 0 else false) = true
          rw [cond_true]
          simpa using k4'
    · have he' : (errX l c != 0) = true := by simpa using he
      rw [applyX_err he] at h17
      rw [convX_err he] at h19
      refine AL.call0 rfl rfl rfl (h17) rfl rfl rfl ?_
      repeat (first | refine wA0 rfl rfl rfl rfl ?_ | refine AL.nil ?_ | refine AW.seq ?_ | refine AW.region ?_ | refine sA rfl rfl rfl rfl rfl rfl rfl rfl rfl ?_ | refine bA rfl rfl rfl rfl rfl rfl ?_)
      refine AL.call0 rfl rfl rfl (h19) rfl rfl rfl ?_
      repeat (first | refine wA0 rfl rfl rfl rfl ?_ | refine wA1 rfl rfl rfl rfl rfl ?_ | refine AL.nil ?_ | refine AW.seq ?_ | refine AW.region ?_)
      refine kA1 rfl rfl rfl rfl (fun hγ => f27 (l.getD n default) row (by omega)) rfl rfl rfl ?_
      repeat (first | refine wA0 rfl rfl rfl rfl ?_ | refine wA1 rfl rfl rfl rfl rfl ?_ | refine AL.nil ?_)
      refine AW.condT rfl ?_ ?_
      · show (bif errX l c != 0 then true else !fitsF (l.getD n default) row) = true
        rw [he']; rfl
      repeat' (first | refine wA0 rfl rfl rfl rfl ?_ | refine wA1 rfl rfl rfl rfl rfl ?_ | refine AL.nil ?_ | refine AW.seq ?_ | refine AW.region ?_ | (refine AW.ret ?_; refine ⟨[], _, _, rfl, rfl, ⟨?_, rfl⟩, rfl⟩))
      refine congrArg (fun b => AOut.ret (.d (.lit (.bool b)))) ?_
      simp [he]
end Go.Pv
