/- Part of the proofs over this seat: V28 V29. -/
import Derived.Test.YteohopnpcanfpaaGreatDoorZKt
import Derived.Test.YteohopnpcanfpaaGreatDoorZKv
import Derived.Test.YteohopnpcanfpaaGreatDoorZKu
set_option maxRecDepth 100000
namespace Go.Pv
open Go.RowKit Go.Proofs

theorem f107 (s : Bs) (hs : s.size ≤ 140737488355327) : AF Tryz.prog 107 [.d (eS s)] [] (fun o p => (∃ x b, o = .ret (.tup [.d (eS x), .d (.lit (.bool b))])) ∧ p = []) := by
  refine AF.plain (args := [eS s]) (by unfold Enters; kernel_rfl) ?_
  rintro g w vs hp hG hv
  obtain ⟨v1, _, rfl, ⟨rfl, _⟩, rfl⟩ := hv
  refine (content s hs w).mono ?_
  rintro e w' ⟨x, b, rfl, hB⟩
  exact ⟨.ret (.tup [.d (eS x), .d (.lit (.bool b))]), ⟨_, rfl, [_, _], rfl, _, _, rfl, ⟨rfl, rfl⟩, _, _, rfl, ⟨rfl, rfl⟩, rfl⟩, ⟨⟨x, b, rfl⟩, rfl⟩, hB⟩
theorem eqS_pref {s t q : Bs} (h : prefF s q = true) (ht : prefF t q = false) : eqS s t = false := by
  rw [eqS_false]
  intro e
  rw [e, ht] at h
  cases h
theorem pref_two {s : Bs} (h : prefF s ⟨#[34]⟩ = true) : prefF s ⟨#[64]⟩ = false := by
  unfold prefF Lib.hasPrefix at h ⊢
  cases hs : raw s with
  | nil => rw [hs] at h; exact absurd h (by decide)
  | cons c r =>
    rw [hs] at h
    have h1 : raw ⟨#[34]⟩ = [34] := rfl
    have h2 : raw ⟨#[64]⟩ = [64] := rfl
    rw [h1] at h
    rw [h2]
    simp only [List.isPrefixOf, Bool.and_eq_true, beq_iff_eq] at h ⊢
    rw [← h.1]
    decide
/-- value.Parse of a text in quotes: if there is a value, it is a text. -/
theorem f72q (s : Bs) (hs : s.size ≤ 140737488355327) (hq : prefF s ⟨#[34]⟩ = true) : AF Tryz.prog 72 [.d (eS s)] [] (fun o p => (∃ v e, o = .ret (.tup [.d (eV v), .d (eI e)]) ∧ (e = 0 → v.kind = 1)) ∧ p = []) := by
  refine AF.intro hT Tryz.func72 rfl (by kernel_rfl) (Nat.le_of_ble_eq_true rfl) ?_
  repeat (first | refine wA0 rfl rfl rfl rfl ?_ | refine AL.nil ?_ | refine AW.seq ?_ | refine AW.region ?_ | refine AW.block ?_ | refine bA rfl rfl rfl rfl rfl rfl ?_)
  refine AW.condF rfl (eqS_pref (t := ⟨#[110, 117, 108, 108]⟩) hq (by decide)) ?_
  repeat (first | refine wA0 rfl rfl rfl rfl ?_ | refine AL.nil ?_ | refine AW.seq ?_ | refine AW.region ?_)
  refine AW.condF rfl (eqS_pref (t := ⟨#[116, 114, 117, 101]⟩) hq (by decide)) ?_
  repeat (first | refine wA0 rfl rfl rfl rfl ?_ | refine AL.nil ?_ | refine AW.seq ?_ | refine AW.region ?_)
  refine AW.condF rfl (eqS_pref (t := ⟨#[102, 97, 108, 115, 101]⟩) hq (by decide)) ?_
  repeat (first | refine wA0 rfl rfl rfl rfl ?_ | refine AW.seq ?_ | refine AW.region ?_)
  refine AL.call0 rfl rfl rfl (f105 s ⟨#[64]⟩) rfl rfl rfl ?_
  repeat (first | refine wA0 rfl rfl rfl rfl ?_ | refine AL.nil ?_)
  refine AW.condF rfl (pref_two hq) ?_
  repeat (first | refine wA0 rfl rfl rfl rfl ?_ | refine AW.seq ?_ | refine AW.region ?_)
  refine AL.call0 rfl rfl rfl (f105 s ⟨#[34]⟩) rfl rfl rfl ?_
  repeat (first | refine wA0 rfl rfl rfl rfl ?_ | refine AL.nil ?_)
  refine AW.condT rfl hq ?_
  repeat (first | refine wA0 rfl rfl rfl rfl ?_ | refine AL.nil ?_ | refine AW.seq ?_ | refine AW.region ?_ | refine sA rfl rfl rfl rfl rfl rfl rfl rfl rfl ?_)
  refine AL.call [] [] rfl rfl rfl rfl rfl (f107 s hs) (fun _ _ h => by rw [h.2]; rfl) (fun p par' hR => ?_) (fun x par' hR => ?_)
  · obtain ⟨⟨x, b, hp⟩, rfl⟩ := hR
    cases hp
    refine AL.weak (Weak.keep [2, 3, 4, 41] [.loc 2, .loc 4] rfl rfl) ?_
    repeat (first | refine wA0 rfl rfl rfl rfl ?_ | refine wA1 rfl rfl rfl rfl rfl ?_ | refine AL.nil ?_ | refine AW.seq ?_ | refine AW.region ?_ | refine sA rfl rfl rfl rfl rfl rfl rfl rfl rfl ?_)
    refine kA1 rfl rfl rfl rfl (fun hγ => f70 _ _ _) rfl rfl rfl ?_
    repeat (first | refine wA0 rfl rfl rfl rfl ?_ | refine wA1 rfl rfl rfl rfl rfl ?_ | refine AL.nil ?_)
    refine AW.cond rfl (fun hc => ?_) (fun hc => ?_)
    · repeat' (first | refine wA0 rfl rfl rfl rfl ?_ | refine AL.nil ?_ | refine AW.seq ?_ | refine AW.region ?_ | refine sA rfl rfl rfl rfl rfl rfl rfl rfl rfl ?_ | (refine AW.ret ?_; refine ⟨[], _, _, rfl, rfl, ⟨?_, rfl⟩, rfl⟩))
      exact ⟨zV, 4, rfl, fun h => absurd h (by decide)⟩
    · repeat' (first | refine wA0 rfl rfl rfl rfl ?_ | refine AL.nil ?_ | refine AW.seq ?_ | refine AW.region ?_ | refine AW.skip ?_ | refine sA rfl rfl rfl rfl rfl rfl rfl rfl rfl ?_ | (refine AW.ret ?_; refine ⟨[], _, _, rfl, rfl, ⟨?_, rfl⟩, rfl⟩))
      exact ⟨⟨1, 0, x⟩, 0, rfl, fun _ => rfl⟩
  · obtain ⟨⟨y, b, hp⟩, _⟩ := hR
    cases hp
theorem parseQ {s : Bs} (h : prefF s ⟨#[34]⟩ = true) : (parseF s).2 = 0 → (parseF s).1.kind = 1 := by
  have h0 : (parse0F s).1.kind = 1 := by
    unfold parse0F
    rw [eqS_pref h (by decide), eqS_pref h (by decide), eqS_pref h (by decide), pref_two h, h]
    rfl
  unfold parseF
  cases (bif !(parse0F s).2 then true else !vvalid (parse0F s).1) with
  | true => intro h; exact absurd h (show ¬ (4 : Int) = 0 by decide)
  | false => intro _; exact h0
set_option maxHeartbeats 4000000 in
theorem f33q (k n : Int) (s : Bs) (kind : Int) (hq : prefF s ⟨#[34]⟩ = true) : AF Tryz.prog 33 [.d (.agg [eI k, eI n, eS s]), .d (eI kind)] [] (fun o p => o = .ret (.tup [.d (eV (castF ⟨k, n, s⟩ kind).1), .d (eI (castF ⟨k, n, s⟩ kind).2)]) ∧ p = []) := by
  refine AF.intro hT Tryz.func33 rfl (by kernel_rfl) (Nat.le_of_ble_eq_true rfl) ?_
  repeat (first | refine wA0 rfl rfl rfl rfl ?_ | refine AL.nil ?_ | refine AW.seq ?_ | refine AW.region ?_ | refine bA rfl rfl rfl rfl rfl rfl ?_)
  refine AL.call0 rfl rfl rfl (f70 k n s) rfl rfl rfl ?_
  repeat (first | refine wA0 rfl rfl rfl rfl ?_ | refine wA1 rfl rfl rfl rfl rfl ?_ | refine AL.nil ?_)
  refine AW.cond rfl (fun h1 => ?_) (fun h1 => ?_)
  · repeat' (first | refine wA0 rfl rfl rfl rfl ?_ | refine AL.nil ?_ | refine AW.seq ?_ | refine AW.region ?_ | refine sA rfl rfl rfl rfl rfl rfl rfl rfl rfl ?_ | (refine AW.ret ?_; refine ⟨[], _, _, rfl, rfl, ⟨?_, rfl⟩, rfl⟩))
    simp only [castF, h1, cond_true]
    rfl
  · have hv : vvalid ⟨k, n, s⟩ = true := by
      cases hv : vvalid ⟨k, n, s⟩ with
      | true => rfl
      | false => rw [hv] at h1; simp at h1
    have hn := vvalid_n hv
    repeat (first | refine wA0 rfl rfl rfl rfl ?_ | refine wA1 rfl rfl rfl rfl rfl ?_ | refine AL.nil ?_ | refine AW.seq ?_ | refine AW.region ?_ | refine AW.skip ?_ | refine AW.block ?_)
    refine AW.cond rfl (fun h2 => ?_) (fun h2 => ?_)
    · repeat' (first | refine wA0 rfl rfl rfl rfl ?_ | refine AL.nil ?_ | refine AW.seq ?_ | refine AW.region ?_ | refine sA rfl rfl rfl rfl rfl rfl rfl rfl rfl ?_ | (refine AW.ret ?_; refine ⟨[], _, _, rfl, rfl, ⟨?_, rfl⟩, rfl⟩))
      simp only [castF, h1, h2, cond_true, cond_false]
      rfl
    · have hk0 : ∀ x, (kind == x) = true → (k == x) = false := by
        intro x hx
        have : kind = x := by simpa using hx
        subst this
        cases hkk : k == kind with
        | false => rfl
        | true => rw [hkk] at h2; simp at h2
      repeat (first | refine wA0 rfl rfl rfl rfl ?_ | refine AL.nil ?_ | refine AW.seq ?_ | refine AW.region ?_)
      refine AW.cond rfl (fun h3 => ?_) (fun h3 => ?_)
      · repeat (first | refine wA0 rfl rfl rfl rfl ?_ | refine AW.seq ?_ | refine AW.region ?_)
        refine AL.call0 rfl rfl rfl (f71 k n s (hk0 1 h3) (by show _ ≤ (⟨k, n, s⟩ : Vl).n; omega) (by show (⟨k, n, s⟩ : Vl).n ≤ _; omega)) rfl rfl rfl ?_
        repeat' (first | refine wA0 rfl rfl rfl rfl ?_ | refine AL.nil ?_ | refine sA rfl rfl rfl rfl rfl rfl rfl rfl rfl ?_ | (refine AW.ret ?_; refine ⟨[], _, _, rfl, rfl, ⟨?_, rfl⟩, rfl⟩))
        simp only [castF, h1, h2, h3, cond_true, cond_false]
        rfl
      · repeat (first | refine wA0 rfl rfl rfl rfl ?_ | refine AL.nil ?_ | refine AW.seq ?_ | refine AW.region ?_)
        refine AW.cond rfl (fun h4 => ?_) (fun h4 => ?_)
        · have hsz := vvalid_text hv h4
          have hres : castF ⟨k, n, s⟩ kind = (zV, 15) := by
            simp only [castF, h1, h2, h3, h4, cond_true, cond_false]
            cases h5 : (parseF s).2 == 0 with
            | false => rfl
            | true =>
              have : (parseF s).1.kind = 1 := parseQ hq (by simpa using h5)
              have e : ((parseF s).1.kind == kind) = false := by
                rw [this]
                cases h6 : (1 : Int) == kind with
                | false => rfl
                | true =>
                  have : (1 : Int) = kind := by simpa using h6
                  subst this
                  cases h3
              rw [e]
              rfl
          rw [hres]
          repeat (first | refine wA0 rfl rfl rfl rfl ?_ | refine AW.seq ?_ | refine AW.region ?_)
          refine AL.call [] [] rfl rfl rfl rfl rfl (f72q s (by show (⟨k, n, s⟩ : Vl).text.size ≤ _; omega) hq) (fun _ _ h => by rw [h.2]; rfl) (fun p par' hR => ?_) (fun x par' hR => ?_)
          · obtain ⟨⟨v, e, hp, hve⟩, rfl⟩ := hR
            cases hp
            refine AL.weak (Weak.keep [1, 2, 4, 45] [.loc 2, .loc 4] rfl rfl) ?_
            repeat (first | refine wA0 rfl rfl rfl rfl ?_ | refine wA1 rfl rfl rfl rfl rfl ?_ | refine AL.nil ?_ | refine AW.seq ?_ | refine AW.region ?_ | refine sA rfl rfl rfl rfl rfl rfl rfl rfl rfl ?_ | refine bA rfl rfl rfl rfl rfl rfl ?_)
            refine AW.condF rfl (show (bif e == 0 then v.kind == kind else false) = false from ?_) ?_
            · cases he : e == 0 with
              | false => rfl
              | true =>
                rw [cond_true, hve (by simpa using he)]
                cases h6 : (1 : Int) == kind with
                | false => rfl
                | true =>
                  have : (1 : Int) = kind := by simpa using h6
                  subst this
                  cases h3
            repeat' (first | refine wA0 rfl rfl rfl rfl ?_ | refine AL.nil ?_ | refine AW.seq ?_ | refine AW.region ?_ | refine AW.skip ?_ | refine sA rfl rfl rfl rfl rfl rfl rfl rfl rfl ?_ | (refine AW.ret ?_; refine ⟨[], _, _, rfl, rfl, ⟨?_, rfl⟩, rfl⟩))
            rfl
          · obtain ⟨⟨v, e, hp, hve⟩, _⟩ := hR
            cases hp
        · repeat (first | refine wA0 rfl rfl rfl rfl ?_ | refine wA1 rfl rfl rfl rfl rfl ?_ | refine AL.nil ?_ | refine AW.seq ?_ | refine AW.region ?_)
          refine AW.cond rfl (fun h5 => ?_) (fun h5 => ?_)
          · repeat' (first | refine wA0 rfl rfl rfl rfl ?_ | refine AL.nil ?_ | refine AW.seq ?_ | refine AW.region ?_ | refine sA rfl rfl rfl rfl rfl rfl rfl rfl rfl ?_ | (refine AW.ret ?_; refine ⟨[], _, _, rfl, rfl, ⟨?_, rfl⟩, rfl⟩))
            simp only [castF, h1, h2, h3, h4, h5, cond_true, cond_false]
            rfl
          · repeat (first | refine wA0 rfl rfl rfl rfl ?_ | refine AL.nil ?_ | refine AW.seq ?_ | refine AW.region ?_ | refine AW.skip ?_ | refine sA rfl rfl rfl rfl rfl rfl rfl rfl rfl ?_)
            refine AL.call0 rfl rfl rfl (f70 kind n s) rfl rfl rfl ?_
            repeat (first | refine wA0 rfl rfl rfl rfl ?_ | refine AL.nil ?_)
            refine AW.cond rfl (fun h6 => ?_) (fun h6 => ?_)
            · repeat' (first | refine wA0 rfl rfl rfl rfl ?_ | refine AL.nil ?_ | refine AW.seq ?_ | refine AW.region ?_ | refine sA rfl rfl rfl rfl rfl rfl rfl rfl rfl ?_ | (refine AW.ret ?_; refine ⟨[], _, _, rfl, rfl, ⟨?_, rfl⟩, rfl⟩))
              simp only [castF, h1, h2, h3, h4, h5, h6, cond_true, cond_false]
              rfl
            · repeat' (first | refine wA0 rfl rfl rfl rfl ?_ | refine AL.nil ?_ | refine AW.seq ?_ | refine AW.region ?_ | refine AW.skip ?_ | refine sA rfl rfl rfl rfl rfl rfl rfl rfl rfl ?_ | (refine AW.ret ?_; refine ⟨[], _, _, rfl, rfl, ⟨?_, rfl⟩, rfl⟩))
              simp only [castF, h1, h2, h3, h4, h5, h6, cond_false]
              rfl
theorem f33x (k n : Int) (s : Bs) (kind : Int) : AF Tryz.prog 33 [.d (.agg [eI k, eI n, eS s]), .d (eI kind)] [] (fun o p => o = .ret (.tup [.d (eV (castF ⟨k, n, s⟩ kind).1), .d (eI (castF ⟨k, n, s⟩ kind).2)]) ∧ p = []) := by
  cases hq : prefF s ⟨#[34]⟩ with
  | true => exact f33q k n s kind hq
  | false => exact f33 k n s kind hq
theorem f147x (row : List Vl) (c : Ch) (a : Nat) (ha : a < row.length) (he : ((castF (row.getD a default) c.to).2 == 0) = true) : AF Tryz.prog 147 [.sl (.par 0) row.length, .d (eC c), .d (eI a)] [.arr true 26 3 row.length (FV row) none]
    (fun o p => o = .ret (.tup [.sl (.par 0) row.length, .d (eI 0)]) ∧ p = [.arr true 26 3 row.length (FV (rowC row c a)) none]) := by
  have he' : (!((castF (row.getD a default) c.to).2 == 0)) = false := by rw [he]; rfl
  refine AF.intro hT Tryz.func147 rfl (by kernel_rfl) (Nat.le_of_ble_eq_true rfl) ?_
  repeat (first | refine wA0 rfl rfl rfl rfl ?_ | refine AL.nil ?_ | refine AW.seq ?_ | refine AW.region ?_ | refine dW ?_ | refine wG0 rfl rfl rfl rfl ?_ | refine bA rfl rfl rfl rfl rfl rfl ?_)
  refine DG.call0 rfl rfl rfl (f33x _ _ _ c.to) rfl rfl rfl ?_
  repeat (first | refine wA0 rfl rfl rfl rfl ?_ | refine AL.nil ?_ | refine AW.seq ?_ | refine AW.region ?_ | refine wG0 rfl rfl rfl rfl ?_ | refine sG rfl rfl rfl rfl rfl rfl rfl rfl rfl ?_ | refine bG rfl rfl rfl rfl rfl rfl rfl ?_ | refine nG ?_)
  refine AW.condF rfl he' ?_
  repeat (first | refine wA0 rfl rfl rfl rfl ?_ | refine AW.seq ?_ | refine AW.region ?_ | refine AW.skip ?_)
  refine AL.effS _ (VE.storeE hT (foc' := none) (FV (rowC row c a)) rfl rfl rfl rfl rfl rfl rfl ha (.inl ⟨_, rfl, rfl, rfl, ?_, fun q hq hne => ?_⟩)) rfl rfl rfl ?_
  · simp [FV, rowC, List.getD_eq_getElem?_getD, ha]
    rfl
  · have hne' : a ≠ q := fun e => hne e.symm
    simp [FV, rowC, List.getD_eq_getElem?_getD, List.getElem?_set_ne hne']
  repeat' (first | refine wA0 rfl rfl rfl rfl ?_ | refine AL.nil ?_ | refine AW.seq ?_ | refine AW.region ?_ | (refine AW.ret ?_; refine ⟨[], _, _, rfl, rfl, ⟨?_, rfl⟩, rfl⟩))
  rfl
theorem f147y (row : List Vl) (c : Ch) (a : Nat) (ha : a < row.length) (he : ((castF (row.getD a default) c.to).2 == 0) = false) : AF Tryz.prog 147 [.sl (.par 0) row.length, .d (eC c), .d (eI a)] [.arr true 26 3 row.length (FV row) none]
    (fun o p => o = .ret (.tup [.d (.lit (.slice none 0 0)), .d (eI 15)]) ∧ p = [.arr true 26 3 row.length (FV row) none]) := by
  have he' : (!((castF (row.getD a default) c.to).2 == 0)) = true := by rw [he]; rfl
  refine AF.intro hT Tryz.func147 rfl (by kernel_rfl) (Nat.le_of_ble_eq_true rfl) ?_
  repeat (first | refine wA0 rfl rfl rfl rfl ?_ | refine AL.nil ?_ | refine AW.seq ?_ | refine AW.region ?_ | refine dW ?_ | refine wG0 rfl rfl rfl rfl ?_ | refine bA rfl rfl rfl rfl rfl rfl ?_)
  refine DG.call0 rfl rfl rfl (f33x _ _ _ c.to) rfl rfl rfl ?_
  repeat (first | refine wA0 rfl rfl rfl rfl ?_ | refine AL.nil ?_ | refine AW.seq ?_ | refine AW.region ?_ | refine wG0 rfl rfl rfl rfl ?_ | refine sG rfl rfl rfl rfl rfl rfl rfl rfl rfl ?_ | refine bG rfl rfl rfl rfl rfl rfl rfl ?_ | refine nG ?_)
  refine AW.condT rfl he' ?_
  repeat' (first | refine wA0 rfl rfl rfl rfl ?_ | refine AL.nil ?_ | refine AW.seq ?_ | refine AW.region ?_ | (refine AW.ret ?_; refine ⟨[], _, _, rfl, rfl, ⟨?_, rfl⟩, rfl⟩))
  rfl
end Go.Pv
namespace Go.Pv
open Go.RowKit Go.Proofs

def convO (l : List Tb) (ti : Nat) (n : Int) (row : List Vl) (o : Option (List Vl)) : List Vl × Int :=
  if n < 0 ∨ n ≥ (l.length : Int) ∨ fitsF (l.getD n.toNat default) row = false then ([], 1) else if n = (ti : Int) then rowR o else (row, 0)
theorem convO_bad {l : List Tb} {ti : Nat} {n : Int} {row : List Vl} {o : Option (List Vl)} (h : (bif bif decide (n < 0) then true else decide (n ≥ (l.length : Int)) then true else !fitsF (l.getD n.toNat default) row) = true) : convO l ti n row o = ([], 1) := by
  unfold convO
  rw [if_pos]
  cases h1 : decide (n < 0) with
  | true => exact .inl (of_decide_eq_true h1)
  | false =>
    cases h2 : decide (n ≥ (l.length : Int)) with
    | true => exact .inr (.inl (of_decide_eq_true h2))
    | false => rw [h1, h2] at h; exact .inr (.inr (by simpa using h))
theorem convO_good {l : List Tb} {n : Int} {row : List Vl} (h : (bif bif decide (n < 0) then true else decide (n ≥ (l.length : Int)) then true else !fitsF (l.getD n.toNat default) row) = false) : ∃ m : Nat, n = m ∧ m < l.length ∧ fitsF (l.getD m default) row = true := by
  cases h1 : decide (n < 0) with
  | true => rw [h1] at h; cases h
  | false =>
    cases h2 : decide (n ≥ (l.length : Int)) with
    | true => rw [h1, h2] at h; cases h
    | false =>
      rw [h1, h2] at h
      have h1' := of_decide_eq_false h1
      have h2' := of_decide_eq_false h2
      exact ⟨n.toNat, by omega, by omega, by simpa using h⟩
theorem convO_other {l : List Tb} {ti m : Nat} {row : List Vl} {o : Option (List Vl)} (hm : m < l.length) (hf : fitsF (l.getD m default) row = true) (hne : m ≠ ti) : convO l ti m row o = (row, 0) := by
  unfold convO
  rw [if_neg (by rw [Int.toNat_natCast, hf]; rintro (h | h | h) <;> first | omega | cases h), if_neg (by omega)]
theorem convO_same {l : List Tb} {ti : Nat} {row : List Vl} {o : Option (List Vl)} (hm : ti < l.length) (hf : fitsF (l.getD ti default) row = true) : convO l ti ti row o = rowR o := by
  unfold convO
  rw [if_neg (by rw [Int.toNat_natCast, hf]; rintro (h | h | h) <;> first | omega | cases h), if_pos rfl]
theorem f19ea (l : List Tb) (c : Ch) (nn : Int) (row : List Vl) (hk : c.kind = 1) (hl : OkS l) (hc : OkC c) (he : ((findR (formA c) false (checkA (tabOf l c) c) l c).2.2 == 0) = false) : AF Tryz.prog 19 [.d (.agg [eTs l]), .d (eC c), .d (eI nn), .d (eVs row)] [] (fun o p => o = .ret (.tup [.d (eVs []), .d (eI (findR (formA c) false (checkA (tabOf l c) c) l c).2.2)]) ∧ p = []) := by
  have he' : (!((findR (formA c) false (checkA (tabOf l c) c) l c).2.2 == 0)) = true := by rw [he]; rfl
  refine AF.intro hT Tryz.func19 rfl (by kernel_rfl) (Nat.le_of_ble_eq_true rfl) ?_
  repeat (first | refine wA0 rfl rfl rfl rfl ?_ | refine AL.nil ?_ | refine AW.seq ?_ | refine AW.region ?_ | refine bA rfl rfl rfl rfl rfl rfl ?_)
  refine AL.call0 rfl rfl rfl (f51a l c hk hl hc) rfl rfl rfl ?_
  repeat (first | refine wA0 rfl rfl rfl rfl ?_ | refine AL.nil ?_ | refine AW.seq ?_ | refine AW.region ?_ | refine AW.block ?_ | refine sA rfl rfl rfl rfl rfl rfl rfl rfl rfl ?_ | refine bA rfl rfl rfl rfl rfl rfl ?_)
  refine AW.condT rfl he' ?_
  repeat (first | refine wA0 rfl rfl rfl rfl ?_ | refine AL.nil ?_ | refine AW.seq ?_ | refine AW.region ?_)
  refine AW.weak (Weak.nilSl 8 3 (fun q => eV (([] : List Vl).getD q default)) rfl) ?_
  refine AW.ret ?_
  exact ⟨[], _, _, rfl, rfl, ⟨rfl, rfl⟩, rfl⟩
theorem f19wa (l : List Tb) (c : Ch) (nn : Int) (row : List Vl) (ti : Nat) (ac : Int) (hk : c.kind = 1) (hl : OkS l) (hc : OkC c) (hfr : findR (formA c) false (checkA (tabOf l c) c) l c = ((ti : Int), ac, 0)) (hti : ti < l.length) (hr : row.length ≤ 1000000) : AF Tryz.prog 19 [.d (.agg [eTs l]), .d (eC c), .d (eI nn), .d (eVs row)] []
    (fun o p => o = .ret (.tup [.d (eVs (convO l ti nn row (some (row ++ [c.dflt]))).1), .d (eI (convO l ti nn row (some (row ++ [c.dflt]))).2)]) ∧ p = []) := by
  have h51 := f51a l c hk hl hc
  rw [hfr] at h51
  have hll := hl.len
  refine AF.intro hT Tryz.func19 rfl (by kernel_rfl) (Nat.le_of_ble_eq_true rfl) ?_
  repeat (first | refine wA0 rfl rfl rfl rfl ?_ | refine AL.nil ?_ | refine AW.seq ?_ | refine AW.region ?_ | refine bA rfl rfl rfl rfl rfl rfl ?_)
  refine AL.call0 rfl rfl rfl (h51) rfl rfl rfl ?_
  repeat (first | refine wA0 rfl rfl rfl rfl ?_ | refine AL.nil ?_ | refine AW.seq ?_ | refine AW.region ?_ | refine AW.block ?_ | refine sA rfl rfl rfl rfl rfl rfl rfl rfl rfl ?_ | refine bA rfl rfl rfl rfl rfl rfl ?_)
  refine AW.condF rfl rfl ?_
  repeat (first | refine wA0 rfl rfl rfl rfl ?_ | refine wA1 rfl rfl rfl rfl rfl ?_ | refine AW.seq ?_ | refine AW.region ?_)
  refine kA1 rfl rfl rfl rfl (fun hγ => f27 (l.getD nn.toNat default) row (by simp only [maxLen] ; omega)) rfl rfl rfl ?_
  repeat (first | refine wA0 rfl rfl rfl rfl ?_ | refine wA1 rfl rfl rfl rfl rfl ?_ | refine AL.nil ?_)
  refine AW.cond rfl (fun hb => ?_) (fun hb => ?_)
  · rw [convO_bad (ti := ti) (o := some (row ++ [c.dflt])) hb]
    repeat (first | refine wA0 rfl rfl rfl rfl ?_ | refine AL.nil ?_ | refine AW.seq ?_ | refine AW.region ?_)
    refine AW.weak (Weak.nilSl 8 3 (fun q => eV (([] : List Vl).getD q default)) rfl) ?_
    refine AW.ret ?_
    exact ⟨[], _, _, rfl, rfl, ⟨rfl, rfl⟩, rfl⟩
  · obtain ⟨m, rfl, hm, hfit⟩ := convO_good hb
    repeat (first | refine wA0 rfl rfl rfl rfl ?_ | refine AL.nil ?_ | refine AW.seq ?_ | refine AW.region ?_)
    refine AW.cond rfl (fun hne => ?_) (fun hne => ?_)
    · have hne' : m ≠ ti := by
        intro e
        subst e
        simp at hne
      rw [convO_other (o := some (row ++ [c.dflt])) hm hfit hne']
      repeat (first | refine wA0 rfl rfl rfl rfl ?_ | refine AW.seq ?_ | refine AW.region ?_)
      refine AL.effN _ (VE.call [] [.loc 51] rfl rfl rfl rfl rfl (f56t row.length (fun i => eV (row.getD i default)) (by simp only [maxLen]; omega) (by omega)) (fun _ _ h => h) rfl) rfl rfl rfl rfl rfl ?_
      repeat (first | refine wA0 rfl rfl rfl rfl ?_ | refine AL.nil ?_)
      refine AW.weak (Weak.freezeN 8 (.loc 51) (fun q => eV (row.getD q default)) rfl rfl rfl rfl (fun q hq => rfl) rfl) ?_
      refine AW.ret ?_
      exact ⟨[], _, _, rfl, rfl, ⟨rfl, rfl⟩, rfl⟩
    · obtain rfl : m = ti := by
        have : (!((m : Int) == (ti : Int))) = false := hne
        simp only [Bool.not_eq_false', beq_iff_eq] at this
        omega
      rw [convO_same (o := some (row ++ [c.dflt])) hm hfit]
      have hlen := (fits_iff.1 hfit).1
      repeat (first | refine AW.seq ?_ | refine AW.skip ?_ | refine dW ?_ | refine wG0 rfl rfl rfl rfl ?_)
      refine DG.effN _ (VE.call [] [.loc 55] rfl rfl rfl rfl rfl (f56t row.length (fun i => eV (row.getD i default)) (by simp only [maxLen]; omega) (by omega)) (fun _ _ h => h) rfl) rfl rfl rfl rfl ?_
      repeat (refine wG0 rfl rfl rfl rfl ?_)
      refine DG.effN _ (VE.call [.loc 55] [.loc 58] rfl rfl rfl rfl rfl (f134 row c ac true (by omega)) (fun _ _ h => h) rfl) rfl rfl rfl rfl ?_
      repeat (first | refine wG0 rfl rfl rfl rfl ?_ | refine nG ?_)
      refine AW.weak (Weak.freezeN 8 (.loc 58) (fun q => eV ((row ++ [c.dflt]).getD q default)) rfl rfl rfl rfl (fun q hq => rfl) rfl) ?_
      refine AW.ret ?_
      refine ⟨[], _, _, rfl, rfl, ⟨?_, rfl⟩, rfl⟩
      show AOut.ret (.tup [.d (.sl 3 (row.length + 1) _), .d (eI 0)]) = _
      simp only [rowR, eVs, List.length_append, List.length_singleton]
theorem f19ed (l : List Tb) (c : Ch) (nn : Int) (row : List Vl) (hk : c.kind = 2) (hl : OkS l) (he : ((findR (formD c) true (checkD (tabOf l c) (colOf l c)) l c).2.2 == 0) = false) : AF Tryz.prog 19 [.d (.agg [eTs l]), .d (eC c), .d (eI nn), .d (eVs row)] [] (fun o p => o = .ret (.tup [.d (eVs []), .d (eI (findR (formD c) true (checkD (tabOf l c) (colOf l c)) l c).2.2)]) ∧ p = []) := by
  have he' : (!((findR (formD c) true (checkD (tabOf l c) (colOf l c)) l c).2.2 == 0)) = true := by rw [he]; rfl
  refine AF.intro hT Tryz.func19 rfl (by kernel_rfl) (Nat.le_of_ble_eq_true rfl) ?_
  repeat (first | refine wA0 rfl rfl rfl rfl ?_ | refine AL.nil ?_ | refine AW.seq ?_ | refine AW.region ?_ | refine bA rfl rfl rfl rfl rfl rfl ?_)
  refine AL.call0 rfl rfl rfl (f51d l c hk hl) rfl rfl rfl ?_
  repeat (first | refine wA0 rfl rfl rfl rfl ?_ | refine AL.nil ?_ | refine AW.seq ?_ | refine AW.region ?_ | refine AW.block ?_ | refine sA rfl rfl rfl rfl rfl rfl rfl rfl rfl ?_ | refine bA rfl rfl rfl rfl rfl rfl ?_)
  refine AW.condT rfl he' ?_
  repeat (first | refine wA0 rfl rfl rfl rfl ?_ | refine AL.nil ?_ | refine AW.seq ?_ | refine AW.region ?_)
  refine AW.weak (Weak.nilSl 8 3 (fun q => eV (([] : List Vl).getD q default)) rfl) ?_
  refine AW.ret ?_
  exact ⟨[], _, _, rfl, rfl, ⟨rfl, rfl⟩, rfl⟩
theorem f19wd (l : List Tb) (c : Ch) (nn : Int) (row : List Vl) (ti : Nat) (a : Nat) (hk : c.kind = 2) (hl : OkS l) (hfr : findR (formD c) true (checkD (tabOf l c) (colOf l c)) l c = ((ti : Int), (a : Int), 0)) (hti : ti < l.length) (hr : row.length ≤ 1000000) (ha : a < (l.getD ti default).attrs.length) : AF Tryz.prog 19 [.d (.agg [eTs l]), .d (eC c), .d (eI nn), .d (eVs row)] []
    (fun o p => o = .ret (.tup [.d (eVs (convO l ti nn row (some (row.eraseIdx a))).1), .d (eI (convO l ti nn row (some (row.eraseIdx a))).2)]) ∧ p = []) := by
  have h51 := f51d l c hk hl
  rw [hfr] at h51
  have hll := hl.len
  refine AF.intro hT Tryz.func19 rfl (by kernel_rfl) (Nat.le_of_ble_eq_true rfl) ?_
  repeat (first | refine wA0 rfl rfl rfl rfl ?_ | refine AL.nil ?_ | refine AW.seq ?_ | refine AW.region ?_ | refine bA rfl rfl rfl rfl rfl rfl ?_)
  refine AL.call0 rfl rfl rfl (h51) rfl rfl rfl ?_
  repeat (first | refine wA0 rfl rfl rfl rfl ?_ | refine AL.nil ?_ | refine AW.seq ?_ | refine AW.region ?_ | refine AW.block ?_ | refine sA rfl rfl rfl rfl rfl rfl rfl rfl rfl ?_ | refine bA rfl rfl rfl rfl rfl rfl ?_)
  refine AW.condF rfl rfl ?_
  repeat (first | refine wA0 rfl rfl rfl rfl ?_ | refine wA1 rfl rfl rfl rfl rfl ?_ | refine AW.seq ?_ | refine AW.region ?_)
  refine kA1 rfl rfl rfl rfl (fun hγ => f27 (l.getD nn.toNat default) row (by simp only [maxLen] ; omega)) rfl rfl rfl ?_
  repeat (first | refine wA0 rfl rfl rfl rfl ?_ | refine wA1 rfl rfl rfl rfl rfl ?_ | refine AL.nil ?_)
  refine AW.cond rfl (fun hb => ?_) (fun hb => ?_)
  · rw [convO_bad (ti := ti) (o := some (row.eraseIdx a)) hb]
    repeat (first | refine wA0 rfl rfl rfl rfl ?_ | refine AL.nil ?_ | refine AW.seq ?_ | refine AW.region ?_)
    refine AW.weak (Weak.nilSl 8 3 (fun q => eV (([] : List Vl).getD q default)) rfl) ?_
    refine AW.ret ?_
    exact ⟨[], _, _, rfl, rfl, ⟨rfl, rfl⟩, rfl⟩
  · obtain ⟨m, rfl, hm, hfit⟩ := convO_good hb
    repeat (first | refine wA0 rfl rfl rfl rfl ?_ | refine AL.nil ?_ | refine AW.seq ?_ | refine AW.region ?_)
    refine AW.cond rfl (fun hne => ?_) (fun hne => ?_)
    · have hne' : m ≠ ti := by
        intro e
        subst e
        simp at hne
      rw [convO_other (o := some (row.eraseIdx a)) hm hfit hne']
      repeat (first | refine wA0 rfl rfl rfl rfl ?_ | refine AW.seq ?_ | refine AW.region ?_)
      refine AL.effN _ (VE.call [] [.loc 51] rfl rfl rfl rfl rfl (f56t row.length (fun i => eV (row.getD i default)) (by simp only [maxLen]; omega) (by omega)) (fun _ _ h => h) rfl) rfl rfl rfl rfl rfl ?_
      repeat (first | refine wA0 rfl rfl rfl rfl ?_ | refine AL.nil ?_)
      refine AW.weak (Weak.freezeN 8 (.loc 51) (fun q => eV (row.getD q default)) rfl rfl rfl rfl (fun q hq => rfl) rfl) ?_
      refine AW.ret ?_
      exact ⟨[], _, _, rfl, rfl, ⟨rfl, rfl⟩, rfl⟩
    · obtain rfl : m = ti := by
        have : (!((m : Int) == (ti : Int))) = false := hne
        simp only [Bool.not_eq_false', beq_iff_eq] at this
        omega
      rw [convO_same (o := some (row.eraseIdx a)) hm hfit]
      have hlen := (fits_iff.1 hfit).1
      repeat (first | refine AW.seq ?_ | refine AW.skip ?_ | refine dW ?_ | refine wG0 rfl rfl rfl rfl ?_)
      refine DG.effN _ (VE.call [] [.loc 55] rfl rfl rfl rfl rfl (f56t row.length (fun i => eV (row.getD i default)) (by simp only [maxLen]; omega) (by omega)) (fun _ _ h => h) rfl) rfl rfl rfl rfl ?_
      repeat (refine wG0 rfl rfl rfl rfl ?_)
      refine DG.effN _ (VE.call [.loc 55] [.loc 58] rfl rfl rfl rfl rfl (f139 row c a (by omega) (by simp only [maxLen]; omega)) (fun _ _ h => h) rfl) rfl rfl rfl rfl ?_
      repeat (first | refine wG0 rfl rfl rfl rfl ?_ | refine nG ?_)
      refine AW.weak (Weak.freezeN 8 (.loc 58) (fun q => eV ((row.eraseIdx a).getD q default)) rfl rfl rfl rfl (fun q hq => rfl) rfl) ?_
      refine AW.ret ?_
      refine ⟨[], _, _, rfl, rfl, ⟨?_, rfl⟩, rfl⟩
      show AOut.ret (.tup [.d (.sl 3 (row.length - 1) _), .d (eI 0)]) = _
      simp only [rowR, eVs, List.length_eraseIdx_of_lt (show a < row.length by omega)]
theorem f19er (l : List Tb) (c : Ch) (nn : Int) (row : List Vl) (hk : c.kind = 3) (hl : OkS l) (hc : OkC c) (he : ((findR (formR c) true (freshF (tabOf l c) c) l c).2.2 == 0) = false) : AF Tryz.prog 19 [.d (.agg [eTs l]), .d (eC c), .d (eI nn), .d (eVs row)] [] (fun o p => o = .ret (.tup [.d (eVs []), .d (eI (findR (formR c) true (freshF (tabOf l c) c) l c).2.2)]) ∧ p = []) := by
  have he' : (!((findR (formR c) true (freshF (tabOf l c) c) l c).2.2 == 0)) = true := by rw [he]; rfl
  refine AF.intro hT Tryz.func19 rfl (by kernel_rfl) (Nat.le_of_ble_eq_true rfl) ?_
  repeat (first | refine wA0 rfl rfl rfl rfl ?_ | refine AL.nil ?_ | refine AW.seq ?_ | refine AW.region ?_ | refine bA rfl rfl rfl rfl rfl rfl ?_)
  refine AL.call0 rfl rfl rfl (f51r l c hk hl hc) rfl rfl rfl ?_
  repeat (first | refine wA0 rfl rfl rfl rfl ?_ | refine AL.nil ?_ | refine AW.seq ?_ | refine AW.region ?_ | refine AW.block ?_ | refine sA rfl rfl rfl rfl rfl rfl rfl rfl rfl ?_ | refine bA rfl rfl rfl rfl rfl rfl ?_)
  refine AW.condT rfl he' ?_
  repeat (first | refine wA0 rfl rfl rfl rfl ?_ | refine AL.nil ?_ | refine AW.seq ?_ | refine AW.region ?_)
  refine AW.weak (Weak.nilSl 8 3 (fun q => eV (([] : List Vl).getD q default)) rfl) ?_
  refine AW.ret ?_
  exact ⟨[], _, _, rfl, rfl, ⟨rfl, rfl⟩, rfl⟩
theorem f19wr (l : List Tb) (c : Ch) (nn : Int) (row : List Vl) (ti : Nat) (a : Nat) (hk : c.kind = 3) (hl : OkS l) (hc : OkC c) (hfr : findR (formR c) true (freshF (tabOf l c) c) l c = ((ti : Int), (a : Int), 0)) (hti : ti < l.length) (hr : row.length ≤ 1000000) (ha : a < (l.getD ti default).attrs.length) : AF Tryz.prog 19 [.d (.agg [eTs l]), .d (eC c), .d (eI nn), .d (eVs row)] []
    (fun o p => o = .ret (.tup [.d (eVs (convO l ti nn row (some row)).1), .d (eI (convO l ti nn row (some row)).2)]) ∧ p = []) := by
  have h51 := f51r l c hk hl hc
  rw [hfr] at h51
  have hll := hl.len
  refine AF.intro hT Tryz.func19 rfl (by kernel_rfl) (Nat.le_of_ble_eq_true rfl) ?_
  repeat (first | refine wA0 rfl rfl rfl rfl ?_ | refine AL.nil ?_ | refine AW.seq ?_ | refine AW.region ?_ | refine bA rfl rfl rfl rfl rfl rfl ?_)
  refine AL.call0 rfl rfl rfl (h51) rfl rfl rfl ?_
  repeat (first | refine wA0 rfl rfl rfl rfl ?_ | refine AL.nil ?_ | refine AW.seq ?_ | refine AW.region ?_ | refine AW.block ?_ | refine sA rfl rfl rfl rfl rfl rfl rfl rfl rfl ?_ | refine bA rfl rfl rfl rfl rfl rfl ?_)
  refine AW.condF rfl rfl ?_
  repeat (first | refine wA0 rfl rfl rfl rfl ?_ | refine wA1 rfl rfl rfl rfl rfl ?_ | refine AW.seq ?_ | refine AW.region ?_)
  refine kA1 rfl rfl rfl rfl (fun hγ => f27 (l.getD nn.toNat default) row (by simp only [maxLen] ; omega)) rfl rfl rfl ?_
  repeat (first | refine wA0 rfl rfl rfl rfl ?_ | refine wA1 rfl rfl rfl rfl rfl ?_ | refine AL.nil ?_)
  refine AW.cond rfl (fun hb => ?_) (fun hb => ?_)
  · rw [convO_bad (ti := ti) (o := some row) hb]
    repeat (first | refine wA0 rfl rfl rfl rfl ?_ | refine AL.nil ?_ | refine AW.seq ?_ | refine AW.region ?_)
    refine AW.weak (Weak.nilSl 8 3 (fun q => eV (([] : List Vl).getD q default)) rfl) ?_
    refine AW.ret ?_
    exact ⟨[], _, _, rfl, rfl, ⟨rfl, rfl⟩, rfl⟩
  · obtain ⟨m, rfl, hm, hfit⟩ := convO_good hb
    repeat (first | refine wA0 rfl rfl rfl rfl ?_ | refine AL.nil ?_ | refine AW.seq ?_ | refine AW.region ?_)
    refine AW.cond rfl (fun hne => ?_) (fun hne => ?_)
    · have hne' : m ≠ ti := by
        intro e
        subst e
        simp at hne
      rw [convO_other (o := some row) hm hfit hne']
      repeat (first | refine wA0 rfl rfl rfl rfl ?_ | refine AW.seq ?_ | refine AW.region ?_)
      refine AL.effN _ (VE.call [] [.loc 51] rfl rfl rfl rfl rfl (f56t row.length (fun i => eV (row.getD i default)) (by simp only [maxLen]; omega) (by omega)) (fun _ _ h => h) rfl) rfl rfl rfl rfl rfl ?_
      repeat (first | refine wA0 rfl rfl rfl rfl ?_ | refine AL.nil ?_)
      refine AW.weak (Weak.freezeN 8 (.loc 51) (fun q => eV (row.getD q default)) rfl rfl rfl rfl (fun q hq => rfl) rfl) ?_
      refine AW.ret ?_
      exact ⟨[], _, _, rfl, rfl, ⟨rfl, rfl⟩, rfl⟩
    · obtain rfl : m = ti := by
        have : (!((m : Int) == (ti : Int))) = false := hne
        simp only [Bool.not_eq_false', beq_iff_eq] at this
        omega
      rw [convO_same (o := some row) hm hfit]
      have hlen := (fits_iff.1 hfit).1
      repeat (first | refine AW.seq ?_ | refine AW.skip ?_ | refine dW ?_ | refine wG0 rfl rfl rfl rfl ?_)
      refine DG.effN _ (VE.call [] [.loc 55] rfl rfl rfl rfl rfl (f56t row.length (fun i => eV (row.getD i default)) (by simp only [maxLen]; omega) (by omega)) (fun _ _ h => h) rfl) rfl rfl rfl rfl ?_
      repeat (refine wG0 rfl rfl rfl rfl ?_)
      refine DG.effN _ (VE.call [.loc 55] [] rfl rfl rfl rfl rfl (f144 row c a true) (fun _ _ h => h) rfl) rfl rfl rfl rfl ?_
      repeat (first | refine wG0 rfl rfl rfl rfl ?_ | refine nG ?_)
      refine AW.weak (Weak.freezeN 8 (.loc 55) (fun q => eV (row.getD q default)) rfl rfl rfl rfl (fun q hq => rfl) rfl) ?_
      refine AW.ret ?_
      exact ⟨[], _, _, rfl, rfl, ⟨rfl, rfl⟩, rfl⟩
theorem f19ec (l : List Tb) (c : Ch) (nn : Int) (row : List Vl) (hk : c.kind = 4) (hl : OkS l) (he : ((findR (formC c) true (checkC (tabOf l c) c (colOf l c).toNat) l c).2.2 == 0) = false) : AF Tryz.prog 19 [.d (.agg [eTs l]), .d (eC c), .d (eI nn), .d (eVs row)] [] (fun o p => o = .ret (.tup [.d (eVs []), .d (eI (findR (formC c) true (checkC (tabOf l c) c (colOf l c).toNat) l c).2.2)]) ∧ p = []) := by
  have he' : (!((findR (formC c) true (checkC (tabOf l c) c (colOf l c).toNat) l c).2.2 == 0)) = true := by rw [he]; rfl
  refine AF.intro hT Tryz.func19 rfl (by kernel_rfl) (Nat.le_of_ble_eq_true rfl) ?_
  repeat (first | refine wA0 rfl rfl rfl rfl ?_ | refine AL.nil ?_ | refine AW.seq ?_ | refine AW.region ?_ | refine bA rfl rfl rfl rfl rfl rfl ?_)
  refine AL.call0 rfl rfl rfl (f51c l c hk hl) rfl rfl rfl ?_
  repeat (first | refine wA0 rfl rfl rfl rfl ?_ | refine AL.nil ?_ | refine AW.seq ?_ | refine AW.region ?_ | refine AW.block ?_ | refine sA rfl rfl rfl rfl rfl rfl rfl rfl rfl ?_ | refine bA rfl rfl rfl rfl rfl rfl ?_)
  refine AW.condT rfl he' ?_
  repeat (first | refine wA0 rfl rfl rfl rfl ?_ | refine AL.nil ?_ | refine AW.seq ?_ | refine AW.region ?_)
  refine AW.weak (Weak.nilSl 8 3 (fun q => eV (([] : List Vl).getD q default)) rfl) ?_
  refine AW.ret ?_
  exact ⟨[], _, _, rfl, rfl, ⟨rfl, rfl⟩, rfl⟩
theorem f19wc (l : List Tb) (c : Ch) (nn : Int) (row : List Vl) (ti : Nat) (a : Nat) (hk : c.kind = 4) (hl : OkS l) (hfr : findR (formC c) true (checkC (tabOf l c) c (colOf l c).toNat) l c = ((ti : Int), (a : Int), 0)) (hti : ti < l.length) (hr : row.length ≤ 1000000) (ha : a < (l.getD ti default).attrs.length) : AF Tryz.prog 19 [.d (.agg [eTs l]), .d (eC c), .d (eI nn), .d (eVs row)] []
    (fun o p => o = .ret (.tup [.d (eVs (convO l ti nn row ((if (castF (row.getD a default) c.to).2 = 0 then some (rowC row c a) else none))).1), .d (eI (convO l ti nn row ((if (castF (row.getD a default) c.to).2 = 0 then some (rowC row c a) else none))).2)]) ∧ p = []) := by
  have h51 := f51c l c hk hl
  rw [hfr] at h51
  have hll := hl.len
  refine AF.intro hT Tryz.func19 rfl (by kernel_rfl) (Nat.le_of_ble_eq_true rfl) ?_
  repeat (first | refine wA0 rfl rfl rfl rfl ?_ | refine AL.nil ?_ | refine AW.seq ?_ | refine AW.region ?_ | refine bA rfl rfl rfl rfl rfl rfl ?_)
  refine AL.call0 rfl rfl rfl (h51) rfl rfl rfl ?_
  repeat (first | refine wA0 rfl rfl rfl rfl ?_ | refine AL.nil ?_ | refine AW.seq ?_ | refine AW.region ?_ | refine AW.block ?_ | refine sA rfl rfl rfl rfl rfl rfl rfl rfl rfl ?_ | refine bA rfl rfl rfl rfl rfl rfl ?_)
  refine AW.condF rfl rfl ?_
  repeat (first | refine wA0 rfl rfl rfl rfl ?_ | refine wA1 rfl rfl rfl rfl rfl ?_ | refine AW.seq ?_ | refine AW.region ?_)
  refine kA1 rfl rfl rfl rfl (fun hγ => f27 (l.getD nn.toNat default) row (by simp only [maxLen] ; omega)) rfl rfl rfl ?_
  repeat (first | refine wA0 rfl rfl rfl rfl ?_ | refine wA1 rfl rfl rfl rfl rfl ?_ | refine AL.nil ?_)
  refine AW.cond rfl (fun hb => ?_) (fun hb => ?_)
  · rw [convO_bad (ti := ti) (o := (if (castF (row.getD a default) c.to).2 = 0 then some (rowC row c a) else none)) hb]
    repeat (first | refine wA0 rfl rfl rfl rfl ?_ | refine AL.nil ?_ | refine AW.seq ?_ | refine AW.region ?_)
    refine AW.weak (Weak.nilSl 8 3 (fun q => eV (([] : List Vl).getD q default)) rfl) ?_
    refine AW.ret ?_
    exact ⟨[], _, _, rfl, rfl, ⟨rfl, rfl⟩, rfl⟩
  · obtain ⟨m, rfl, hm, hfit⟩ := convO_good hb
    repeat (first | refine wA0 rfl rfl rfl rfl ?_ | refine AL.nil ?_ | refine AW.seq ?_ | refine AW.region ?_)
    refine AW.cond rfl (fun hne => ?_) (fun hne => ?_)
    · have hne' : m ≠ ti := by
        intro e
        subst e
        simp at hne
      rw [convO_other (o := (if (castF (row.getD a default) c.to).2 = 0 then some (rowC row c a) else none)) hm hfit hne']
      repeat (first | refine wA0 rfl rfl rfl rfl ?_ | refine AW.seq ?_ | refine AW.region ?_)
      refine AL.effN _ (VE.call [] [.loc 51] rfl rfl rfl rfl rfl (f56t row.length (fun i => eV (row.getD i default)) (by simp only [maxLen]; omega) (by omega)) (fun _ _ h => h) rfl) rfl rfl rfl rfl rfl ?_
      repeat (first | refine wA0 rfl rfl rfl rfl ?_ | refine AL.nil ?_)
      refine AW.weak (Weak.freezeN 8 (.loc 51) (fun q => eV (row.getD q default)) rfl rfl rfl rfl (fun q hq => rfl) rfl) ?_
      refine AW.ret ?_
      exact ⟨[], _, _, rfl, rfl, ⟨rfl, rfl⟩, rfl⟩
    · obtain rfl : m = ti := by
        have : (!((m : Int) == (ti : Int))) = false := hne
        simp only [Bool.not_eq_false', beq_iff_eq] at this
        omega
      rw [convO_same (o := (if (castF (row.getD a default) c.to).2 = 0 then some (rowC row c a) else none)) hm hfit]
      have hlen := (fits_iff.1 hfit).1
      repeat (first | refine AW.seq ?_ | refine AW.skip ?_ | refine dW ?_ | refine wG0 rfl rfl rfl rfl ?_)
      refine DG.effN _ (VE.call [] [.loc 55] rfl rfl rfl rfl rfl (f56t row.length (fun i => eV (row.getD i default)) (by simp only [maxLen]; omega) (by omega)) (fun _ _ h => h) rfl) rfl rfl rfl rfl ?_
      repeat (refine wG0 rfl rfl rfl rfl ?_)
      cases he : (castF (row.getD a default) c.to).2 == 0 with
      | true =>
        refine DG.effN _ (VE.call [.loc 55] [] rfl rfl rfl rfl rfl (f147x row c a (by omega) he) (fun _ _ h => h) rfl) rfl rfl rfl rfl ?_
        repeat (first | refine wG0 rfl rfl rfl rfl ?_ | refine nG ?_)
        refine AW.weak (Weak.freezeN 8 (.loc 55) (fun q => eV ((rowC row c a).getD q default)) rfl rfl rfl rfl (fun q hq => rfl) rfl) ?_
        refine AW.ret ?_
        refine ⟨[], _, _, rfl, rfl, ⟨?_, rfl⟩, rfl⟩
        show AOut.ret (.tup [.d (.sl 3 row.length _), .d (eI 0)]) = _
        rw [if_pos (by simpa using he)]
        simp only [rowR, eVs, rowC, List.length_set]
      | false =>
        refine DG.effN _ (VE.call [.loc 55] [] rfl rfl rfl rfl rfl (f147y row c a (by omega) he) (fun _ _ h => h) rfl) rfl rfl rfl rfl ?_
        repeat (first | refine wG0 rfl rfl rfl rfl ?_ | refine nG ?_)
        refine AW.weak (Weak.nilSl 8 3 (fun q => eV (([] : List Vl).getD q default)) rfl) ?_
        refine AW.ret ?_
        refine ⟨[], _, _, rfl, rfl, ⟨?_, rfl⟩, rfl⟩
        rw [if_neg (by simpa using he)]
        rfl
theorem f19x (l : List Tb) (c : Ch) (nn : Int) (row : List Vl) (n1 : (c.kind == 1) = false) (n2 : (c.kind == 2) = false) (n3 : (c.kind == 3) = false) (n4 : (c.kind == 4) = false) (hl : OkS l) : AF Tryz.prog 19 [.d (.agg [eTs l]), .d (eC c), .d (eI nn), .d (eVs row)] [] (fun o p => o = .ret (.tup [.d (eVs []), .d (eI 1)]) ∧ p = []) := by
  refine AF.intro hT Tryz.func19 rfl (by kernel_rfl) (Nat.le_of_ble_eq_true rfl) ?_
  repeat (first | refine wA0 rfl rfl rfl rfl ?_ | refine AL.nil ?_ | refine AW.seq ?_ | refine AW.region ?_ | refine bA rfl rfl rfl rfl rfl rfl ?_)
  refine AL.call0 rfl rfl rfl (f51x l c n1 n2 n3 n4 hl) rfl rfl rfl ?_
  repeat (first | refine wA0 rfl rfl rfl rfl ?_ | refine AL.nil ?_ | refine AW.seq ?_ | refine AW.region ?_ | refine AW.block ?_ | refine sA rfl rfl rfl rfl rfl rfl rfl rfl rfl ?_ | refine bA rfl rfl rfl rfl rfl rfl ?_)
  refine AW.condT rfl rfl ?_
  repeat (first | refine wA0 rfl rfl rfl rfl ?_ | refine AL.nil ?_ | refine AW.seq ?_ | refine AW.region ?_)
  refine AW.weak (Weak.nilSl 8 3 (fun q => eV (([] : List Vl).getD q default)) rfl) ?_
  refine AW.ret ?_
  exact ⟨[], _, _, rfl, rfl, ⟨rfl, rfl⟩, rfl⟩
/-! ### schema.Apply and schema.Convert by one function each -/
theorem findR_errX {form named : Bool} {ck : Int} {l : List Tb} {c : Ch} (hf : formX c = form) (hck : findF l c.table < 0 ∨ errT (tabOf l c) c = (bif (bif named then decide (colOf l c < 0) else false) then 11 else ck)) : (findR form named ck l c).2.2 = errX l c := by
  unfold findR errX
  rw [hf]
  cases form with
  | false => rfl
  | true =>
    cases h2 : validF l with
    | false => rfl
    | true =>
      by_cases h3 : findF l c.table < 0
      · simp [h3]
      · rcases hck with h | h
        · exact absurd h h3
        · rw [h]
          simp only [h3, decide_false, cond_false, Bool.not_true, if_false]
          cases (bif named then decide (colOf l c < 0) else false) <;> rfl
theorem errX_a {l : List Tb} {c : Ch} (hk : c.kind = 1) : (findR (formA c) false (checkA (tabOf l c) c) l c).2.2 = errX l c :=
  findR_errX (by simp [formX, hk]) (.inr (by simp [errT, hk]))
theorem errX_d {l : List Tb} {c : Ch} (hk : c.kind = 2) : (findR (formD c) true (checkD (tabOf l c) (colOf l c)) l c).2.2 = errX l c :=
  findR_errX (by simp [formX, hk]) (.inr (by
    by_cases h : columnF (tabOf l c).attrs c.attr < 0 <;> simp [errT, hk, colOf, h]))
theorem errX_r {l : List Tb} {c : Ch} (hk : c.kind = 3) : (findR (formR c) true (freshF (tabOf l c) c) l c).2.2 = errX l c :=
  findR_errX (by simp [formX, hk]) (.inr (by
    by_cases h : columnF (tabOf l c).attrs c.attr < 0 <;> simp [errT, hk, colOf, h]))
theorem errX_c {l : List Tb} {c : Ch} (hk : c.kind = 4) : (findR (formC c) true (checkC (tabOf l c) c (colOf l c).toNat) l c).2.2 = errX l c :=
  findR_errX (by simp [formX, hk]) (.inr (by
    by_cases h : columnF (tabOf l c).attrs c.attr < 0 <;> simp [errT, hk, colOf, colX, h]))
theorem errX_x {l : List Tb} {c : Ch} (k1 : c.kind ≠ 1) (k2 : c.kind ≠ 2) (k3 : c.kind ≠ 3) (k4 : c.kind ≠ 4) : errX l c = 1 := by
  simp [errX, formX, k1, k2, k3, k4]
theorem f17X (l : List Tb) (c : Ch) (hl : OkS l) (hc : OkC c) (hB : OkB l) : AF Tryz.prog 17 [.d (.agg [eTs l]), .d (eC c)] [] (fun o p => o = .ret (.tup [.d (.agg [eTs (applyX l c).1]), .d (eI (applyX l c).2)]) ∧ p = []) := by
  by_cases h0 : errX l c = 0
  · obtain ⟨h1, h2, ⟨ti, e, hti, ht⟩, h4⟩ := errX_zero h0
    have hg := Chg.of h1 h4
    rw [applyX_ok h0 e]
    rw [ht] at hg h4
    by_cases k1 : c.kind = 1
    · have hz := findR_ok (show ((findR (formA c) false (checkA (tabOf l c) c) l c).2.2 == 0) = true by rw [errX_a k1, h0]; rfl)
      have := f17oa l c k1 hl hc hB ti _ hti (hz.2.2.2.2.2.trans (by rw [e]))
      simpa [tabX, k1] using this
    · have hcl := hg.col k1
      have hcol : colOf l c = (colX (l.getD ti default) c : Int) := by rw [colOf, ht]; exact hcl.1
      by_cases k2 : c.kind = 2
      · have hz := findR_ok (show ((findR (formD c) true (checkD (tabOf l c) (colOf l c)) l c).2.2 == 0) = true by rw [errX_d k2, h0]; rfl)
        have := f17od l c k2 hl hB ti _ hti hcl.2 (fun k hk => by
          have hr := h2.right _ (mem_getD (α := Tb) hti)
          have := (hr.keys k hk).2
          have := hr.max
          omega) (hz.2.2.2.2.2.trans (by rw [e, hcol]))
        simpa [tabX, k2] using this
      · by_cases k3 : c.kind = 3
        · have hz := findR_ok (show ((findR (formR c) true (freshF (tabOf l c) c) l c).2.2 == 0) = true by rw [errX_r k3, h0]; rfl)
          have := f17or l c k3 hl hc hB ti _ hti hcl.2 (hz.2.2.2.2.2.trans (by rw [e, hcol]))
          simpa [tabX, k3] using this
        · by_cases k4 : c.kind = 4
          · have hz := findR_ok (show ((findR (formC c) true (checkC (tabOf l c) c (colOf l c).toNat) l c).2.2 == 0) = true by rw [errX_c k4, h0]; rfl)
            have := f17oc l c k4 hl hB ti _ hti hcl.2 (hz.2.2.2.2.2.trans (by rw [e, hcol]))
            simpa [tabX, k4] using this
          · rw [errX_x k1 k2 k3 k4] at h0
            exact absurd h0 (by decide)
  · rw [applyX_err h0]
    by_cases k1 : c.kind = 1
    · have := f17ea l c k1 hl hc (by rw [errX_a k1]; simpa using h0)
      rwa [errX_a k1] at this
    · by_cases k2 : c.kind = 2
      · have := f17ed l c k2 hl (by rw [errX_d k2]; simpa using h0)
        rwa [errX_d k2] at this
      · by_cases k3 : c.kind = 3
        · have := f17er l c k3 hl hc (by rw [errX_r k3]; simpa using h0)
          rwa [errX_r k3] at this
        · by_cases k4 : c.kind = 4
          · have := f17ec l c k4 hl (by rw [errX_c k4]; simpa using h0)
            rwa [errX_c k4] at this
          · have := f17x l c (by simpa using k1) (by simpa using k2) (by simpa using k3) (by simpa using k4) hl
            rwa [errX_x k1 k2 k3 k4]
theorem convX_eq {l : List Tb} {c : Ch} {ti : Nat} {n : Int} {row : List Vl} (h : errX l c = 0) (hti : findF l c.table = ti) : convX l c n row = convO l ti n row (rowX (l.getD ti default) c row) := by
  unfold convX convO
  rw [if_pos h, hti, tabOf, hti, Int.toNat_natCast]
theorem f19X (l : List Tb) (c : Ch) (n : Int) (row : List Vl) (hl : OkS l) (hc : OkC c) (hr : row.length ≤ 1000000) : AF Tryz.prog 19 [.d (.agg [eTs l]), .d (eC c), .d (eI n), .d (eVs row)] [] (fun o p => o = .ret (.tup [.d (eVs (convX l c n row).1), .d (eI (convX l c n row).2)]) ∧ p = []) := by
  by_cases h0 : errX l c = 0
  · obtain ⟨h1, h2, ⟨ti, e, hti, ht⟩, h4⟩ := errX_zero h0
    have hg := Chg.of h1 h4
    rw [convX_eq h0 e]
    rw [ht] at hg h4
    by_cases k1 : c.kind = 1
    · have hz := findR_ok (show ((findR (formA c) false (checkA (tabOf l c) c) l c).2.2 == 0) = true by rw [errX_a k1, h0]; rfl)
      have := f19wa l c n row ti _ k1 hl hc (hz.2.2.2.2.2.trans (by rw [e])) hti hr
      simpa [rowX, k1] using this
    · have hcl := hg.col k1
      have hcol : colOf l c = (colX (l.getD ti default) c : Int) := by rw [colOf, ht]; exact hcl.1
      by_cases k2 : c.kind = 2
      · have hz := findR_ok (show ((findR (formD c) true (checkD (tabOf l c) (colOf l c)) l c).2.2 == 0) = true by rw [errX_d k2, h0]; rfl)
        have := f19wd l c n row ti _ k2 hl (hz.2.2.2.2.2.trans (by rw [e, hcol])) hti hr hcl.2
        simpa [rowX, k2] using this
      · by_cases k3 : c.kind = 3
        · have hz := findR_ok (show ((findR (formR c) true (freshF (tabOf l c) c) l c).2.2 == 0) = true by rw [errX_r k3, h0]; rfl)
          have := f19wr l c n row ti _ k3 hl hc (hz.2.2.2.2.2.trans (by rw [e, hcol])) hti hr hcl.2
          simpa [rowX, k3] using this
        · by_cases k4 : c.kind = 4
          · have hz := findR_ok (show ((findR (formC c) true (checkC (tabOf l c) c (colOf l c).toNat) l c).2.2 == 0) = true by rw [errX_c k4, h0]; rfl)
            have := f19wc l c n row ti _ k4 hl (hz.2.2.2.2.2.trans (by rw [e, hcol])) hti hr hcl.2
            simpa [rowX, k4] using this
          · rw [errX_x k1 k2 k3 k4] at h0
            exact absurd h0 (by decide)
  · rw [convX_err h0]
    by_cases k1 : c.kind = 1
    · have := f19ea l c n row k1 hl hc (by rw [errX_a k1]; simpa using h0)
      rwa [errX_a k1] at this
    · by_cases k2 : c.kind = 2
      · have := f19ed l c n row k2 hl (by rw [errX_d k2]; simpa using h0)
        rwa [errX_d k2] at this
      · by_cases k3 : c.kind = 3
        · have := f19er l c n row k3 hl hc (by rw [errX_r k3]; simpa using h0)
          rwa [errX_r k3] at this
        · by_cases k4 : c.kind = 4
          · have := f19ec l c n row k4 hl (by rw [errX_c k4]; simpa using h0)
            rwa [errX_c k4] at this
          · have := f19x l c n row (by simpa using k1) (by simpa using k2) (by simpa using k3) (by simpa using k4) hl
            rwa [errX_x k1 k2 k3 k4]
end Go.Pv
