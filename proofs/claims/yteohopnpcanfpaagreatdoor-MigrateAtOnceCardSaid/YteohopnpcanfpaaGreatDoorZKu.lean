/- Part of the proofs over this seat: Lw8 Lw9. -/
import Derived.Test.YteohopnpcanfpaaGreatDoorZKt
set_option maxRecDepth 100000
namespace Go.Pv
open Go.RowKit Go.Proofs

/-! ### schema.Apply, schema.Convert as functions -/
def colX (t : Tb) (c : Ch) : Nat := (columnF t.attrs c.attr).toNat
def formX (c : Ch) : Bool := if c.kind = 1 then formA c else if c.kind = 2 then formD c else if c.kind = 3 then formR c else if c.kind = 4 then formC c else false
def errT (t : Tb) (c : Ch) : Int :=
  if c.kind = 1 then checkA t c
  else if columnF t.attrs c.attr < 0 then 11
  else if c.kind = 2 then checkD t (columnF t.attrs c.attr)
  else if c.kind = 3 then freshF t c
  else checkC t c (colX t c)
def errX (l : List Tb) (c : Ch) : Int := if formX c = false then 1 else if validF l = false then 1 else if findF l c.table < 0 then 11 else errT (tabOf l c) c
def tabX (t : Tb) (c : Ch) : Tb := if c.kind = 1 then addT t c else if c.kind = 2 then drpT t (colX t c) else if c.kind = 3 then renT t c (colX t c) else casT t c (colX t c)
def applyX (l : List Tb) (c : Ch) : List Tb × Int := if errX l c = 0 then (l.set (findF l c.table).toNat (tabX (tabOf l c) c), 0) else ([], errX l c)
def rowX (t : Tb) (c : Ch) (row : List Vl) : Option (List Vl) :=
  if c.kind = 1 then some (row ++ [c.dflt]) else if c.kind = 2 then some (row.eraseIdx (colX t c)) else if c.kind = 3 then some row
  else if (castF (row.getD (colX t c) default) c.to).2 = 0 then some (rowC row c (colX t c)) else none
def rowR (o : Option (List Vl)) : List Vl × Int := match o with
  | some r => (r, 0)
  | none => ([], 15)
def convX (l : List Tb) (c : Ch) (n : Int) (row : List Vl) : List Vl × Int :=
  if errX l c = 0 then
    (if n < 0 ∨ n ≥ (l.length : Int) ∨ fitsF (l.getD n.toNat default) row = false then ([], 1) else if n = findF l c.table then rowR (rowX (tabOf l c) c row) else (row, 0))
  else ([], errX l c)

theorem errX_zero {l : List Tb} {c : Ch} (h : errX l c = 0) : formX c = true ∧ ValidP l ∧ (∃ ti : Nat, findF l c.table = ti ∧ ti < l.length ∧ tabOf l c = l.getD ti default) ∧ errT (tabOf l c) c = 0 := by
  unfold errX at h
  split at h
  · exact absurd h (by decide)
  · rename_i h1
    split at h
    · exact absurd h (by decide)
    · rename_i h2
      split at h
      · exact absurd h (by decide)
      · rename_i h3
        have hf := findF_lt (l := l) (x := c.table) h3
        exact ⟨by simpa using h1, (validF_iff l).1 (by simpa using h2), ⟨(findF l c.table).toNat, by omega, by omega, rfl⟩, h⟩
theorem errX_of {l : List Tb} {c : Ch} {ti : Nat} (hf : formX c = true) (hv : ValidP l) (hti : findF l c.table = ti) (h : errT (l.getD ti default) c = 0) : errX l c = 0 := by
  unfold errX
  rw [if_neg (by simp [hf]), if_neg (by simp [(validF_iff l).2 hv]), if_neg (by omega), tabOf, hti, Int.toNat_natCast]
  exact h
theorem Chg.of {t : Tb} {c : Ch} (hf : formX c = true) (h : errT t c = 0) : Chg t c (tabX t c) := by
  unfold formX at hf
  unfold errT at h
  unfold tabX
  by_cases k1 : c.kind = 1
  · simp only [if_pos k1] at hf h ⊢
    exact .add k1 hf h
  · simp only [if_neg k1] at hf h ⊢
    split at h
    · exact absurd h (by decide)
    · rename_i hn
      obtain ⟨a, ea, ha⟩ := columnF_nat (l := t.attrs) (x := c.attr) (by omega)
      have hc : colX t c = a := by rw [colX, ea, Int.toNat_natCast]
      rw [ea, hc] at h
      rw [hc]
      by_cases k2 : c.kind = 2
      · simp only [if_pos k2] at hf h ⊢
        exact .drop a k2 hf ea ha h
      · simp only [if_neg k2] at hf h ⊢
        by_cases k3 : c.kind = 3
        · simp only [if_pos k3] at hf h ⊢
          exact .ren a k3 hf ea ha h
        · simp only [if_neg k3] at hf h ⊢
          by_cases k4 : c.kind = 4
          · simp only [if_pos k4] at hf
            exact .cast a k4 hf ea ha h
          · simp only [if_neg k4] at hf
            cases hf
theorem Chg.back {t u : Tb} {c : Ch} (h : Chg t c u) : formX c = true ∧ errT t c = 0 ∧ u = tabX t c := by
  cases h with
  | add hk hf hc => simp [formX, errT, tabX, hk, hf, hc]
  | drop a hk hf he ha hc => simp [formX, errT, tabX, colX, hk, hf, hc, he]
  | ren a hk hf he ha hc => simp [formX, errT, tabX, colX, hk, hf, hc, he]
  | cast a hk hf he ha hc => simp [formX, errT, tabX, colX, hk, hf, hc, he]
theorem Chg.col {t u : Tb} {c : Ch} (h : Chg t c u) (hk : c.kind ≠ 1) : columnF t.attrs c.attr = (colX t c : Int) ∧ colX t c < t.attrs.length := by
  cases h with
  | add hk' hf hc => exact absurd hk' hk
  | drop a hk hf he ha hc => rw [colX, he]; exact ⟨rfl, ha⟩
  | ren a hk hf he ha hc => rw [colX, he]; exact ⟨rfl, ha⟩
  | cast a hk hf he ha hc => rw [colX, he]; exact ⟨rfl, ha⟩

/-! ### Rows -/
theorem fit_iff {k : Int} {v : Vl} : fitF k v = true ↔ vvalid v = true ∧ (v.kind = 0 ∨ v.kind = k) := by
  unfold fitF
  cases h : vvalid v with
  | false => simp
  | true =>
    by_cases h0 : v.kind = 0
    · simp [h0]
    · have : (v.kind == 0) = false := by simpa using h0
      simp [this, h0]
theorem fits_iff {t : Tb} {row : List Vl} : fitsF t row = true ↔ row.length = t.attrs.length ∧ ∀ i, i < row.length → fitF (t.attrs.getD i default).kind (row.getD i default) = true := by
  unfold fitsF
  by_cases h : row.length = t.attrs.length
  · have e : (!((row.length : Int) == (t.attrs.length : Int))) = false := by rw [h]; simp
    rw [e, cond_false, List.all_eq_true]
    exact ⟨fun hh => ⟨h, fun i hi => hh i (List.mem_range.2 hi)⟩, fun hh i hi => hh.2 i (List.mem_range.1 hi)⟩
  · have e : (!((row.length : Int) == (t.attrs.length : Int))) = true := by
      rw [Bool.not_eq_true', beq_eq_false_iff_ne]; omega
    rw [e, cond_true]
    exact Iff.intro (fun hh => by cases hh) (fun hh => absurd hh.1 h)
theorem itoa_size {n : Int} (h0 : -1000000000 ≤ n) (h1 : n ≤ 1000000000) : (itoaF n).size ≤ 21 := by
  have := Lib.itoa_length_le n (by omega) (by omega)
  simpa [itoaF, ByteArray.size] using this
theorem text_size {v : Vl} (h : vvalid v = true) : (textF v).size ≤ 22 := by
  have hn := vvalid_n h
  have hi := itoa_size hn.1 hn.2
  unfold textF
  rw [h, Bool.not_true, cond_false]
  cases v.kind == 2 with
  | true => rw [cond_true]; omega
  | false =>
    rw [cond_false]
    cases v.kind == 3 with
    | true =>
      rw [cond_true, ByteArray.size_append]
      have : ({ data := #[64] } : ByteArray).size = 1 := rfl
      omega
    | false =>
      rw [cond_false]
      cases v.kind == 4 with
      | true => rw [cond_true]; cases v.n == 1 <;> decide
      | false => rw [cond_false]; decide
theorem valid_text {s : Bs} (h : s.size ≤ 200) : vvalid ⟨1, 0, s⟩ = true := by
  have : decide ((s.size : Int) > 200) = false := decide_eq_false (by omega)
  simp [vvalid, this]
theorem parse_valid {s : Bs} (h : (parseF s).2 = 0) : vvalid (parseF s).1 = true := by
  unfold parseF at h ⊢
  cases h1 : (bif !(parse0F s).2 then true else !vvalid (parse0F s).1) with
  | true => rw [h1, cond_true] at h; exact absurd h (by decide)
  | false =>
    rw [cond_false]
    cases h2 : (parse0F s).2 with
    | false => rw [h2] at h1; cases h1
    | true => rw [h2] at h1; simpa using h1
theorem cast_fit {v : Vl} {k : Int} (h : (castF v k).2 = 0) : fitF k (castF v k).1 = true := by
  unfold castF at h ⊢
  cases h1 : (bif bif !vvalid v then true else decide (k < 1) then true else decide (k > 4)) with
  | true => rw [h1, cond_true] at h; exact absurd h (by decide)
  | false =>
    have hv : vvalid v = true := by
      cases hv : vvalid v with
      | true => rfl
      | false => rw [hv] at h1; cases h1
    rw [h1, cond_false] at h
    rw [cond_false]
    cases h2 : (bif v.kind == k then true else v.kind == 0) with
    | true =>
      rw [cond_true]
      rw [fit_iff]
      refine ⟨hv, ?_⟩
      cases h3 : v.kind == k with
      | true => right; simpa using h3
      | false => rw [h3, cond_false] at h2; left; simpa using h2
    | false =>
      rw [h2, cond_false] at h
      rw [cond_false]
      cases h3 : k == 1 with
      | true =>
        rw [cond_true]
        have hk : k = 1 := by simpa using h3
        subst hk
        have := text_size hv
        exact fit_iff.2 ⟨valid_text (by omega), .inr rfl⟩
      | false =>
        rw [h3, cond_false] at h
        rw [cond_false]
        cases h4 : v.kind == 1 with
        | true =>
          rw [h4, cond_true] at h
          rw [cond_true]
          cases h5 : (bif (parseF v.text).2 == 0 then (parseF v.text).1.kind == k else false) with
          | false => rw [h5, cond_false] at h; exact absurd h (by decide)
          | true =>
            rw [cond_true]
            cases h6 : (parseF v.text).2 == 0 with
            | false => rw [h6] at h5; cases h5
            | true =>
              rw [h6, cond_true] at h5
              exact fit_iff.2 ⟨parse_valid (by simpa using h6), .inr (by simpa using h5)⟩
        | false =>
          rw [h4, cond_false] at h
          rw [cond_false]
          cases h5 : (bif v.kind == 4 then true else k == 4) with
          | true => rw [h5, cond_true] at h; exact absurd h (by decide)
          | false =>
            rw [h5, cond_false] at h
            rw [cond_false]
            cases h6 : vvalid ⟨k, v.n, v.text⟩ with
            | false => rw [h6] at h; exact absurd h (by simp)
            | true => exact fit_iff.2 ⟨h6, .inr rfl⟩
theorem typed_fit {c : Ch} (h : typedF c = true) : fitF c.to c.dflt = true := by
  unfold typedF at h
  cases h1 : (bif decide (c.to ≥ 1) then decide (c.to ≤ 4) else false) with
  | false => rw [h1] at h; cases h
  | true => rw [h1] at h; exact h
theorem checkA_typed {t : Tb} {c : Ch} (h : checkA t c = 0) : typedF c = true := by
  unfold checkA at h
  cases h1 : typedF c with
  | true => rfl
  | false => rw [h1] at h; exact absurd h (by simp)
theorem gD {α : Type} [Inhabited α] {l : List α} {i : Nat} (h : i < l.length) : l.getD i default = l[i] := by simp [List.getD_eq_getElem?_getD, h]
/-- The row of a changed table fits it; what stays is the same, but for the value that is cast. -/
theorem Chg.row {t u : Tb} {c : Ch} (h : Chg t c u) {row x : List Vl} (hf : fitsF t row = true) (hx : rowX t c row = some x) : fitsF u x = true ∧
    ∀ i, i < row.length → 0 ≤ movedF t c i → ∃ k : Nat, movedF t c i = k ∧ k < x.length ∧ (x.getD k default = row.getD i default ∨ (c.kind = 4 ∧ columnF t.attrs c.attr = i)) := by
  obtain ⟨hl, hf⟩ := fits_iff.1 hf
  cases h with
  | add hk hfm hc =>
    simp only [rowX, hk, if_true, Option.some.injEq] at hx
    subst hx
    refine ⟨fits_iff.2 ⟨by simp [addT, hl], fun i hi => ?_⟩, fun i hi hm => ⟨i, moved_same (by omega), by simp; omega, .inl (by simp [List.getD_eq_getElem?_getD, hi, List.getElem?_append_left])⟩⟩
    rcases Nat.lt_or_ge i row.length with h1 | h1
    · have e1 : (row ++ [c.dflt]).getD i default = row.getD i default := by simp [List.getD_eq_getElem?_getD, h1, List.getElem?_append_left]
      have e2 : (addT t c).attrs.getD i default = t.attrs.getD i default := by
        have : i < t.attrs.length := by omega
        simp [addT, List.getD_eq_getElem?_getD, this, List.getElem?_append_left]
      rw [e1, e2]
      exact hf i h1
    · have hi' : i = row.length := by
        rw [List.length_append, List.length_singleton] at hi
        omega
      subst hi'
      have e1 : (row ++ [c.dflt]).getD row.length default = c.dflt := by simp [List.getD_eq_getElem?_getD]
      have e2 : (addT t c).attrs.getD row.length default = newAt c := by
        rw [hl]
        simp [addT, List.getD_eq_getElem?_getD]
      rw [e1, e2]
      exact typed_fit (checkA_typed hc)
  | drop a hk hfm he ha hc =>
    have hcx : colX t c = a := by rw [colX, he, Int.toNat_natCast]
    simp only [rowX, hk, hcx, if_true, Option.some.injEq, show ((2 : Int) = 1) = False by simp, if_false] at hx
    subst hx
    have hlx : (row.eraseIdx a).length = row.length - 1 := by rw [List.length_eraseIdx_of_lt (by omega)]
    have g1 : ∀ {i}, i < a → (row.eraseIdx a).getD i default = row.getD i default := fun h => by simp [List.getD_eq_getElem?_getD, List.getElem?_eraseIdx, h]
    have g2 : ∀ {i}, a ≤ i → (row.eraseIdx a).getD i default = row.getD (i + 1) default := fun h => by simp [List.getD_eq_getElem?_getD, List.getElem?_eraseIdx, Nat.not_lt.2 h]
    refine ⟨fits_iff.2 ⟨by simp only [drpT]; rw [hlx, List.length_eraseIdx_of_lt ha, hl], fun i hi => ?_⟩, fun i hi hm => ?_⟩
    · rw [hlx] at hi
      show fitF ((t.attrs.eraseIdx a).getD i default).kind _ = true
      rcases Nat.lt_or_ge i a with h1 | h1
      · rw [getD_erase_lt h1, g1 h1]
        exact hf i (by omega)
      · rw [getD_erase_ge h1, g2 h1]
        exact hf (i + 1) (by omega)
    · rw [moved_drop hk he] at hm ⊢
      by_cases h1 : (i : Int) = a
      · rw [if_pos h1] at hm; omega
      · rw [if_neg h1] at hm ⊢
        by_cases h2 : (i : Int) > a
        · rw [if_pos h2]
          refine ⟨i - 1, by omega, by omega, .inl ?_⟩
          rw [g2 (by omega)]
          congr 1; omega
        · rw [if_neg h2]
          exact ⟨i, rfl, by omega, .inl (g1 (by omega))⟩
  | ren a hk hfm he ha hc =>
    simp only [rowX, hk, if_true, Option.some.injEq, show ((3 : Int) = 1) = False by simp, show ((3 : Int) = 2) = False by simp, if_false] at hx
    subst hx
    refine ⟨fits_iff.2 ⟨by simpa [renT] using hl, fun i hi => ?_⟩, fun i hi hm => ⟨i, moved_same (by omega), hi, .inl rfl⟩⟩
    by_cases h1 : i = a
    · subst h1
      have : (renT t c i).attrs.getD i default = renAt (t.attrs.getD i default) c.name := by simp [renT, List.getD_eq_getElem?_getD, ha]
      rw [this]
      exact hf i hi
    · have : (renT t c a).attrs.getD i default = t.attrs.getD i default := by
        have h1' : ¬ a = i := fun e => h1 e.symm
        simp [renT, List.getD_eq_getElem?_getD, h1']
      rw [this]
      exact hf i hi
  | cast a hk hfm he ha hc =>
    have hcx : colX t c = a := by rw [colX, he, Int.toNat_natCast]
    simp only [rowX, hk, hcx, show ((4 : Int) = 1) = False by simp, show ((4 : Int) = 2) = False by simp, show ((4 : Int) = 3) = False by simp, if_false] at hx
    split at hx
    · rename_i h0
      simp only [Option.some.injEq] at hx
      subst hx
      have hlx : (rowC row c a).length = row.length := by simp [rowC]
      have har : a < row.length := by omega
      have g1 : (rowC row c a).getD a default = (castF (row.getD a default) c.to).1 := by simp [rowC, List.getD_eq_getElem?_getD, har]
      have g2 : ∀ {i}, i ≠ a → (rowC row c a).getD i default = row.getD i default := fun {i} h => by
        have h1' : ¬ a = i := fun e => h e.symm
        simp [rowC, List.getD_eq_getElem?_getD, h1']
      refine ⟨fits_iff.2 ⟨by simpa [casT, hlx] using hl, fun i hi => ?_⟩, fun i hi hm => ⟨i, moved_same (by omega), by omega, ?_⟩⟩
      · rw [hlx] at hi
        by_cases h1 : i = a
        · subst h1
          have : (casT t c i).attrs.getD i default = casAt (t.attrs.getD i default) c := by simp [casT, List.getD_eq_getElem?_getD, ha]
          rw [this, g1]
          exact cast_fit h0
        · have : (casT t c a).attrs.getD i default = t.attrs.getD i default := by
            have h1' : ¬ a = i := fun e => h1 e.symm
            simp [casT, List.getD_eq_getElem?_getD, h1']
          rw [this, g2 h1]
          exact hf i hi
      · by_cases h1 : i = a
        · right; exact ⟨hk, by rw [he, h1]⟩
        · left; exact g2 h1
    · cases hx
theorem Chg.row_none {t u : Tb} {c : Ch} (h : Chg t c u) {row : List Vl} (hx : rowX t c row = none) : c.kind = 4 ∧ columnF t.attrs c.attr = (colX t c : Int) ∧ colX t c < t.attrs.length ∧ (castF (row.getD (colX t c) default) c.to).2 ≠ 0 := by
  cases h with
  | add hk hfm hc => simp [rowX, hk] at hx
  | drop a hk hfm he ha hc => simp [rowX, hk] at hx
  | ren a hk hfm he ha hc => simp [rowX, hk] at hx
  | cast a hk hfm he ha hc =>
    have hcx : colX t c = a := by rw [colX, he, Int.toNat_natCast]
    simp only [rowX, hk, show ((4 : Int) = 1) = False by simp, show ((4 : Int) = 2) = False by simp, show ((4 : Int) = 3) = False by simp, if_false] at hx
    split at hx
    · cases hx
    · rename_i h0
      exact ⟨hk, by rw [he, hcx], by omega, h0⟩
/-- The tables of a valid schema have names of their own. -/
theorem valid_name {l : List Tb} (hv : ValidP l) {n ti : Nat} {x : Bs} (hn : n < l.length) (hf : findF l x = ti) : eqS (l.getD n default).name x = decide (n = ti) := by
  by_cases h : n = ti
  · subst h
    rw [decide_eq_true rfl]
    obtain ⟨m, h1, h2, h3, _⟩ := idx_nat (p := fun t : Tb => eqS t.name x) (l := l) (by rw [show idx _ l = findF l x from rfl, hf]; omega)
    have : findF l x = m := h1
    have : m = n := by omega
    subst this
    exact h3
  · rw [decide_eq_false h, eqS_false]
    intro e
    have := hv.find n hn
    rw [e, hf] at this
    omega
end Go.Pv
namespace Go.Pv
open Go.RowKit Go.Proofs

theorem one_ne : ¬ (1 : Int) = 0 := by decide
theorem applyX_ok {l : List Tb} {c : Ch} {ti : Nat} (h : errX l c = 0) (hti : findF l c.table = ti) : applyX l c = (l.set ti (tabX (l.getD ti default) c), 0) := by
  unfold applyX
  rw [if_pos h, tabOf, hti, Int.toNat_natCast]
theorem applyX_err {l : List Tb} {c : Ch} (h : errX l c ≠ 0) : applyX l c = ([], errX l c) := by
  unfold applyX
  rw [if_neg h]
theorem convX_err {l : List Tb} {c : Ch} {n : Int} {row : List Vl} (h : errX l c ≠ 0) : convX l c n row = ([], errX l c) := by
  unfold convX
  rw [if_neg h]
theorem convX_bad {l : List Tb} {c : Ch} {n : Nat} {row : List Vl} (h : errX l c = 0) (hf : fitsF (l.getD n default) row = false) : convX l c n row = ([], 1) := by
  unfold convX
  rw [if_pos h, if_pos (.inr (.inr (by rw [Int.toNat_natCast]; exact hf)))]
theorem convX_ok {l : List Tb} {c : Ch} {ti n : Nat} {row : List Vl} (h : errX l c = 0) (hti : findF l c.table = ti) (hn : n < l.length) (hf : fitsF (l.getD n default) row = true) :
    convX l c n row = if n = ti then rowR (rowX (l.getD ti default) c row) else (row, 0) := by
  unfold convX
  rw [if_pos h, if_neg (by rw [Int.toNat_natCast, hf]; rintro (h | h | h) <;> first | omega | cases h), tabOf, hti, Int.toNat_natCast]
  by_cases e : n = ti
  · rw [if_pos (by omega), if_pos e]
  · rw [if_neg (by omega), if_neg e]

/-! ### Adding and dropping again -/
def dropC (c : Ch) : Ch := ⟨2, c.table, c.name, ⟨#[]⟩, 0, zV⟩
theorem drp_add {t : Tb} (c : Ch) (ht : RightP t) : drpT (addT t c) t.attrs.length = t := by
  have e1 : (t.attrs ++ [newAt c]).eraseIdx t.attrs.length = t.attrs := by
    rw [List.eraseIdx_append_of_length_le (Nat.le_refl _)]
    simp
  have e2 : t.key.map (shK (t.attrs.length : Nat)) = t.key := by
    refine (List.map_congr_left (g := id) fun k hk => ?_).trans (List.map_id _)
    have := ht.keys k hk
    exact shK_le (by omega)
  show (⟨t.name, (t.attrs ++ [newAt c]).eraseIdx t.attrs.length, t.key.map (shK (t.attrs.length : Nat))⟩ : Tb) = t
  rw [e1, e2]
theorem set_self {l : List Tb} {ti : Nat} (hti : ti < l.length) : l.set ti (l.getD ti default) = l := by
  simp [List.getD_eq_getElem?_getD, hti]
theorem back_find {l : List Tb} {c : Ch} {ti : Nat} (h : errX l c = 0) (hk : c.kind = 1) (hti : findF l c.table = ti) (htl : ti < l.length) :
    errX (l.set ti (tabX (l.getD ti default) c)) (dropC c) = 0 ∧ findF (l.set ti (tabX (l.getD ti default) c)) (dropC c).table = ti ∧ colX (tabX (l.getD ti default) c) (dropC c) = (l.getD ti default).attrs.length := by
  obtain ⟨h1, h2, _, h4⟩ := errX_zero h
  rw [tabOf, hti, Int.toNat_natCast] at h4
  have hg := Chg.of h1 h4
  have ht := h2.right _ (mem_getD (α := Tb) htl)
  have hcol := hg.new_add ht hk
  have hfd : findF (l.set ti (tabX (l.getD ti default) c)) (dropC c).table = ti := by
    rw [findF_set htl hg.name]; exact hti
  have hcx : colX (tabX (l.getD ti default) c) (dropC c) = (l.getD ti default).attrs.length := by
    show (columnF _ c.name).toNat = _
    rw [hcol, Int.toNat_natCast]
  refine ⟨errX_of (ti := ti) ?_ (h2.set htl hg) hfd ?_, hfd, hcx⟩
  · show formD (dropC c) = true
    simp [formD, dropC, emp, zeroV, zV]
  · rw [getD_set_same htl]
    show (if columnF _ c.name < 0 then (11 : Int) else checkD _ (columnF _ c.name)) = 0
    rw [hcol, if_neg (by omega)]
    have : hasI (tabX (l.getD ti default) c).key ((l.getD ti default).attrs.length : Nat) = false := by
      cases hh : hasI (tabX (l.getD ti default) c).key ((l.getD ti default).attrs.length : Nat) with
      | false => rfl
      | true =>
        exfalso
        unfold hasI at hh
        obtain ⟨m, _, hm, hp, _⟩ := idx_nat (p := fun y => (((l.getD ti default).attrs.length : Nat) : Int) == y) (l := (tabX (l.getD ti default) c).key) (of_decide_eq_true hh)
        have e : tabX (l.getD ti default) c = addT (l.getD ti default) c := by unfold tabX; rw [if_pos hk]
        rw [e] at hm hp
        have hm' : m < (l.getD ti default).key.length := hm
        have := (ht.keys _ (mem_getD (α := Int) hm')).2
        have hp' : (((l.getD ti default).attrs.length : Nat) : Int) = (addT (l.getD ti default) c).key.getD m default := by
          rw [beq_iff_eq] at hp
          exact hp
        have hp2 : (((l.getD ti default).attrs.length : Nat) : Int) = (l.getD ti default).key.getD m default := hp'
        omega
    unfold checkD
    rw [this]
    rfl
theorem back_apply {l : List Tb} {c : Ch} {ti : Nat} (h : errX l c = 0) (hk : c.kind = 1) (hti : findF l c.table = ti) (htl : ti < l.length) :
    applyX (l.set ti (tabX (l.getD ti default) c)) (dropC c) = (l, 0) := by
  obtain ⟨_, h2, _, _⟩ := errX_zero h
  obtain ⟨h1, hf, hc⟩ := back_find h hk hti htl
  rw [applyX_ok h1 hf, getD_set_same htl]
  have e : tabX (tabX (l.getD ti default) c) (dropC c) = l.getD ti default := by
    have : tabX (tabX (l.getD ti default) c) (dropC c) = drpT (tabX (l.getD ti default) c) (colX (tabX (l.getD ti default) c) (dropC c)) := rfl
    rw [this, hc]
    have e : tabX (l.getD ti default) c = addT (l.getD ti default) c := by unfold tabX; rw [if_pos hk]
    rw [e]
    exact drp_add c (h2.right _ (mem_getD (α := Tb) htl))
  rw [e, List.set_set, set_self htl]
theorem back_row {l : List Tb} {c : Ch} {ti n : Nat} {row x : List Vl} (h : errX l c = 0) (hk : c.kind = 1) (hti : findF l c.table = ti) (htl : ti < l.length) (hn : n < l.length) (hx : convX l c n row = (x, 0)) :
    convX (l.set ti (tabX (l.getD ti default) c)) (dropC c) n x = (row, 0) := by
  obtain ⟨g1, g2, _, g4⟩ := errX_zero h
  rw [tabOf, hti, Int.toNat_natCast] at g4
  have hg := Chg.of g1 g4
  obtain ⟨h1, hf, hc⟩ := back_find h hk hti htl
  cases hfit : fitsF (l.getD n default) row with
  | false => rw [convX_bad h hfit] at hx; exact absurd (congrArg Prod.snd hx) one_ne
  | true =>
    rw [convX_ok h hti hn hfit] at hx
    have hn' : n < (l.set ti (tabX (l.getD ti default) c)).length := by rwa [List.length_set]
    by_cases e : n = ti
    · subst e
      rw [if_pos rfl] at hx
      have hr : rowX (l.getD n default) c row = some (row ++ [c.dflt]) := by unfold rowX; rw [if_pos hk]
      rw [hr] at hx
      have hx' : x = row ++ [c.dflt] := (congrArg Prod.fst hx).symm
      subst hx'
      have hfx := (hg.row hfit hr).1
      rw [convX_ok h1 hf hn' (by rw [getD_set_same hn]; exact hfx), if_pos rfl, getD_set_same hn]
      have hlen := (fits_iff.1 hfit).1
      have : rowX (tabX (l.getD n default) c) (dropC c) (row ++ [c.dflt]) = some row := by
        show some ((row ++ [c.dflt]).eraseIdx (colX (tabX (l.getD n default) c) (dropC c))) = some row
        rw [hc, ← hlen, List.eraseIdx_append_of_length_le (Nat.le_refl _)]
        simp
      rw [this]
      rfl
    · rw [if_neg e] at hx
      have hx' : x = row := (congrArg Prod.fst hx).symm
      subst hx'
      rw [convX_ok h1 hf hn' (by rw [getD_set_ne e]; exact hfit), if_neg e]

/-! ### Two changes of different tables -/
theorem two_find {l : List Tb} {c d : Ch} {ti tj : Nat} (hc : errX l c = 0) (hd : errX l d = 0) (hti : findF l c.table = ti) (htj : findF l d.table = tj) (htl : ti < l.length) (hne : ti ≠ tj) :
    errX (l.set ti (tabX (l.getD ti default) c)) d = 0 ∧ findF (l.set ti (tabX (l.getD ti default) c)) d.table = tj := by
  obtain ⟨g1, g2, _, g4⟩ := errX_zero hc
  rw [tabOf, hti, Int.toNat_natCast] at g4
  have hg := Chg.of g1 g4
  obtain ⟨k1, k2, _, k4⟩ := errX_zero hd
  rw [tabOf, htj, Int.toNat_natCast] at k4
  have hf : findF (l.set ti (tabX (l.getD ti default) c)) d.table = tj := by rw [findF_set htl hg.name]; exact htj
  exact ⟨errX_of k1 (g2.set htl hg) hf (by rw [getD_set_ne (fun e => hne e.symm)]; exact k4), hf⟩
theorem two_apply {l : List Tb} {c d : Ch} {ti tj : Nat} (hc : errX l c = 0) (hd : errX l d = 0) (hti : findF l c.table = ti) (htj : findF l d.table = tj) (htl : ti < l.length) (hne : ti ≠ tj) :
    applyX (l.set ti (tabX (l.getD ti default) c)) d = ((l.set ti (tabX (l.getD ti default) c)).set tj (tabX (l.getD tj default) d), 0) := by
  obtain ⟨h1, h2⟩ := two_find hc hd hti htj htl hne
  rw [applyX_ok h1 h2, getD_set_ne (fun e => hne e.symm)]
theorem two_tables {l : List Tb} {c d : Ch} {ti tj : Nat} (hti : findF l c.table = ti) (htj : findF l d.table = tj) (hne : eqS c.table d.table = false) : ti ≠ tj := by
  intro e
  subst e
  rw [eqS_false] at hne
  obtain ⟨m, h1, _, h3, _⟩ := idx_nat (p := fun t : Tb => eqS t.name c.table) (l := l) (by rw [show idx _ l = findF l c.table from rfl, hti]; omega)
  obtain ⟨k, h4, _, h6, _⟩ := idx_nat (p := fun t : Tb => eqS t.name d.table) (l := l) (by rw [show idx _ l = findF l d.table from rfl, htj]; omega)
  have e1 : findF l c.table = m := h1
  have e2 : findF l d.table = k := h4
  have : m = k := by omega
  subst this
  exact hne ((eqS_iff.1 h3).symm.trans (eqS_iff.1 h6))
theorem rowR_ok {o : Option (List Vl)} {p : List Vl} (h : rowR o = (p, 0)) : o = some p := by
  cases o with
  | none => exact absurd (congrArg Prod.snd h) (show ¬ (15 : Int) = 0 by decide)
  | some r => exact congrArg some (congrArg Prod.fst h)
/-- Both orders convert a row alike. -/
theorem two_rows {l : List Tb} {c d : Ch} {ti tj n : Nat} {row p q : List Vl} (hc : errX l c = 0) (hd : errX l d = 0) (hti : findF l c.table = ti) (htj : findF l d.table = tj) (htl : ti < l.length) (htm : tj < l.length) (hne : ti ≠ tj) (hn : n < l.length)
    (hp : convX l c n row = (p, 0)) (hq : convX l d n row = (q, 0)) : ∃ r, convX (l.set ti (tabX (l.getD ti default) c)) d n p = (r, 0) ∧ convX (l.set tj (tabX (l.getD tj default) d)) c n q = (r, 0) := by
  obtain ⟨g1, g2, _, g4⟩ := errX_zero hc
  rw [tabOf, hti, Int.toNat_natCast] at g4
  have hg := Chg.of g1 g4
  obtain ⟨k1, k2, _, k4⟩ := errX_zero hd
  rw [tabOf, htj, Int.toNat_natCast] at k4
  have hk := Chg.of k1 k4
  obtain ⟨a1, a2⟩ := two_find hc hd hti htj htl hne
  obtain ⟨b1, b2⟩ := two_find hd hc htj hti htm (fun e => hne e.symm)
  have hna : n < (l.set ti (tabX (l.getD ti default) c)).length := by rwa [List.length_set]
  have hnb : n < (l.set tj (tabX (l.getD tj default) d)).length := by rwa [List.length_set]
  cases hfit : fitsF (l.getD n default) row with
  | false => rw [convX_bad hc hfit] at hp; exact absurd (congrArg Prod.snd hp) one_ne
  | true =>
    rw [convX_ok hc hti hn hfit] at hp
    rw [convX_ok hd htj hn hfit] at hq
    by_cases e1 : n = ti
    · subst e1
      rw [if_pos rfl] at hp
      rw [if_neg hne] at hq
      have hq' : row = q := congrArg Prod.fst hq
      subst hq'
      have hr := rowR_ok hp
      refine ⟨p, ?_, ?_⟩
      · rw [convX_ok a1 a2 hna (by rw [getD_set_same hn]; exact (hg.row hfit hr).1), if_neg hne]
      · rw [convX_ok b1 b2 hnb (by rw [getD_set_ne hne]; exact hfit), if_pos rfl, getD_set_ne hne, hr]
        rfl
    · rw [if_neg e1] at hp
      have hp' : row = p := congrArg Prod.fst hp
      subst hp'
      by_cases e2 : n = tj
      · subst e2
        rw [if_pos rfl] at hq
        have hr := rowR_ok hq
        refine ⟨q, ?_, ?_⟩
        · rw [convX_ok a1 a2 hna (by rw [getD_set_ne e1]; exact hfit), if_pos rfl, getD_set_ne e1, hr]
          rfl
        · rw [convX_ok b1 b2 hnb (by rw [getD_set_same hn]; exact (hk.row hfit hr).1), if_neg e1]
      · rw [if_neg e2] at hq
        have hq' : row = q := congrArg Prod.fst hq
        subst hq'
        refine ⟨row, ?_, ?_⟩
        · rw [convX_ok a1 a2 hna (by rw [getD_set_ne e1]; exact hfit), if_neg e2]
        · rw [convX_ok b1 b2 hnb (by rw [getD_set_ne e2]; exact hfit), if_neg e1]
end Go.Pv
