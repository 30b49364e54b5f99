/- Part of the proofs over this seat: Lw1. -/
import Derived.Test.YteohopnpcanfpaaGreatDoorZKn
set_option maxRecDepth 100000
namespace Go.Pv
open Go.RowKit Go.Proofs

theorem le_total' (a b : List UInt8) : (decide (a ≤ b) || decide (b ≤ a)) = true := by
  rcases List.le_total a b with h | h <;> simp [h]
theorem le_trans' (a b c : List UInt8) (h : decide (a ≤ b) = true) (k : decide (b ≤ c) = true) : decide (a ≤ c) = true := by
  simp only [decide_eq_true_eq] at *
  exact List.le_trans h k
theorem compact_lt (S : List (List UInt8)) (hs : S.Pairwise (· ≤ ·)) : (Lib.compact S).length < S.length ↔ ¬ S.Nodup := by
  have hlen : (Lib.compact S).length = ((List.range S.length).filter (Lib.keeps S.toArray)).length := by simp [Lib.compact, Lib.compactUpTo]
  rw [hlen]
  have h1 : ((List.range S.length).filter (Lib.keeps S.toArray)).length < S.length ↔ ∃ j, j < S.length ∧ Lib.keeps S.toArray j = false := by
    have := List.length_filter_lt_length_iff_exists (l := List.range S.length) (p := Lib.keeps S.toArray)
    rw [List.length_range] at this
    rw [this]
    simp
  rw [h1]
  have get : ∀ j, (hj : j < S.length) → S.toArray[j]! = S[j] := fun j hj => by simp [getElem!_pos, hj]
  constructor
  · rintro ⟨j, hj, hk⟩ hn
    rw [Lib.keeps, decide_eq_false_iff_not] at hk
    have hj0 : j ≠ 0 := fun h => hk (.inl h)
    have he : S.toArray[j]! = S.toArray[j - 1]! := Classical.byContradiction fun h => hk (.inr h)
    rw [get j hj, get (j - 1) (by omega)] at he
    exact List.pairwise_iff_getElem.1 hn (j - 1) j (by omega) hj (by omega) he.symm
  · intro hn
    refine Classical.byContradiction fun hc => hn ?_
    have hall : ∀ j, (hj : j < S.length) → 0 < j → S[j] ≠ S[j - 1] := by
      intro j hj h0 he
      refine hc ⟨j, hj, ?_⟩
      rw [Lib.keeps, decide_eq_false_iff_not, get j hj, get (j - 1) (by omega)]
      rintro (h | h)
      · omega
      · exact h he
    have hle : ∀ i j, (hi : i < S.length) → (hj : j < S.length) → i ≤ j → S[i] ≤ S[j] := by
      intro i j hi hj hij
      rcases Nat.lt_or_ge i j with h | h
      · exact List.pairwise_iff_getElem.1 hs i j hi hj h
      · have : i = j := by omega
        subst this
        exact List.le_refl _
    rw [List.Nodup, List.pairwise_iff_getElem]
    intro i j hi hj hij he
    have a1 := hle i (j - 1) hi (by omega) (by omega)
    have a2 := hle (j - 1) j (by omega) hj (by omega)
    rw [he] at a1
    exact hall j hj (by omega) (List.le_antisymm a1 a2)
theorem dup_iff (L : List Bs) : decide (((compactS (sortS L)).length : Int) < (L.length : Int)) = !decide ((L.map raw).Nodup) := by
  have e1 : (sortS L).map raw = (L.map raw).mergeSort fun x y => decide (x ≤ y) := by
    simp [sortS, List.map_map, Function.comp_def, raw_ofRaw]
  have hp := List.mergeSort_perm (L.map raw) (fun x y => decide (x ≤ y))
  have hs : ((L.map raw).mergeSort fun x y => decide (x ≤ y)).Pairwise (· ≤ ·) := by
    have := List.pairwise_mergeSort (le := fun x y : List UInt8 => decide (x ≤ y)) (fun a b c => le_trans' a b c) (fun a b => le_total' a b) (L.map raw)
    exact this.imp (fun h => by simpa using h)
  have h2 : (compactS (sortS L)).length = (Lib.compact ((L.map raw).mergeSort fun x y => decide (x ≤ y))).length := by simp [compactS, e1]
  have h3 : L.length = ((L.map raw).mergeSort fun x y => decide (x ≤ y)).length := by simp
  have h4 := compact_lt _ hs
  rw [← h2, ← h3] at h4
  have h5 : ((L.map raw).mergeSort fun x y => decide (x ≤ y)).Nodup ↔ (L.map raw).Nodup := hp.nodup_iff
  rw [h5] at h4
  by_cases hn : (L.map raw).Nodup
  · have : ¬ ((compactS (sortS L)).length : Int) < (L.length : Int) := fun h => (h4.1 (by omega)) hn
    simp [hn, this]
  · have : ((compactS (sortS L)).length : Int) < (L.length : Int) := by have := h4.2 hn; omega
    simp [hn, this]
end Go.Pv
