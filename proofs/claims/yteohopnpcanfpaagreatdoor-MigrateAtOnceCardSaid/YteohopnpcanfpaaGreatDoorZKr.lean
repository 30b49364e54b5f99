/- Part of the proofs over this seat: Lw3 Lw4 Lw5 Lw6. -/
import Derived.Test.YteohopnpcanfpaaGreatDoorZKq
set_option maxRecDepth 100000
namespace Go.Pv
open Go.RowKit Go.Proofs

theorem raw_inj {a b : Bs} (h : raw a = raw b) : a = b := by
  have := congrArg ofRaw h
  rwa [ofRaw_raw, ofRaw_raw] at this
theorem eqS_iff {a b : Bs} : eqS a b = true ↔ a = b := by
  unfold eqS
  rw [beq_iff_eq]
  constructor
  · intro h
    have h' : a.data = b.data := by simpa [ByteArray.toList_eq] using h
    exact raw_inj (by simp [raw, h'])
  · rintro rfl; rfl
theorem eqS_refl (a : Bs) : eqS a a = true := eqS_iff.2 rfl
theorem eqS_false {a b : Bs} : eqS a b = false ↔ a ≠ b := by
  rw [← Bool.not_eq_true, eqS_iff]
/-! ### The first index -/
theorem idx_neg {α : Type} {p : α → Bool} {l : List α} (h : idx p l < 0) : ∀ x ∈ l, p x = false := by
  unfold idx at h
  split at h
  · omega
  · rename_i hn
    intro x hx
    cases hp : p x with
    | false => rfl
    | true => exact absurd (List.findIdx_lt_length_of_exists ⟨x, hx, hp⟩) hn
theorem idx_nonneg {α : Type} {p : α → Bool} {l : List α} {x : α} (hx : x ∈ l) (hp : p x = true) : 0 ≤ idx p l := by
  unfold idx
  rw [if_pos (List.findIdx_lt_length_of_exists ⟨x, hx, hp⟩)]
  omega
theorem idx_map {α β : Type} (f : α → β) (p : β → Bool) (l : List α) : idx p (l.map f) = idx (fun a => p (f a)) l := by
  simp only [idx, List.findIdx_map, List.length_map]
  rfl
/-! ### A right table -/
structure RightP (t : Tb) : Prop where
  name : nameF t.name = true
  pos : 0 < t.attrs.length
  max : t.attrs.length ≤ 12
  key0 : 0 < t.key.length
  attrs : ∀ a ∈ t.attrs, attrBad a = false
  names : ∀ s ∈ namesOf t.attrs, nameF s = true
  nodup : (namesOf t.attrs).Nodup
  keys : ∀ k ∈ t.key, 0 ≤ k ∧ k < (t.attrs.length : Int)
  incr : ∀ i, 0 < i → i < t.key.length → t.key.getD (i - 1) 0 < t.key.getD i 0
theorem nodup_raw {L : List Bs} : (L.map raw).Nodup ↔ L.Nodup := by
  rw [List.Nodup, List.Nodup, List.pairwise_map]
  constructor
  · intro h
    exact h.imp (fun hne e => hne (by rw [e]))
  · intro h
    exact h.imp (fun hne e => hne (raw_inj e))
theorem badNames_iff {L : List Bs} : badNames L = false ↔ ∀ s ∈ L, nameF s = true := by
  unfold badNames
  rw [decide_eq_false_iff_not]
  constructor
  · intro h s hs
    have := idx_neg (p := fun s => !nameF s) (l := L) (by omega) s hs
    simpa using this
  · intro h hge
    obtain ⟨n, e, hn, hp, _⟩ := idx_nat (p := fun s => !nameF s) (l := L) hge
    have := h _ (mem_getD hn)
    rw [this] at hp
    cases hp
theorem rightF_iff (t : Tb) : rightF t = true ↔ RightP t := by
  have hkb : ∀ i, keyBad t i = false ↔ (0 ≤ t.key.getD i 0 ∧ t.key.getD i 0 < (t.attrs.length : Int)) ∧ (0 < i → t.key.getD (i - 1) 0 < t.key.getD i 0) := by
    intro i
    unfold keyBad
    by_cases h1 : t.key.getD i 0 < 0
    · have e1 : decide (t.key.getD i 0 < 0) = true := decide_eq_true h1
      simp only [e1, cond_true]
      constructor
      · intro h; cases h
      · rintro ⟨⟨h, _⟩, _⟩; omega
    · have e1 : decide (t.key.getD i 0 < 0) = false := decide_eq_false h1
      by_cases h2 : t.key.getD i 0 ≥ (t.attrs.length : Int)
      · have e2 : decide (t.key.getD i 0 ≥ (t.attrs.length : Int)) = true := decide_eq_true h2
        simp only [e1, e2, cond_true, cond_false]
        constructor
        · intro h; cases h
        · rintro ⟨⟨_, h⟩, _⟩; omega
      · have e2 : decide (t.key.getD i 0 ≥ (t.attrs.length : Int)) = false := decide_eq_false h2
        simp only [e1, e2, cond_false]
        by_cases h3 : (i : Int) > 0
        · have e3 : decide ((i : Int) > 0) = true := decide_eq_true h3
          simp only [e3, cond_true, decide_eq_false_iff_not]
          constructor
          · intro h; exact ⟨⟨by omega, by omega⟩, fun _ => by omega⟩
          · rintro ⟨_, h⟩ hle
            have := h (by omega)
            omega
        · have e3 : decide ((i : Int) > 0) = false := decide_eq_false h3
          simp only [e3, cond_false, true_iff]
          exact ⟨⟨by omega, by omega⟩, fun h => by omega⟩
  rw [rightF_eq, rightR]
  cases h1 : nameF t.name with
  | false => simp; intro h; have := h.name; rw [h1] at this; cases this
  | true =>
    by_cases h2 : t.attrs.length = 0
    · have : ((t.attrs.length : Int) == 0) = true := by rw [h2]; rfl
      simp only [this, Bool.not_true, cond_false, cond_true]
      constructor
      · intro h; cases h
      · intro h; have := h.pos; omega
    · have e2 : ((t.attrs.length : Int) == 0) = false := by rw [beq_eq_false_iff_ne]; omega
      by_cases h3 : t.attrs.length ≤ 12
      · have e3 : decide ((t.attrs.length : Int) > 12) = false := by rw [decide_eq_false_iff_not]; omega
        by_cases h4 : t.key.length = 0
        · have : ((t.key.length : Int) == 0) = true := by rw [h4]; rfl
          simp only [e2, e3, this, Bool.not_true, cond_false, cond_true]
          constructor
          · intro h; cases h
          · intro h; have := h.key0; omega
        · have e4 : ((t.key.length : Int) == 0) = false := by rw [beq_eq_false_iff_ne]; omega
          simp only [e2, e3, e4, Bool.not_true, cond_false]
          cases h5 : t.attrs.any attrBad with
          | true =>
            simp only [cond_true]
            constructor
            · intro h; cases h
            · intro h
              obtain ⟨a, ha, hb⟩ := List.any_eq_true.1 h5
              rw [h.attrs a ha] at hb
              cases hb
          | false =>
            simp only [cond_false]
            cases h6 : badNames (namesOf t.attrs) with
            | true =>
              simp only [cond_true]
              constructor
              · intro h; cases h
              · intro h
                rw [badNames_iff.2 h.names] at h6
                cases h6
            | false =>
              simp only [cond_false]
              by_cases h7 : (namesOf t.attrs).Nodup
              · have e7 : decide (((namesOf t.attrs).map raw).Nodup) = true := decide_eq_true (nodup_raw.2 h7)
                simp only [e7, Bool.not_true, cond_false, Bool.not_eq_true']
                rw [List.any_eq_false]
                constructor
                · intro h
                  have hk : ∀ i, i < t.key.length → (0 ≤ t.key.getD i 0 ∧ t.key.getD i 0 < (t.attrs.length : Int)) ∧ (0 < i → t.key.getD (i - 1) 0 < t.key.getD i 0) := fun i hi => (hkb i).1 (by simpa using h i (List.mem_range.2 hi))
                  refine ⟨h1, by omega, h3, by omega, fun a ha => by simpa using List.any_eq_false.1 h5 a ha, badNames_iff.1 h6, h7, fun k hkm => ?_, fun i h0 hi => (hk i hi).2 h0⟩
                  obtain ⟨i, hi, rfl⟩ := List.getElem_of_mem hkm
                  have := (hk i hi).1
                  simpa [List.getD_eq_getElem?_getD, hi] using this
                · intro h i hi
                  have hi' := List.mem_range.1 hi
                  have := (hkb i).2 ⟨by
                    have := h.keys _ (mem_getD (α := Int) hi')
                    exact this, fun h0 => h.incr i h0 hi'⟩
                  simpa using this
              · have e7 : decide (((namesOf t.attrs).map raw).Nodup) = false := decide_eq_false (fun h => h7 (nodup_raw.1 h))
                simp only [e7, Bool.not_false, cond_true]
                constructor
                · intro h; cases h
                · intro h; exact absurd h.nodup h7
      · have e3 : decide ((t.attrs.length : Int) > 12) = true := by rw [decide_eq_true_eq]; omega
        simp only [e2, e3, Bool.not_true, cond_false, cond_true]
        constructor
        · intro h; cases h
        · intro h; have := h.max; omega
end Go.Pv
namespace Go.Pv
open Go.RowKit Go.Proofs

/-! ### A valid schema -/
structure ValidP (l : List Tb) : Prop where
  max : l.length ≤ 20
  right : ∀ t ∈ l, RightP t
  find : ∀ i, i < l.length → findF l (l.getD i default).name = i
theorem validF_iff (l : List Tb) : validF l = true ↔ ValidP l := by
  unfold validF
  by_cases h1 : l.length ≤ 20
  · have e1 : decide ((l.length : Int) > 20) = false := by rw [decide_eq_false_iff_not]; omega
    simp only [e1, cond_false, Bool.not_eq_true']
    rw [List.any_eq_false]
    have hb : ∀ i, tabBad l i = false ↔ rightF (l.getD i default) = true ∧ findF l (l.getD i default).name = i := by
      intro i
      unfold tabBad
      cases h : rightF (l.getD i default) <;> simp
    constructor
    · intro h
      have h' : ∀ i, i < l.length → rightF (l.getD i default) = true ∧ findF l (l.getD i default).name = i := fun i hi => (hb i).1 (by simpa using h i (List.mem_range.2 hi))
      refine ⟨h1, fun t ht => ?_, fun i hi => (h' i hi).2⟩
      obtain ⟨i, hi, rfl⟩ := List.getElem_of_mem ht
      have := (rightF_iff _).1 (h' i hi).1
      simpa [List.getD_eq_getElem?_getD, hi] using this
    · intro h i hi
      have hi' := List.mem_range.1 hi
      have := (hb i).2 ⟨(rightF_iff _).2 (h.right _ (mem_getD hi')), h.find i hi'⟩
      simpa using this
  · have e1 : decide ((l.length : Int) > 20) = true := by rw [decide_eq_true_eq]; omega
    simp only [e1, cond_true]
    constructor
    · intro h; cases h
    · intro h; exact absurd h.max h1
theorem findF_map (l : List Tb) (x : Bs) : findF l x = idx (fun n => eqS n x) (l.map Tb.name) := by
  rw [idx_map]; rfl
theorem set_names {l : List Tb} {i : Nat} {t : Tb} (hi : i < l.length) (hn : t.name = (l.getD i default).name) : (l.set i t).map Tb.name = l.map Tb.name := by
  rw [List.map_set, hn]
  apply List.ext_getElem?
  intro j
  by_cases hj : i = j
  · subst hj
    simp [hi, List.getD_eq_getElem?_getD]
  · rw [List.getElem?_set_ne hj]
theorem getD_set_same {l : List Tb} {i : Nat} {t : Tb} (hi : i < l.length) : (l.set i t).getD i default = t := by
  simp [List.getD_eq_getElem?_getD, hi]
theorem getD_set_ne {l : List Tb} {i j : Nat} {t : Tb} (h : j ≠ i) : (l.set i t).getD j default = l.getD j default := by
  have : i ≠ j := fun e => h e.symm
  simp [List.getD_eq_getElem?_getD, List.getElem?_set_ne this]
theorem set_name {l : List Tb} {i j : Nat} {t : Tb} (hi : i < l.length) (hn : t.name = (l.getD i default).name) : ((l.set i t).getD j default).name = (l.getD j default).name := by
  by_cases h : j = i
  · subst h; rw [getD_set_same hi, hn]
  · rw [getD_set_ne h]
theorem findF_set {l : List Tb} {i : Nat} {t : Tb} (hi : i < l.length) (hn : t.name = (l.getD i default).name) (x : Bs) : findF (l.set i t) x = findF l x := by
  rw [findF_map, findF_map, set_names hi hn]
theorem valid_set {l : List Tb} {i : Nat} {t : Tb} (h : ValidP l) (hi : i < l.length) (hn : t.name = (l.getD i default).name) (ht : RightP t) : ValidP (l.set i t) := by
  refine ⟨by rw [List.length_set]; exact h.max, fun u hu => ?_, fun j hj => ?_⟩
  · rcases List.mem_or_eq_of_mem_set hu with hu | rfl
    · exact h.right u hu
    · exact ht
  · rw [findF_set hi hn, set_name hi hn]
    exact h.find j (by rwa [List.length_set] at hj)
/-! ### The names of a table -/
theorem namesOf_append (a b : List At) : namesOf (a ++ b) = namesOf a ++ namesOf b := by simp [namesOf]
theorem mem_names {l : List At} {s : Bs} : s ∈ namesOf l ↔ ∃ a ∈ l, s = a.name ∨ s ∈ a.was := by
  simp [namesOf]
theorem hasS_iff {l : List Bs} {x : Bs} : hasS l x = true ↔ x ∈ l := by
  unfold hasS
  rw [decide_eq_true_eq]
  constructor
  · intro h
    obtain ⟨n, _, hn, hp, _⟩ := idx_nat (p := fun y => eqS x y) (l := l) h
    rw [eqS_iff] at hp
    rw [hp]
    exact mem_getD hn
  · intro h
    exact idx_nonneg (p := fun y => eqS x y) h (eqS_refl x)
theorem column_none {l : List At} {x : Bs} (h : ¬ columnF l x ≥ 0) : x ∉ namesOf l := by
  intro hx
  obtain ⟨a, ha, hx⟩ := mem_names.1 hx
  apply h
  unfold columnF
  rcases hx with rfl | hx
  · have h1 := idx_nonneg (p := fun t : At => eqS t.name a.name) ha (eqS_refl _)
    have : decide (idx (fun t : At => eqS t.name a.name) l ≥ 0) = true := decide_eq_true h1
    rw [this]
    exact h1
  · have h2 := idx_nonneg (p := fun t : At => hasS t.was x) ha (hasS_iff.2 hx)
    cases hd : decide (idx (fun t : At => eqS t.name x) l ≥ 0) with
    | true => simpa using hd
    | false => exact h2
/-! ### The checks -/
theorem typed_ok {c : Ch} (h : typedF c = true) (nm : Bs) (w : List Bs) : attrBad ⟨nm, c.to, w, c.dflt⟩ = false := by
  unfold typedF at h
  unfold attrBad
  by_cases h1 : c.to ≥ 1
  · have e1 : decide (c.to ≥ 1) = true := decide_eq_true h1
    have e1' : decide (c.to < 1) = false := decide_eq_false (by omega)
    by_cases h2 : c.to ≤ 4
    · have e2 : decide (c.to ≤ 4) = true := decide_eq_true h2
      have e2' : decide (c.to > 4) = false := decide_eq_false (by omega)
      simp only [e1, e2, cond_true] at h
      simp only [e1', e2', cond_false, h, Bool.not_true]
    · have e2 : decide (c.to ≤ 4) = false := decide_eq_false h2
      simp only [e1, e2, cond_true, cond_false] at h
      cases h
  · have e1 : decide (c.to ≥ 1) = false := decide_eq_false h1
    simp only [e1, cond_false] at h
    cases h
theorem fresh_ok {t : Tb} {c : Ch} (h : freshF t c = 0) : nameF c.name = true ∧ c.name ∉ namesOf t.attrs := by
  unfold freshF at h
  cases h1 : nameF c.name with
  | false => rw [h1] at h; simp at h
  | true =>
    rw [h1] at h
    refine ⟨rfl, column_none fun h2 => ?_⟩
    have : decide (columnF t.attrs c.name ≥ 0) = true := decide_eq_true h2
    rw [this] at h
    simp at h
theorem add_right {t : Tb} {c : Ch} (ht : RightP t) (hc : checkA t c = 0) : RightP (addT t c) := by
  unfold checkA at hc
  cases h1 : typedF c with
  | false => rw [h1] at hc; simp at hc
  | true =>
    rw [h1] at hc
    simp only [Bool.not_true, cond_false] at hc
    cases h2 : freshF t c == 0 with
    | false => rw [h2] at hc; simp only [Bool.not_false, cond_true] at hc; rw [hc] at h2; cases h2
    | true =>
      rw [h2] at hc
      simp only [Bool.not_true, cond_false] at hc
      obtain ⟨hn, hf⟩ := fresh_ok (by simpa using h2)
      have h3 : t.attrs.length ≠ 12 := by
        intro h3
        rw [h3] at hc
        simp at hc
      have hmax := ht.max
      have hnames : namesOf (addT t c).attrs = namesOf t.attrs ++ [c.name] := by
        show namesOf (t.attrs ++ [newAt c]) = _
        rw [namesOf_append]
        rfl
      have hlen : (addT t c).attrs.length = t.attrs.length + 1 := by simp [addT]
      refine ⟨ht.name, by omega, by omega, ht.key0, fun a ha => ?_, fun s hs => ?_, ?_, fun k hk => ?_, ht.incr⟩
      · rcases List.mem_append.1 ha with ha | ha
        · exact ht.attrs a ha
        · have : a = newAt c := by simpa using ha
          subst this
          exact typed_ok h1 _ _
      · rw [hnames] at hs
        rcases List.mem_append.1 hs with hs | hs
        · exact ht.names s hs
        · have : s = c.name := by simpa using hs
          rw [this]; exact hn
      · rw [hnames, List.nodup_append]
        refine ⟨ht.nodup, by simp, fun a ha b hb => ?_⟩
        have : b = c.name := by simpa using hb
        rw [this]
        intro e
        exact hf (e ▸ ha)
      · have := ht.keys k hk
        omega
end Go.Pv
namespace Go.Pv
open Go.RowKit Go.Proofs

theorem namesOf_mid (P Q : List At) (x : At) : namesOf (P ++ x :: Q) = namesOf P ++ (x.name :: x.was) ++ namesOf Q := by simp [namesOf]
theorem split_at {l : List At} {a : Nat} (ha : a < l.length) : l = l.take a ++ l.getD a default :: l.drop (a + 1) := by
  simp [List.getD_eq_getElem?_getD, ha]
theorem set_at {l : List At} {a : Nat} (ha : a < l.length) (x : At) : l.set a x = l.take a ++ x :: l.drop (a + 1) := by
  rw [List.set_eq_take_append_cons_drop, if_pos ha]
theorem erase_at {l : List At} {a : Nat} : l.eraseIdx a = l.take a ++ l.drop (a + 1) := List.eraseIdx_eq_take_drop_succ l a
theorem hasI_false {l : List Int} {x : Int} (h : hasI l x = false) : ∀ k ∈ l, k ≠ x := by
  intro k hk e
  subst e
  unfold hasI at h
  rw [decide_eq_false_iff_not] at h
  exact h (idx_nonneg (p := fun y => k == y) hk (by simp))
theorem getD_map {f : Int → Int} {l : List Int} {i : Nat} (hi : i < l.length) : (l.map f).getD i 0 = f (l.getD i 0) := by
  simp [List.getD_eq_getElem?_getD, hi]
theorem drop_right {t : Tb} {a : Nat} (ht : RightP t) (ha : a < t.attrs.length) (hc : checkD t a = 0) : RightP (drpT t a) := by
  have hk : ∀ k ∈ t.key, k ≠ (a : Int) := by
    apply hasI_false
    unfold checkD at hc
    cases h : hasI t.key a with
    | false => rfl
    | true => rw [h] at hc; simp at hc
  have hlen : (drpT t a).attrs.length = t.attrs.length - 1 := by simp [drpT, List.length_eraseIdx_of_lt, ha]
  have hkl : (drpT t a).key.length = t.key.length := by simp [drpT]
  have hsh : ∀ k ∈ t.key, 0 ≤ shK a k ∧ shK a k < (t.attrs.length : Int) - 1 := by
    intro k hkm
    have h1 := ht.keys k hkm
    have h2 := hk k hkm
    by_cases h3 : k > a
    · rw [shK_gt h3]; omega
    · rw [shK_le h3]; omega
  have hpos : 1 < t.attrs.length := by
    have h0 := ht.key0
    have h1 := hsh _ (mem_getD (α := Int) h0)
    omega
  have hmax := ht.max
  have hsub : (namesOf (drpT t a).attrs).Sublist (namesOf t.attrs) := by
    have e1 : namesOf (drpT t a).attrs = namesOf (t.attrs.take a) ++ namesOf (t.attrs.drop (a + 1)) := by
      show namesOf (t.attrs.eraseIdx a) = _
      rw [erase_at, namesOf_append]
    rw [e1, split_at ha, namesOf_mid, List.take_left' (by simp; omega), List.drop_append]
    have e2 : (t.attrs.take a).length = a := by simp; omega
    rw [e2, show a + 1 - a = 1 by omega, List.drop_eq_nil_of_le (by simp; omega)]
    simp only [List.nil_append, List.drop_succ_cons, List.drop_zero, List.append_assoc]
    exact (List.Sublist.refl _).append (List.sublist_append_right _ _)
  refine ⟨ht.name, by omega, by omega, by rw [hkl]; exact ht.key0, fun x hx => ?_, fun s hs => ht.names s (hsub.subset hs), hsub.nodup ht.nodup, fun k hk' => ?_, fun i h0 hi => ?_⟩
  · have : x ∈ t.attrs := List.mem_of_mem_eraseIdx hx
    exact ht.attrs x this
  · obtain ⟨k0, hk0, rfl⟩ := List.mem_map.1 hk'
    have := hsh k0 hk0
    rw [hlen]
    omega
  · rw [hkl] at hi
    show (t.key.map (shK a)).getD (i - 1) 0 < (t.key.map (shK a)).getD i 0
    rw [getD_map hi, getD_map (by omega)]
    have h1 := ht.incr i h0 hi
    have h2 := hk _ (mem_getD (α := Int) hi)
    have h3 := hk _ (mem_getD (α := Int) (show i - 1 < t.key.length by omega))
    change t.key.getD i 0 ≠ _ at h2
    change t.key.getD (i - 1) 0 ≠ _ at h3
    by_cases h4 : t.key.getD i 0 > a
    · rw [shK_gt h4]
      by_cases h5 : t.key.getD (i - 1) 0 > a
      · rw [shK_gt h5]; omega
      · rw [shK_le h5]; omega
    · rw [shK_le h4, shK_le (by omega)]; exact h1
theorem set_right {t : Tb} {a : Nat} {x : At} (ht : RightP t) (_ha : a < t.attrs.length) (hb : attrBad x = false) (hn : ∀ s ∈ x.name :: x.was, nameF s = true) (hd : (namesOf (t.attrs.set a x)).Nodup) : RightP ⟨t.name, t.attrs.set a x, t.key⟩ := by
  refine ⟨ht.name, by simpa using ht.pos, by simpa using ht.max, ht.key0, fun y hy => ?_, fun s hs => ?_, hd, fun k hk => by simpa using ht.keys k hk, ht.incr⟩
  · rcases List.mem_or_eq_of_mem_set hy with hy | rfl
    · exact ht.attrs y hy
    · exact hb
  · obtain ⟨y, hy, hs2⟩ := mem_names.1 hs
    rcases List.mem_or_eq_of_mem_set hy with hy | hy
    · exact ht.names s (mem_names.2 ⟨y, hy, hs2⟩)
    · subst hy
      exact hn s (by simpa using hs2)
theorem cast_right {t : Tb} {c : Ch} {a : Nat} (ht : RightP t) (ha : a < t.attrs.length) (hc : checkC t c a = 0) : RightP (casT t c a) := by
  have htyp : typedF c = true := by
    unfold checkC at hc
    cases h : typedF c with
    | true => rfl
    | false => rw [h] at hc; simp at hc
  refine set_right ht ha (typed_ok htyp _ _) (fun s hs => ht.names s (mem_names.2 ⟨_, mem_getD ha, by simpa [casAt] using hs⟩)) ?_
  have : namesOf (t.attrs.set a (casAt (t.attrs.getD a default) c)) = namesOf t.attrs := by
    conv => rhs; rw [split_at ha]
    rw [set_at ha, namesOf_mid, namesOf_mid]
    rfl
  rw [this]
  exact ht.nodup
theorem ren_right {t : Tb} {c : Ch} {a : Nat} (ht : RightP t) (ha : a < t.attrs.length) (hc : freshF t c = 0) : RightP (renT t c a) := by
  obtain ⟨hn, hf⟩ := fresh_ok hc
  have hx := mem_getD (α := At) ha
  refine set_right ht ha (show attrBad (renAt (t.attrs.getD a default) c.name) = false from (ht.attrs _ hx : attrBad (t.attrs.getD a default) = false)) (fun s hs => ?_) ?_
  · have hs' : s = c.name ∨ s ∈ (t.attrs.getD a default).was ∨ s = (t.attrs.getD a default).name := by simpa [renAt] using hs
    rcases hs' with rfl | hs' | rfl
    · exact hn
    · exact ht.names s (mem_names.2 ⟨_, hx, .inr hs'⟩)
    · exact ht.names _ (mem_names.2 ⟨_, hx, .inl rfl⟩)
  · have hp : (namesOf (t.attrs.set a (renAt (t.attrs.getD a default) c.name))).Perm (c.name :: namesOf t.attrs) := by
      rw [set_at ha, namesOf_mid]
      conv => rhs; rw [split_at ha, namesOf_mid]
      show (namesOf (t.attrs.take a) ++ (c.name :: ((t.attrs.getD a default).was ++ [(t.attrs.getD a default).name])) ++ namesOf (t.attrs.drop (a + 1))).Perm _
      generalize namesOf (t.attrs.take a) = P
      generalize namesOf (t.attrs.drop (a + 1)) = Q
      generalize (t.attrs.getD a default).was = W
      generalize (t.attrs.getD a default).name = N
      have h1 : (c.name :: (W ++ [N])).Perm (c.name :: (N :: W)) := List.Perm.cons _ (List.perm_append_singleton N W)
      have h2 : (P ++ (c.name :: (W ++ [N])) ++ Q).Perm (P ++ (c.name :: (N :: W)) ++ Q) := (List.Perm.append_left P h1).append_right Q
      refine h2.trans ?_
      simp only [List.append_assoc, List.cons_append]
      exact List.perm_middle
    rw [hp.nodup_iff, List.nodup_cons]
    exact ⟨hf, ht.nodup⟩
end Go.Pv
namespace Go.Pv
open Go.RowKit Go.Proofs

/-! ### What schema.Apply does -/
theorem findR_ok {form named : Bool} {ck : Int} {l : List Tb} {c : Ch} (h : ((findR form named ck l c).2.2 == 0) = true) : form = true ∧ ValidP l ∧ 0 ≤ findF l c.table ∧ (named = true → 0 ≤ colOf l c) ∧ ck = 0 ∧ findR form named ck l c = (findF l c.table, colOf l c, 0) := by
  unfold findR at h ⊢
  cases h1 : form with
  | false => rw [h1] at h; exact absurd h (by simp)
  | true =>
    cases h2 : validF l with
    | false => rw [h1, h2] at h; exact absurd h (by simp)
    | true =>
      cases h3 : decide (findF l c.table < 0) with
      | true => rw [h1, h2, h3] at h; exact absurd h (by simp)
      | false =>
        cases h4 : (bif named then decide (colOf l c < 0) else false) with
        | true => rw [h1, h2, h3, h4] at h; exact absurd h (by simp)
        | false =>
          rw [h1, h2, h3, h4] at h
          have hck : ck = 0 := by simpa using h
          subst hck
          refine ⟨rfl, (validF_iff l).1 h2, by simpa using h3, fun hn => ?_, rfl, rfl⟩
          subst hn
          simpa using h4
/-- A change of a table that can be applied, and the table after it. -/
inductive Chg (t : Tb) (c : Ch) : Tb → Prop where
  | add (hk : c.kind = 1) (hf : formA c = true) (hc : checkA t c = 0) : Chg t c (addT t c)
  | drop (a : Nat) (hk : c.kind = 2) (hf : formD c = true) (he : columnF t.attrs c.attr = a) (ha : a < t.attrs.length) (hc : checkD t a = 0) : Chg t c (drpT t a)
  | ren (a : Nat) (hk : c.kind = 3) (hf : formR c = true) (he : columnF t.attrs c.attr = a) (ha : a < t.attrs.length) (hc : freshF t c = 0) : Chg t c (renT t c a)
  | cast (a : Nat) (hk : c.kind = 4) (hf : formC c = true) (he : columnF t.attrs c.attr = a) (ha : a < t.attrs.length) (hc : checkC t c a = 0) : Chg t c (casT t c a)
theorem Chg.right {t u : Tb} {c : Ch} (h : Chg t c u) (ht : RightP t) : RightP u := by
  cases h with
  | add hk hf hc => exact add_right ht hc
  | drop a hk hf he ha hc => exact drop_right ht ha hc
  | ren a hk hf he ha hc => exact ren_right ht ha hc
  | cast a hk hf he ha hc => exact cast_right ht ha hc
theorem Chg.name {t u : Tb} {c : Ch} (h : Chg t c u) : u.name = t.name := by
  cases h <;> rfl
theorem sameBy_len {α : Type} [Inhabited α] {bad : α → α → Bool} {a b : List α} (h : a.length ≠ b.length) : sameBy bad a b = false := by
  unfold sameBy
  have : ((a.length : Int) == (b.length : Int)) = false := by
    rw [beq_eq_false_iff_ne]; omega
  rw [this]; rfl
theorem sameBy_at {α : Type} [Inhabited α] {bad : α → α → Bool} {a b : List α} {i : Nat} (hi : i < a.length) (h : bad (a.getD i default) (b.getD i default) = true) : sameBy bad a b = false := by
  unfold sameBy
  cases h1 : !((a.length : Int) == (b.length : Int)) with
  | true => rfl
  | false =>
    rw [cond_false, Bool.not_eq_false', List.any_eq_true]
    exact ⟨i, List.mem_range.2 hi, h⟩
theorem sameBy_refl {α : Type} [Inhabited α] {bad : α → α → Bool} (h : ∀ x, bad x x = false) (a : List α) : sameBy bad a a = true := by
  unfold sameBy
  rw [beq_self_eq_true, Bool.not_true, cond_false, Bool.not_eq_true', List.any_eq_false]
  intro i _
  rw [h]; simp
theorem textsF_refl (a : List Bs) : textsF a a = true := sameBy_refl (fun x => by simp [badS, eqS_refl]) a
theorem intsF_refl (a : List Int) : intsF a a = true := sameBy_refl (fun x => by simp [badI]) a
theorem badV_refl (x : Vl) : badV x x = false := by simp [badV]
theorem badA_refl (x : At) : badA x x = false := by
  simp only [badA, eqS_refl, Bool.not_true, cond_false, bne_self_eq_false, badV_refl, textsF_refl]
theorem sameT_refl (t : Tb) : sameT t t = true := by
  unfold sameT attrsF
  rw [eqS_refl, intsF_refl, sameBy_refl badA_refl]
  rfl
theorem sameT_attrs {t u : Tb} (h : attrsF t.attrs u.attrs = false) : sameT t u = false := by
  unfold sameT
  rw [h]
  cases (bif eqS t.name u.name then intsF t.key u.key else false) <;> rfl
theorem Chg.differs {t u : Tb} {c : Ch} (h : Chg t c u) : sameT t u = false := by
  apply sameT_attrs
  cases h with
  | add hk hf hc => exact sameBy_len (by simp [addT])
  | drop a hk hf he ha hc => exact sameBy_len (by simp only [drpT, List.length_eraseIdx_of_lt ha]; omega)
  | ren a hk hf he ha hc =>
    refine sameBy_at ha ?_
    have hne : eqS (t.attrs.getD a default).name c.name = false := by
      rw [eqS_false]
      intro e
      exact (fresh_ok hc).2 (mem_names.2 ⟨_, mem_getD ha, .inl e.symm⟩)
    have hg : (renT t c a).attrs.getD a default = renAt (t.attrs.getD a default) c.name := by
      simp [renT, List.getD_eq_getElem?_getD, ha]
    rw [hg]
    simp only [badA, renAt, hne, Bool.not_false, cond_true]
  | cast a hk hf he ha hc =>
    refine sameBy_at ha ?_
    have hne : ((t.attrs.getD a default).kind != c.to) = true := by
      unfold checkC at hc
      cases h1 : (bif !typedF c then true else (t.attrs.getD a default).kind == c.to) with
      | true => rw [h1] at hc; simp at hc
      | false =>
        cases h2 : !typedF c with
        | true => rw [h2] at h1; exact absurd h1 (by simp)
        | false => rw [h2, cond_false] at h1; simpa [bne] using h1
    have hg : (casT t c a).attrs.getD a default = casAt (t.attrs.getD a default) c := by
      simp [casT, List.getD_eq_getElem?_getD, ha]
    rw [hg]
    simp only [badA, casAt, eqS_refl, Bool.not_true, cond_false, hne, cond_true]
/-- schema.Apply: an error, or a change of the table that the change names. -/
theorem f17_any (l : List Tb) (c : Ch) (hl : OkS l) (hc : OkC c) (hB : OkB l) :
    (∃ e : Int, (e == 0) = false ∧ AF Tryz.prog 17 [.d (.agg [eTs l]), .d (eC c)] [] (fun o p => o = .ret (.tup [.d (.agg [eTs []]), .d (eI e)]) ∧ p = [])) ∨
    (∃ (ti : Nat) (u : Tb), ti < l.length ∧ findF l c.table = ti ∧ ValidP l ∧ Chg (l.getD ti default) c u ∧ AF Tryz.prog 17 [.d (.agg [eTs l]), .d (eC c)] [] (fun o p => o = .ret (.tup [.d (.agg [eTs (l.set ti u)]), .d (eI 0)]) ∧ p = [])) := by
  have tab : ∀ {ti : Nat}, findF l c.table = ti → tabOf l c = l.getD ti default := fun h => by rw [tabOf, h, Int.toNat_natCast]
  have pos : 0 ≤ findF l c.table → ∃ ti : Nat, findF l c.table = ti ∧ ti < l.length := fun h => by
    have := (findF_lt (l := l) (x := c.table) (by omega)).2
    exact ⟨(findF l c.table).toNat, by omega, by omega⟩
  by_cases k1 : c.kind = 1
  · cases he : (findR (formA c) false (checkA (tabOf l c) c) l c).2.2 == 0 with
    | false => exact .inl ⟨_, he, f17ea l c k1 hl hc he⟩
    | true =>
      obtain ⟨h1, h2, h3, h4, h5, h6⟩ := findR_ok he
      obtain ⟨ti, e, hti⟩ := pos h3
      rw [e] at h6
      have hu : Chg (l.getD ti default) c (addT (l.getD ti default) c) := .add k1 h1 (by rw [← tab e]; exact h5)
      exact .inr ⟨ti, _, hti, e, h2, hu, f17oa l c k1 hl hc hB ti _ hti h6⟩
  by_cases k2 : c.kind = 2
  · cases he : (findR (formD c) true (checkD (tabOf l c) (colOf l c)) l c).2.2 == 0 with
    | false => exact .inl ⟨_, he, f17ed l c k2 hl he⟩
    | true =>
      obtain ⟨h1, h2, h3, h4, h5, h6⟩ := findR_ok he
      obtain ⟨ti, e, hti⟩ := pos h3
      obtain ⟨a, ea, ha⟩ := columnF_nat (h4 rfl)
      rw [show columnF (tabOf l c).attrs c.attr = colOf l c from rfl] at ea
      have h6 := h6.trans (show _ = ((ti : Int), (a : Int), (0 : Int)) by rw [e, ea])
      rw [ea, tab e] at h5
      rw [tab e] at ha
      have hu : Chg (l.getD ti default) c (drpT (l.getD ti default) a) := .drop a k2 h1 (by rw [← tab e]; exact ea) ha h5
      refine .inr ⟨ti, _, hti, e, h2, hu, f17od l c k2 hl hB ti a hti ha (fun k hk => ?_) h6⟩
      have hr := h2.right _ (mem_getD hti)
      have := (hr.keys k hk).2
      have := hr.max
      omega
  by_cases k3 : c.kind = 3
  · cases he : (findR (formR c) true (freshF (tabOf l c) c) l c).2.2 == 0 with
    | false => exact .inl ⟨_, he, f17er l c k3 hl hc he⟩
    | true =>
      obtain ⟨h1, h2, h3, h4, h5, h6⟩ := findR_ok he
      obtain ⟨ti, e, hti⟩ := pos h3
      obtain ⟨a, ea, ha⟩ := columnF_nat (h4 rfl)
      rw [show columnF (tabOf l c).attrs c.attr = colOf l c from rfl] at ea
      have h6 := h6.trans (show _ = ((ti : Int), (a : Int), (0 : Int)) by rw [e, ea])
      rw [tab e] at h5
      rw [tab e] at ha
      have hu : Chg (l.getD ti default) c (renT (l.getD ti default) c a) := .ren a k3 h1 (by rw [← tab e]; exact ea) ha h5
      exact .inr ⟨ti, _, hti, e, h2, hu, f17or l c k3 hl hc hB ti a hti ha h6⟩
  by_cases k4 : c.kind = 4
  · cases he : (findR (formC c) true (checkC (tabOf l c) c (colOf l c).toNat) l c).2.2 == 0 with
    | false => exact .inl ⟨_, he, f17ec l c k4 hl he⟩
    | true =>
      obtain ⟨h1, h2, h3, h4, h5, h6⟩ := findR_ok he
      obtain ⟨ti, e, hti⟩ := pos h3
      obtain ⟨a, ea, ha⟩ := columnF_nat (h4 rfl)
      rw [show columnF (tabOf l c).attrs c.attr = colOf l c from rfl] at ea
      have h6 := h6.trans (show _ = ((ti : Int), (a : Int), (0 : Int)) by rw [e, ea])
      rw [ea, tab e, Int.toNat_natCast] at h5
      rw [tab e] at ha
      have hu : Chg (l.getD ti default) c (casT (l.getD ti default) c a) := .cast a k4 h1 (by rw [← tab e]; exact ea) ha h5
      exact .inr ⟨ti, _, hti, e, h2, hu, f17oc l c k4 hl hB ti a hti ha h6⟩
  have ne : ∀ {k : Int}, c.kind ≠ k → (c.kind == k) = false := fun h => by simpa using h
  exact .inl ⟨1, rfl, f17x l c (ne k1) (ne k2) (ne k3) (ne k4) hl⟩
/-- What the bounds of 'Small' give; strings are no longer than any machine has. -/
def WideS (l : List Tb) : Prop := ∀ t ∈ l, ∀ s ∈ namesOf t.attrs, s.size ≤ maxLen
theorem namesOf_len {k : Nat} : ∀ {t : List At}, (∀ a ∈ t, a.was.length ≤ k) → (namesOf t).length ≤ (k + 1) * t.length := by
  intro t
  induction t with
  | nil => intro _; simp [namesOf]
  | cons a t ih =>
    intro hw
    have h1 := ih (fun b hb => hw b (List.mem_cons_of_mem _ hb))
    have h2 := hw a (List.mem_cons_self ..)
    have : (namesOf (a :: t)).length = a.was.length + 1 + (namesOf t).length := by
      show ((a.name :: a.was) ++ namesOf t).length = _
      rw [List.length_append, List.length_cons]
    rw [this, List.length_cons, Nat.mul_add]
    omega
structure SmallP (l : List Tb) : Prop where
  len : l.length ≤ 24
  attrs : ∀ t ∈ l, t.attrs.length ≤ 20
  key : ∀ t ∈ l, t.key.length ≤ 20
  name : ∀ t ∈ l, t.name.size ≤ 100
  was : ∀ t ∈ l, ∀ a ∈ t.attrs, a.was.length ≤ 10
  dflt : ∀ t ∈ l, ∀ a ∈ t.attrs, a.dflt.text.size ≤ 300
theorem smallS_ok {l : List Tb} (h : smallS l = true) : SmallP l := by
  unfold smallS at h
  cases h1 : decide ((l.length : Int) > 24) with
  | true => rw [h1] at h; cases h
  | false =>
    rw [h1, cond_false, Bool.not_eq_true', List.any_eq_false] at h
    have hb : ∀ t ∈ l, tabBig t = false ∧ t.attrs.any attrBig = false := fun t ht => by
      have := h t ht
      unfold tabBig2 at this
      cases h2 : tabBig t with
      | true => rw [h2] at this; exact absurd rfl this
      | false => rw [h2, cond_false] at this; exact ⟨rfl, by simpa using this⟩
    have hc : ∀ t ∈ l, t.attrs.length ≤ 20 ∧ t.key.length ≤ 20 ∧ t.name.size ≤ 100 := fun t ht => by
      have := (hb t ht).1
      unfold tabBig at this
      cases h2 : decide ((t.attrs.length : Int) > 20) with
      | true => rw [h2] at this; cases this
      | false =>
        cases h3 : decide ((t.key.length : Int) > 20) with
        | true => rw [h2, h3] at this; cases this
        | false =>
          rw [h2, h3] at this
          simp only [cond_false, decide_eq_false_iff_not] at this h2 h3
          omega
    have hd : ∀ t ∈ l, ∀ a ∈ t.attrs, a.was.length ≤ 10 ∧ a.dflt.text.size ≤ 300 := fun t ht a ha => by
      have := (List.any_eq_false.1 (hb t ht).2) a ha
      unfold attrBig at this
      cases h2 : decide ((a.was.length : Int) > 10) with
      | true => rw [h2] at this; exact absurd rfl this
      | false =>
        rw [h2] at this
        simp only [cond_false, decide_eq_true_eq, decide_eq_false_iff_not] at this h2
        omega
    refine ⟨?_, fun t ht => (hc t ht).1, fun t ht => (hc t ht).2.1, fun t ht => (hc t ht).2.2, fun t ht a ha => (hd t ht a ha).1, fun t ht a ha => (hd t ht a ha).2⟩
    have := of_decide_eq_false h1
    omega
theorem SmallP.okS {l : List Tb} (h : SmallP l) (hw : WideS l) : OkS l := by
  have big : (1000000 : Nat) ≤ maxLen := by decide
  have h0 := h.len
  refine ⟨by omega, fun t ht => ?_, fun t ht => ?_⟩
  · have h1 := h.attrs t ht
    have h2 := h.key t ht
    have h3 := h.name t ht
    have h4 := namesOf_len (h.was t ht)
    have h5 : 11 * t.attrs.length ≤ 220 := by omega
    exact ⟨by omega, fun s hs => hw t ht s hs, by omega, by omega, by omega⟩
  · have h1 := h.attrs t ht
    have h2 := h.key t ht
    refine ⟨by omega, fun a ha => ?_, by omega⟩
    have := h.was t ht a ha
    omega
theorem SmallP.okB {l : List Tb} (h : SmallP l) : OkB l := by
  have h0 := h.len
  refine ⟨by omega, fun t ht => ?_, fun t ht => ?_, fun t ht a ha => ?_⟩
  · have := h.attrs t ht; omega
  · have := h.key t ht; omega
  · have := h.was t ht a ha; omega
theorem smallF_ok {l : List Tb} {c : Ch} {n : Int} (h : smallF l c n = true) : SmallP l ∧ c.name.size ≤ 100 ∧ c.dflt.text.size ≤ 300 ∧ n ≤ 20 := by
  unfold smallF at h
  cases h1 : smallS l with
  | false => rw [h1] at h; cases h
  | true =>
    cases h2 : decide ((c.name.size : Int) ≤ 100) with
    | false => rw [h1, h2] at h; cases h
    | true =>
      cases h3 : decide ((c.dflt.text.size : Int) ≤ 300) with
      | false => rw [h1, h2, h3] at h; cases h
      | true =>
        rw [h1, h2, h3] at h
        simp only [cond_true, decide_eq_true_eq] at h h2 h3
        exact ⟨smallS_ok h1, by omega, by omega, h⟩
/-- The bounds that the result of a change keeps. -/
theorem Chg.was {t u : Tb} {c : Ch} (h : Chg t c u) (hw : ∀ a ∈ t.attrs, a.was.length ≤ 10) : ∀ a ∈ u.attrs, a.was.length ≤ 11 := by
  intro x hx
  cases h with
  | add hk hf hc =>
    have hx' : x ∈ t.attrs ∨ x = newAt c := by simpa [addT] using hx
    rcases hx' with h | rfl
    · have := hw _ h; omega
    · simp [newAt]
  | drop a hk hf he ha hc => have := hw _ (List.mem_of_mem_eraseIdx hx); omega
  | ren a hk hf he ha hc =>
    rcases List.mem_or_eq_of_mem_set hx with h | rfl
    · have := hw _ h; omega
    · have := hw _ (mem_getD (α := At) ha)
      show ((t.attrs.getD a default).was ++ [(t.attrs.getD a default).name]).length ≤ 11
      rw [List.length_append, List.length_singleton]; omega
  | cast a hk hf he ha hc =>
    rcases List.mem_or_eq_of_mem_set hx with h | rfl
    · have := hw _ h; omega
    · have := hw _ (mem_getD (α := At) ha)
      show (t.attrs.getD a default).was.length ≤ 11
      omega
theorem nameF_size {s : Bs} (h : nameF s = true) : s.size ≤ 24 := by
  unfold nameF at h
  rw [Bool.and_eq_true] at h
  cases h1 : !(s.toList == []) with
  | false => rw [h1] at h; exact absurd h.2 (by simp)
  | true =>
    rw [h1] at h
    have := of_decide_eq_true h.2
    omega
theorem RightP.ok {t : Tb} (ht : RightP t) (hw : ∀ a ∈ t.attrs, a.was.length ≤ 11) (hk : t.key.length ≤ 20) : OkN t ∧ OkT t := by
  have big : (1000000 : Nat) ≤ maxLen := by decide
  have h1 := ht.max
  have h2 := namesOf_len hw
  have h3 : 12 * t.attrs.length ≤ 144 := by omega
  refine ⟨⟨?_, fun s hs => ?_, by omega, by omega, by omega⟩, ⟨by omega, fun a ha => ?_, by omega⟩⟩
  · have := nameF_size ht.name; omega
  · have := nameF_size (ht.names s hs); omega
  · have := hw a ha; omega
theorem Chg.key {t u : Tb} {c : Ch} (h : Chg t c u) : u.key.length = t.key.length := by
  cases h <;> simp [addT, drpT, renT, casT]
theorem OkS.set {l : List Tb} {c : Ch} {ti : Nat} {u : Tb} (hl : OkS l) (hs : SmallP l) (hv : ValidP l) (hti : ti < l.length) (h : Chg (l.getD ti default) c u) : OkS (l.set ti u) := by
  have hm := mem_getD (α := Tb) hti
  have hu := (h.right (hv.right _ hm)).ok (h.was (hs.was _ hm)) (by rw [h.key]; exact hs.key _ hm)
  refine ⟨by rw [List.length_set]; exact hl.len, fun t ht => ?_, fun t ht => ?_⟩
  · rcases List.mem_or_eq_of_mem_set ht with h | rfl
    · exact hl.n t h
    · exact hu.1
  · rcases List.mem_or_eq_of_mem_set ht with h | rfl
    · exact hl.t t h
    · exact hu.2
theorem ValidP.set {l : List Tb} {c : Ch} {ti : Nat} {u : Tb} (hv : ValidP l) (hti : ti < l.length) (h : Chg (l.getD ti default) c u) : ValidP (l.set ti u) :=
  valid_set hv hti h.name (h.right (hv.right _ (mem_getD hti)))
/-- A table that the change does not name is not changed. -/
theorem set_same {l : List Tb} {c : Ch} {ti i : Nat} {u : Tb} (hi : i < l.length) (hf : findF l c.table = ti) (hne : eqS (l.getD i default).name c.table = false) : (l.set ti u).getD i default = l.getD i default := by
  refine getD_set_ne fun e => ?_
  rw [eqS_false] at hne
  subst e
  obtain ⟨n, h1, h2, h3, _⟩ := idx_nat (p := fun t : Tb => eqS t.name c.table) (l := l) (by rw [show idx _ l = findF l c.table from rfl, hf]; omega)
  have : n = i := by
    have : findF l c.table = n := h1
    omega
  subst this
  exact hne (eqS_iff.1 h3)
end Go.Pv
