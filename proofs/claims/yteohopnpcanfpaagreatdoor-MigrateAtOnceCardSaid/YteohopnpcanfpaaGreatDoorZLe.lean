/- Part of the proofs over this seat: Lw11 V45. -/
import Derived.Test.YteohopnpcanfpaaGreatDoorZLd
set_option maxRecDepth 100000
namespace Go.Pv
open Go.RowKit Go.Proofs

/-! ### Migrations: the plain laws -/
theorem shortR_len {r : Rw} (h : shortR r = true) : r.length ≤ 20 := by
  unfold shortR at h
  cases h1 : r.any longV with
  | true => rw [h1] at h; cases h
  | false =>
    rw [h1, cond_false] at h
    have := of_decide_eq_true h
    omega
theorem fewT_ok {l : List (List Rw)} (h : fewT l = true) : l.length ≤ 6 ∧ ∀ r, r ∈ l → r.length ≤ 20 ∧ ∀ x, x ∈ r → x.length ≤ 20 := by
  unfold fewT at h
  cases h1 : decide ((l.length : Int) > 6) with
  | true => rw [h1] at h; cases h
  | false =>
    rw [h1, cond_false, Bool.not_eq_true', List.any_eq_false] at h
    have h1' := of_decide_eq_false h1
    refine ⟨by omega, fun r hr => ?_⟩
    have h2 := h r hr
    unfold fewBad at h2
    cases h3 : decide ((r.length : Int) > 20) with
    | true => rw [h3] at h2; exact absurd rfl h2
    | false =>
      rw [h3, cond_false] at h2
      have h3' := of_decide_eq_false h3
      refine ⟨by omega, fun x hx => ?_⟩
      have h4 : r.any badR = false := by simpa using h2
      have h5 := (List.any_eq_false.1 h4) x hx
      refine shortR_len ?_
      cases hs : shortR x with
      | true => rfl
      | false => exact absurd (by rw [badR, hs]; rfl) h5
theorem smallM_ok {S : List Tb} {tabs : List (List Rw)} {ops : List Opn} (h : smallM S tabs ops = true) : SmallP S ∧ (tabs.length ≤ 6 ∧ ∀ r, r ∈ tabs → r.length ≤ 20 ∧ ∀ x, x ∈ r → x.length ≤ 20) ∧ ops.length ≤ 20 ∧ ∀ o, o ∈ ops → o.row.length ≤ 20 := by
  unfold smallM at h
  cases h1 : smallS S with
  | false => rw [h1] at h; cases h
  | true =>
    cases h2 : fewT tabs with
    | false => rw [h1, h2] at h; cases h
    | true =>
      cases h3 : decide ((ops.length : Int) > 20) with
      | true => rw [h1, h2, h3] at h; cases h
      | false =>
        rw [h1, h2, h3] at h
        have h4 : ops.any badO = false := by simpa using h
        have h3' := of_decide_eq_false h3
        refine ⟨smallS_ok h1, fewT_ok h2, by omega, fun o ho => shortR_len ?_⟩
        have h5 := (List.any_eq_false.1 h4) o ho
        cases hs : shortR o.row with
        | true => rfl
        | false => exact absurd (by rw [badO, hs]; rfl) h5
theorem fitT_ok {S : List Tb} {tabs : List (List Rw)} (h : fitT S tabs = true) : tabs.length = S.length ∧ ∀ i, i < tabs.length → ∀ r, r ∈ tabs.getD i [] → fitsF (S.getD i default) r = true := by
  unfold fitT at h
  rw [Bool.and_eq_true, decide_eq_true_eq, List.all_eq_true] at h
  refine ⟨h.1, fun i hi r hr => ?_⟩
  have h1 := h.2 i (List.mem_range.2 hi)
  rw [Bool.not_eq_true', badRows, decide_eq_false_iff_not] at h1
  have := idx_neg (p := fun r => !fitsF (S.getD i default) r) (l := tabs.getD i []) (by omega) r hr
  simpa using this
/-- What holds of a migration under way. -/
structure Mg.Inv (m : Mg) : Prop where
  ok : m.OK
  err : errX m.old m.ch = 0
  tab : findF m.old m.ch.table = (m.tab : Int)
  next : m.next = (applyX m.old m.ch).1
  fit : ∀ i, i < m.tabs.length → ∀ r, r ∈ m.tabs.getD i [] → fitsF (m.old.getD i default) r = true
  conv : ∀ q, q < m.done.length → convX m.old m.ch m.tab (m.rows.getD q []) = (m.done.getD q [], 0)
  bad : m.failed = true → m.done.length < m.rows.length ∧ (convX m.old m.ch m.tab (m.rows.getD m.done.length [])).2 ≠ 0
theorem startM_inv {S : List Tb} {c : Ch} {tabs : List (List Rw)} (hS : OkS S) (hc : OkC c) (h6 : tabs.length ≤ 6) (hr : ∀ r, r ∈ tabs → r.length ≤ 20 ∧ ∀ x, x ∈ r → x.length ≤ 20) (he : startE S c tabs = 0) : (startM S c tabs).Inv := by
  obtain ⟨g1, g2, g3, g4⟩ := startE_zero he
  obtain ⟨_, _, ⟨ti, hti, htl, _⟩, _⟩ := errX_zero g4
  obtain ⟨f1, f2⟩ := fitT_ok g2
  have ht : (startM S c tabs).tab = ti := by show (findF S c.table).toNat = ti; omega
  refine ⟨⟨hS, hc, by rw [ht]; show ti < tabs.length; omega, by show tabs.length ≤ 1000; omega, fun r h => by have := (hr r h).1; omega, fun r h x hx => by have := (hr r h).2 x hx; omega, Nat.zero_le _, f1.symm⟩, g4, by rw [ht]; exact hti, rfl, f2, fun q hq => absurd hq (Nat.not_lt_zero q), fun h => by cases h⟩
theorem getD_app {α : Type} {L : List α} {x d : α} {q : Nat} (h : q < L.length) : (L ++ [x]).getD q d = L.getD q d := by
  simp [List.getD_eq_getElem?_getD, List.getElem?_append_left h]
theorem getD_lst {α : Type} {L : List α} {x d : α} : (L ++ [x]).getD L.length d = x := by
  simp [List.getD_eq_getElem?_getD]
theorem stepM_inv {m : Mg} (h : m.Inv) (hf : m.failed = false) (hl : m.done.length < m.rows.length) : (stepM m).Inv := by
  have hs := stepM_same m
  have hok := stepM_ok h.ok hl
  by_cases e : (convX m.old m.ch m.tab (m.rows.getD m.done.length [])).2 = 0
  · have h1 : stepM m = { m with done := m.done ++ [(convX m.old m.ch m.tab (m.rows.getD m.done.length [])).1] } := by rw [stepM, if_pos e]
    rw [h1] at hok ⊢
    refine ⟨hok, h.err, h.tab, h.next, h.fit, fun q hq => ?_, fun hb => by rw [hf] at hb; cases hb⟩
    show convX m.old m.ch m.tab (m.rows.getD q []) = ((m.done ++ [_]).getD q [], 0)
    by_cases hq' : q < m.done.length
    · rw [getD_app hq']
      exact h.conv q hq'
    · have hq2 : q = m.done.length := by
        have : q < (m.done ++ [(convX m.old m.ch m.tab (m.rows.getD m.done.length [])).1]).length := hq
        simp only [List.length_append, List.length_singleton] at this
        omega
      subst hq2
      rw [getD_lst, ← e]
  · have h1 : stepM m = { m with failed := true } := by rw [stepM, if_neg e]
    rw [h1] at hok ⊢
    exact ⟨hok, h.err, h.tab, h.next, h.fit, h.conv, fun _ => ⟨hl, e⟩⟩
theorem goM_inv : ∀ (k : Nat) {m : Mg}, m.Inv → m.done.length + k ≤ m.rows.length → (goM k m).Inv
  | 0, _, h, _ => h
  | k + 1, m, h, hk => by
    unfold goM
    by_cases hf : m.failed = true
    · rw [if_pos hf]; exact h
    · rw [if_neg hf]
      have := stepM_len m
      exact goM_inv k (stepM_inv h (by simpa using hf) (by omega)) (by rw [(stepM_same m).rows]; omega)
theorem stepN_le (m : Mg) (n : Int) (h : m.OK) : m.done.length + stepN m n ≤ m.rows.length := by
  have hN : stepN m n ≤ m.left := by unfold stepN; omega
  unfold Mg.left at hN
  have hd : m.done.length ≤ m.rows.length := h.done
  omega
theorem putM_inv {m : Mg} {t : Nat} {row : Rw} (h : m.Inv) (ht : t < m.tabs.length) (hr : row.length ≤ 1000000) (hl : (m.tabs.getD t []).length < 100000) (hf : fitsF (m.old.getD t default) row = true) : (putM m t row).Inv := by
  have hrows : ∀ q, q < m.rows.length → (putM m t row).rows.getD q [] = m.rows.getD q [] := by
    intro q hq
    show ((m.tabs.set t (m.tabs.getD t [] ++ [row])).getD m.tab []).getD q [] = (m.tabs.getD m.tab []).getD q []
    have hq' : q < (m.tabs.getD m.tab []).length := hq
    by_cases e : m.tab = t
    · rw [e] at hq' ⊢
      rw [getD_set_self ht, getD_app hq']
    · rw [getD_set_neL e]
  have hlen : m.rows.length ≤ (putM m t row).rows.length := by
    show (m.tabs.getD m.tab []).length ≤ ((m.tabs.set t (m.tabs.getD t [] ++ [row])).getD m.tab []).length
    by_cases e : m.tab = t
    · rw [e, getD_set_self ht, List.length_append]; omega
    · rw [getD_set_neL e]; omega
  have hd : m.done.length ≤ m.rows.length := h.ok.done
  refine ⟨putM_ok h.ok ht hr hl, h.err, h.tab, h.next, fun i hi r hr => ?_, fun q hq => ?_, fun hb => ?_⟩
  · have hi' : i < m.tabs.length := by
      have : i < (m.tabs.set t _).length := hi
      rwa [List.length_set] at this
    have hr' : r ∈ (m.tabs.set t (m.tabs.getD t [] ++ [row])).getD i [] := hr
    by_cases e : i = t
    · subst e
      rw [getD_set_self ht] at hr'
      rcases List.mem_append.1 hr' with h1 | h1
      · exact h.fit i hi' r h1
      · rw [List.mem_singleton.1 h1]; exact hf
    · rw [getD_set_neL e] at hr'
      exact h.fit i hi' r hr'
  · have hq' : q < m.done.length := hq
    rw [hrows q (by omega)]
    exact h.conv q hq'
  · obtain ⟨h1, h2⟩ := h.bad hb
    refine ⟨Nat.lt_of_lt_of_le h1 hlen, ?_⟩
    show (convX m.old m.ch m.tab ((putM m t row).rows.getD m.done.length [])).2 ≠ 0
    rw [hrows _ h1]
    exact h2
/-- What operations keep. -/
structure Mg.Base (m m' : Mg) : Prop where
  old : m'.old = m.old
  ch : m'.ch = m.ch
  next : m'.next = m.next
  tab : m'.tab = m.tab
theorem opM_inv {m : Mg} {o : Opn} {B : Nat} (h : m.Inv) (hB : ∀ r, r ∈ m.tabs → r.length ≤ B) (hB2 : B < 100000) (ho : o.row.length ≤ 20) : (opM m o).Inv ∧ m.Base (opM m o) ∧ ∀ r, r ∈ (opM m o).tabs → r.length ≤ B + 1 := by
  unfold opM
  by_cases hk : (o.kind.tmod 2 == 0) = true
  · rw [if_pos hk]
    have hs := goM_same (stepN m o.n) m
    refine ⟨goM_inv _ h (stepN_le m o.n h.ok), ⟨hs.old, hs.ch, hs.next, hs.tab⟩, fun r hr => ?_⟩
    rw [hs.tabs] at hr
    have := hB r hr
    omega
  · rw [if_neg hk]
    cases hp : putE m o.n o.row with
    | true => rw [if_pos rfl]; exact ⟨h, ⟨rfl, rfl, rfl, rfl⟩, fun r hr => by have := hB r hr; omega⟩
    | false =>
      rw [if_neg (by decide)]
      obtain ⟨k, hk1, hk2, hk3⟩ := putE_lt hp
      have hkk : o.n.toNat = k := by omega
      rw [hkk]
      have hl : (m.tabs.getD k []).length ≤ B := hB _ (mem_getD (α := List Rw) hk2)
      refine ⟨putM_inv h hk2 (by omega) (by omega) hk3, ⟨rfl, rfl, rfl, rfl⟩, fun r hr => ?_⟩
      rcases mem_setL hr with hr | rfl
      · have := hB r hr; omega
      · simp only [List.length_append, List.length_singleton]; omega
theorem playM_inv : ∀ (l : List Opn) {m : Mg} {B : Nat}, m.Inv → (∀ r, r ∈ m.tabs → r.length ≤ B) → B + l.length < 100000 → (∀ o, o ∈ l → o.row.length ≤ 20) → (playM m l).Inv ∧ m.Base (playM m l) ∧ ∀ r, r ∈ (playM m l).tabs → r.length ≤ B + l.length
  | [], m, B, h, hB, _, _ => ⟨h, ⟨rfl, rfl, rfl, rfl⟩, hB⟩
  | o :: l, m, B, h, hB, hl, ho => by
    simp only [List.length_cons] at hl
    obtain ⟨h1, h2, h3⟩ := opM_inv h hB (by omega) (ho o (by simp))
    obtain ⟨k1, k2, k3⟩ := playM_inv l h1 h3 (by omega) (fun o h => ho o (by simp [h]))
    refine ⟨k1, ⟨k2.old.trans h2.old, k2.ch.trans h2.ch, k2.next.trans h2.next, k2.tab.trans h2.tab⟩, fun r hr => ?_⟩
    have := k3 r hr
    simp only [List.length_cons]
    omega
/-- As many rounds as rows are left: it has failed, or nothing is left. -/
theorem goM_full : ∀ (k : Nat) (m : Mg), m.done.length + k = m.rows.length → (goM k m).failed = true ∨ (goM k m).done.length = (goM k m).rows.length
  | 0, m, h => .inr h
  | k + 1, m, h => by
    unfold goM
    by_cases hf : m.failed = true
    · rw [if_pos hf]; exact .inl hf
    · rw [if_neg hf]
      by_cases e : (convX m.old m.ch m.tab (m.rows.getD m.done.length [])).2 = 0
      · refine goM_full k _ ?_
        rw [(stepM_same m).rows, stepM, if_pos e]
        simp only [List.length_append, List.length_singleton]
        omega
      · refine .inl ?_
        rw [stepM, if_neg e, goM_failed _ _ rfl]
theorem sameTt_refl (l : List (List Rw)) : sameTt l l = true := sameBy_refl (fun x => by
  have : sameRs x x = true := sameBy_refl (fun y => by
    have : rowsF y y = true := sameBy_refl badV_refl y
    rw [badW, this]; rfl) x
  rw [badRs, this]; rfl) l
/-- One Step. -/
theorem step_left {m : Mg} (k : Nat) (hk : m.done.length + k ≤ m.rows.length) : (goM k m).left ≤ m.left ∧ m.left ≤ (goM k m).left + k ∧ ((goM k m).failed = false → (goM k m).left + k = m.left) ∧ (m.failed = true → (goM k m).failed = true) := by
  induction k generalizing m with
  | zero => exact ⟨Nat.le_refl _, Nat.le_refl _, fun _ => rfl, fun h => h⟩
  | succ k ih =>
    unfold goM
    by_cases hf : m.failed = true
    · rw [if_pos hf]
      exact ⟨Nat.le_refl _, by omega, (fun h => by rw [hf] at h; cases h), fun h => h⟩
    · rw [if_neg hf]
      have hlen := stepM_len m
      have hs := (stepM_same m).rows
      by_cases e : (convX m.old m.ch m.tab (m.rows.getD m.done.length [])).2 = 0
      · have h1 : (stepM m).done.length = m.done.length + 1 := by rw [stepM, if_pos e]; simp
        obtain ⟨i1, i2, i3, i4⟩ := ih (m := stepM m) (by rw [hs]; omega)
        have hl : (stepM m).left + 1 = m.left := by
          unfold Mg.left
          rw [hs, h1]
          omega
        exact ⟨by omega, by omega, (fun h => by have := i3 h; omega), fun h => absurd h hf⟩
      · have h1 : stepM m = { m with failed := true } := by rw [stepM, if_neg e]
        rw [h1, goM_failed _ _ rfl]
        have hl : ({ m with failed := true } : Mg).left = m.left := rfl
        refine ⟨by rw [hl]; exact Nat.le_refl _, by rw [hl]; omega, (fun h => by cases h), fun _ => rfl⟩
end Go.Pv
namespace Go.Pv
open Go.RowKit Go.Proofs

structure WideM (S : List Tb) (c : Ch) (tabs : List (List Rw)) (ops : List Opn) : Prop where
  wS : WideS S
  wc : c.name.size ≤ maxLen
  wt : tabs.length ≤ maxLen
  wr : ∀ r, r ∈ tabs → ∀ x, x ∈ r → x.length ≤ maxLen
  wo : ∀ o, o ∈ ops → o.row.length ≤ maxLen
theorem small_of {b : Bool} (h : (!b) = false) : b = true := by simpa using h
set_option maxHeartbeats 4000000 in
/-- cleanselaw43.MigrateNothing. -/
theorem f11 (S : List Tb) (c : Ch) (tabs : List (List Rw)) (ops : List Opn) (hw : WideM S c tabs ops) : AF Tryz.prog 11 [.d (.agg [eTs S]), .d (eC c), .d (eTt tabs), .d (eOs ops)] [] (fun o p => o = .ret (.d (.lit (.bool true))) ∧ p = []) := by
  refine AF.intro hT Tryz.func11 rfl (by kernel_rfl) (Nat.le_of_ble_eq_true rfl) ?_
  repeat (first | refine wA0 rfl rfl rfl rfl ?_ | refine AL.nil ?_ | refine AW.seq ?_ | refine AW.region ?_ | refine bA rfl rfl rfl rfl rfl rfl ?_)
  refine AL.call0 rfl rfl rfl (f34) rfl rfl rfl ?_
  repeat (first | refine wA0 rfl rfl rfl rfl ?_ | refine AL.nil ?_ | refine AW.seq ?_ | refine AW.region ?_)
  refine AL.call0 rfl rfl rfl (f35 S tabs ops hw.wt hw.wr hw.wo) rfl rfl rfl ?_
  repeat (first | refine wA0 rfl rfl rfl rfl ?_ | refine AL.nil ?_)
  refine AW.cond rfl (fun h0 => ?_) (fun h0 => ?_)
  · repeat' (first | refine wA0 rfl rfl rfl rfl ?_ | refine AL.nil ?_ | refine AW.seq ?_ | refine AW.region ?_ | (refine AW.ret ?_; refine ⟨[], _, _, rfl, rfl, ⟨?_, rfl⟩, rfl⟩))
    rfl
  · obtain ⟨hS, ⟨h6, hr⟩, h20, ho⟩ := smallM_ok (small_of h0)
    have big : (1000000 : Nat) ≤ maxLen := by decide
    have hSS := hS.okS hw.wS
    have hcc : OkC c := ⟨hw.wc⟩
    have hr1 : ∀ r, r ∈ tabs → r.length ≤ 100000 := fun r h => by have := (hr r h).1; omega
    have hr2 : ∀ r, r ∈ tabs → ∀ x, x ∈ r → x.length ≤ 1000000 := fun r h x hx => by have := (hr r h).2 x hx; omega
    repeat (first | refine wA0 rfl rfl rfl rfl ?_ | refine AW.seq ?_ | refine AW.region ?_ | refine AW.skip ?_)
    by_cases he : startE S c tabs = 0
    · have hi := startM_inv hSS hcc h6 hr he
      have h36 := f36 S c tabs hSS hcc hS.okB (by omega) hr1 hr2 he
      obtain ⟨m, hm⟩ : ∃ m, m = startM S c tabs := ⟨_, rfl⟩
      rw [← hm] at h36 hi
      obtain rfl : m.tabs = tabs := by rw [hm]; rfl
      clear hm
      obtain ⟨hU, hb, hUr⟩ := playM_inv ops hi (fun r h => (hr r h).1) (by omega) ho
      have h47 := f47 m ops hi.ok h20 (fun r h => (hr r h).1) (fun o h => by have := ho o h; omega)
      generalize playM m ops = U at hU hb hUr h47
      refine AL.effN _ (VE.call [] [.loc 200,.loc 201,.loc 202,.loc 203,.loc 204,.loc 205] rfl rfl rfl rfl rfl (h36) (fun _ _ h => h) rfl) rfl rfl rfl rfl rfl ?_
      repeat (first | refine wA0 rfl rfl rfl rfl ?_ | refine AL.nil ?_ | refine AW.seq ?_ | refine AW.region ?_)
      refine AW.condF rfl rfl ?_
      repeat (first | refine wA0 rfl rfl rfl rfl ?_ | refine AW.seq ?_ | refine AW.region ?_ | refine AW.skip ?_)
      refine AL.effN _ (VE.call [.loc 200,.loc 201,.loc 202,.loc 203,.loc 204,.loc 205] [.loc 206,.loc 207] rfl rfl rfl rfl rfl (h47) (fun _ _ h => h) rfl) rfl rfl rfl rfl rfl ?_
      refine AL.weak (Weak.freezeM 35 (.loc 207) (fun q => eRs (U.tabs.getD q [])) rfl rfl rfl rfl rfl (fun q _ => rfl) rfl) ?_
      repeat (first | refine wA0 rfl rfl rfl rfl ?_ | refine AL.nil ?_ | refine AW.seq ?_ | refine AW.region ?_)
      refine AL.effN _ (VE.call [.loc 200,.loc 201,.loc 206,.loc 203,.loc 204,.loc 205] [] rfl rfl rfl rfl rfl (f45 U hU.ok) (fun _ _ h => h) rfl) rfl rfl rfl rfl rfl ?_
      repeat (first | refine wA0 rfl rfl rfl rfl ?_ | refine wA1 rfl rfl rfl rfl rfl ?_ | refine AL.nil ?_ | refine AW.seq ?_ | refine AW.region ?_)
      refine kA1 rfl rfl rfl rfl (fun hγ => f44 U.tabs U.tabs (Nat.le_trans hU.ok.len (by omega)) (fun r h => Nat.le_trans (hU.ok.rows r h) (by omega)) (fun r h x hx => Nat.le_trans (hU.ok.row r h x hx) (by omega))) rfl rfl rfl ?_
      repeat' (first | refine wA0 rfl rfl rfl rfl ?_ | refine AL.nil ?_ | (refine AW.ret ?_; refine ⟨[], _, _, rfl, rfl, ⟨?_, rfl⟩, rfl⟩))
      rw [sameTt_refl]
      rfl
    · refine AL.call0 rfl rfl rfl (f36e S c tabs hSS hcc hS.okB (by omega) hr1 hr2 he) rfl rfl rfl ?_
      repeat (first | refine wA0 rfl rfl rfl rfl ?_ | refine AL.nil ?_ | refine AW.seq ?_ | refine AW.region ?_)
      refine AW.condT rfl (by simpa using he) ?_
      repeat' (first | refine wA0 rfl rfl rfl rfl ?_ | refine AL.nil ?_ | refine AW.seq ?_ | refine AW.region ?_ | (refine AW.ret ?_; refine ⟨[], _, _, rfl, rfl, ⟨?_, rfl⟩, rfl⟩))
      rfl
end Go.Pv
