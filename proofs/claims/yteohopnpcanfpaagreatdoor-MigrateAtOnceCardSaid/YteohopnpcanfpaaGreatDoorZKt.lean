/- Part of the proofs over this seat: Lw7 V27. -/
import Derived.Test.YteohopnpcanfpaaGreatDoorZKr
import Derived.Test.YteohopnpcanfpaaGreatDoorZKs
set_option maxRecDepth 100000
namespace Go.Pv
open Go.RowKit Go.Proofs

/-! ### Where the names of a changed table lead -/
def namesAt (x : At) : List Bs := x.name :: x.was
theorem names_uniq {l : List At} (hd : (namesOf l).Nodup) {i j : Nat} (hi : i < l.length) (hj : j < l.length) {s : Bs} (h1 : s ∈ namesAt (l.getD i default)) (h2 : s ∈ namesAt (l.getD j default)) : i = j := by
  have key : ∀ {i j : Nat}, i < l.length → j < l.length → i < j → s ∈ namesAt (l.getD i default) → s ∈ namesAt (l.getD j default) → False := by
    intro i j hi hj hij h1 h2
    rw [split_at hj, namesOf_mid, List.append_assoc, List.nodup_append] at hd
    refine hd.2.2 s ?_ s (List.mem_append_left _ h2) rfl
    refine mem_names.2 ⟨l.getD i default, ?_, ?_⟩
    · rw [List.mem_iff_getElem]
      exact ⟨i, by rw [List.length_take]; omega, by simp [List.getD_eq_getElem?_getD, hi]⟩
    · simpa [namesAt] using h1
  rcases Nat.lt_trichotomy i j with h | h | h
  · exact (key hi hj h h1 h2).elim
  · exact h
  · exact (key hj hi h h2 h1).elim
theorem column_at {l : List At} (hd : (namesOf l).Nodup) {i : Nat} (hi : i < l.length) {s : Bs} (hs : s ∈ namesAt (l.getD i default)) : columnF l s = i := by
  unfold columnF
  cases h1 : decide (idx (fun t : At => eqS t.name s) l ≥ 0) with
  | true =>
    have h1' := of_decide_eq_true h1
    obtain ⟨n, e, hn, hp, _⟩ := idx_nat (p := fun t : At => eqS t.name s) (l := l) h1'
    have hp' : (l.getD n default).name = s := eqS_iff.1 hp
    have : n = i := names_uniq hd hn hi (s := s) (List.mem_cons.2 (.inl hp'.symm)) hs
    rw [cond_true, e, this]
  | false =>
    have h1' := of_decide_eq_false h1
    have hx := mem_getD (α := At) hi
    have hw : s ∈ (l.getD i default).was := by
      rcases List.mem_cons.1 hs with rfl | h
      · exact absurd (idx_nonneg (p := fun t : At => eqS t.name (l.getD i default).name) hx (eqS_refl _)) h1'
      · exact h
    have h2 := idx_nonneg (p := fun t : At => hasS t.was s) hx (hasS_iff.2 hw)
    obtain ⟨n, e, hn, hp, _⟩ := idx_nat (p := fun t : At => hasS t.was s) (l := l) h2
    have hp' : s ∈ (l.getD n default).was := hasS_iff.1 hp
    have : n = i := names_uniq hd hn hi (s := s) (List.mem_cons.2 (.inr hp')) hs
    rw [cond_false, e, this]
/-- cleanselaw06.moved. -/
def movedF (t : Tb) (c : Ch) (i : Int) : Int := bif c.kind != 2 then i else bif i == columnF t.attrs c.attr then -1 else bif decide (i > columnF t.attrs c.attr) then i - 1 else i
theorem moved_same {t : Tb} {c : Ch} {i : Int} (h : c.kind ≠ 2) : movedF t c i = i := by
  unfold movedF
  have : (c.kind != 2) = true := by simpa using h
  rw [this]; rfl
theorem moved_drop {t : Tb} {c : Ch} {i a : Int} (h : c.kind = 2) (ha : columnF t.attrs c.attr = a) : movedF t c i = if i = a then -1 else if i > a then i - 1 else i := by
  unfold movedF
  have : (c.kind != 2) = false := by simp [h]
  rw [this, ha, cond_false]
  by_cases h1 : i = a
  · simp [h1]
  · have e1 : (i == a) = false := by simpa using h1
    rw [e1, cond_false, if_neg h1]
    by_cases h2 : i > a
    · simp [h2]
    · simp [h2]
theorem getD_erase_lt {l : List At} {a i : Nat} (h : i < a) : (l.eraseIdx a).getD i default = l.getD i default := by
  simp [List.getD_eq_getElem?_getD, List.getElem?_eraseIdx, h]
theorem getD_erase_ge {l : List At} {a i : Nat} (h : a ≤ i) : (l.eraseIdx a).getD i default = l.getD (i + 1) default := by
  simp [List.getD_eq_getElem?_getD, List.getElem?_eraseIdx, Nat.not_lt.2 h]
/-- Where an attribute that stays lies in the changed table, and that it has kept its names. -/
theorem Chg.at {t u : Tb} {c : Ch} (h : Chg t c u) {i : Nat} (hi : i < t.attrs.length) (hm : 0 ≤ movedF t c i) : ∃ j : Nat, movedF t c i = j ∧ j < u.attrs.length ∧ ∀ s ∈ namesAt (t.attrs.getD i default), s ∈ namesAt (u.attrs.getD j default) := by
  cases h with
  | add hk hf hc =>
    refine ⟨i, moved_same (by omega), by simp [addT]; omega, fun s hs => ?_⟩
    have : (addT t c).attrs.getD i default = t.attrs.getD i default := by
      simp [addT, List.getD_eq_getElem?_getD, hi, List.getElem?_append_left]
    rw [this]; exact hs
  | drop a hk hf he ha hc =>
    have hlen : (drpT t a).attrs.length = t.attrs.length - 1 := by simp [drpT, List.length_eraseIdx_of_lt, ha]
    rw [moved_drop hk he] at hm ⊢
    by_cases h1 : (i : Int) = a
    · rw [if_pos h1] at hm; omega
    · rw [if_neg h1] at hm ⊢
      by_cases h2 : (i : Int) > a
      · rw [if_pos h2]
        refine ⟨i - 1, by omega, by omega, fun s hs => ?_⟩
        have : (drpT t a).attrs.getD (i - 1) default = t.attrs.getD i default := by
          show (t.attrs.eraseIdx a).getD (i - 1) default = _
          rw [getD_erase_ge (by omega)]
          congr 1; omega
        rw [this]; exact hs
      · rw [if_neg h2]
        refine ⟨i, rfl, by omega, fun s hs => ?_⟩
        have : (drpT t a).attrs.getD i default = t.attrs.getD i default := getD_erase_lt (by omega)
        rw [this]; exact hs
  | ren a hk hf he ha hc =>
    refine ⟨i, moved_same (by omega), by simpa [renT] using hi, fun s hs => ?_⟩
    by_cases h1 : i = a
    · subst h1
      have : (renT t c i).attrs.getD i default = renAt (t.attrs.getD i default) c.name := by simp [renT, List.getD_eq_getElem?_getD, ha]
      rw [this]
      show s ∈ c.name :: ((t.attrs.getD i default).was ++ [(t.attrs.getD i default).name])
      rcases List.mem_cons.1 hs with rfl | hs
      · simp
      · exact List.mem_cons.2 (.inr (List.mem_append_left _ hs))
    · have : (renT t c a).attrs.getD i default = t.attrs.getD i default := by
        have h1' : ¬ a = i := fun e => h1 e.symm
        simp [renT, List.getD_eq_getElem?_getD, h1']
      rw [this]; exact hs
  | cast a hk hf he ha hc =>
    refine ⟨i, moved_same (by omega), by simpa [casT] using hi, fun s hs => ?_⟩
    by_cases h1 : i = a
    · subst h1
      have : (casT t c i).attrs.getD i default = casAt (t.attrs.getD i default) c := by simp [casT, List.getD_eq_getElem?_getD, ha]
      rw [this]; exact hs
    · have : (casT t c a).attrs.getD i default = t.attrs.getD i default := by
        have h1' : ¬ a = i := fun e => h1 e.symm
        simp [casT, List.getD_eq_getElem?_getD, h1']
      rw [this]; exact hs
theorem Chg.column {t u : Tb} {c : Ch} (h : Chg t c u) (ht : RightP t) {i : Nat} (hi : i < t.attrs.length) (hm : 0 ≤ movedF t c i) {s : Bs} (hs : s ∈ namesAt (t.attrs.getD i default)) : columnF u.attrs s = movedF t c i := by
  obtain ⟨j, e, hj, hn⟩ := h.at hi hm
  rw [e]
  exact column_at (h.right ht).nodup hj (hn s hs)
theorem Chg.new_add {t u : Tb} {c : Ch} (h : Chg t c u) (ht : RightP t) (hk : c.kind = 1) : columnF u.attrs c.name = t.attrs.length := by
  have hr := h.right ht
  cases h with
  | add _ hf hc =>
    refine column_at hr.nodup (by simp [addT]) ?_
    have : (addT t c).attrs.getD t.attrs.length default = newAt c := by simp [addT, List.getD_eq_getElem?_getD]
    rw [this]
    exact List.mem_cons_self ..
  | drop a hk' hf he ha hc => omega
  | ren a hk' hf he ha hc => omega
  | cast a hk' hf he ha hc => omega
theorem Chg.new_ren {t u : Tb} {c : Ch} (h : Chg t c u) (ht : RightP t) (hk : c.kind = 3) : columnF u.attrs c.name = columnF t.attrs c.attr := by
  have hr := h.right ht
  cases h with
  | ren a _ hf he ha hc =>
    rw [he]
    refine column_at hr.nodup (by simpa [renT] using ha) ?_
    have : (renT t c a).attrs.getD a default = renAt (t.attrs.getD a default) c.name := by simp [renT, List.getD_eq_getElem?_getD, ha]
    rw [this]
    exact List.mem_cons_self ..
  | add hk' hf hc => omega
  | drop a hk' hf he ha hc => omega
  | cast a hk' hf he ha hc => omega
theorem Chg.keyAt {t u : Tb} {c : Ch} (h : Chg t c u) {i : Nat} (hi : i < t.key.length) : u.key.getD i 0 = movedF t c (t.key.getD i 0) := by
  cases h with
  | add hk hf hc => rw [moved_same (by omega)]; rfl
  | ren a hk hf he ha hc => rw [moved_same (by omega)]; rfl
  | cast a hk hf he ha hc => rw [moved_same (by omega)]; rfl
  | drop a hk hf he ha hc =>
    have hne : t.key.getD i 0 ≠ (a : Int) := by
      refine hasI_false (l := t.key) ?_ _ (mem_getD (α := Int) hi)
      unfold checkD at hc
      cases h : hasI t.key a with
      | false => rfl
      | true => rw [h] at hc; simp at hc
    rw [moved_drop hk he, if_neg hne]
    show (t.key.map (shK a)).getD i 0 = _
    rw [getD_map hi]
    by_cases h2 : t.key.getD i 0 > a
    · rw [if_pos h2, shK_gt h2]
    · rw [if_neg h2, shK_le h2]
end Go.Pv
namespace Go.Pv
open Go.RowKit Go.Proofs

theorem idx_ge {α : Type} (p : α → Bool) (l : List α) : -1 ≤ idx p l := by
  unfold idx
  split <;> omega
theorem columnF_ge (l : List At) (x : Bs) : -1 ≤ columnF l x := by
  unfold columnF
  cases decide (idx (fun t : At => eqS t.name x) l ≥ 0) with
  | true => exact idx_ge _ _
  | false => exact idx_ge _ _
/-- cleanselaw06.moved. -/
theorem f32 (t : Tb) (c : Ch) (i : Int) (ht : OkT t) (hi : -9223372036854775808 ≤ i ∧ i ≤ 9223372036854775807) : AF Tryz.prog 32 [.d (eT t), .d (eC c), .d (eI i)] [] (fun o p => o = .ret (.d (eI (movedF t c i))) ∧ p = []) := by
  refine AF.intro hT Tryz.func32 rfl (by kernel_rfl) (Nat.le_of_ble_eq_true rfl) ?_
  repeat (first | refine wA0 rfl rfl rfl rfl ?_ | refine AL.nil ?_ | refine AW.seq ?_ | refine AW.region ?_ | refine bA rfl rfl rfl rfl rfl rfl ?_)
  refine AW.cond rfl (fun h0 => ?_) (fun h0 => ?_)
  · repeat' (first | refine wA0 rfl rfl rfl rfl ?_ | refine AL.nil ?_ | refine AW.seq ?_ | refine AW.region ?_ | (refine AW.ret ?_; refine ⟨[], _, _, rfl, rfl, ⟨?_, rfl⟩, rfl⟩))
    refine congrArg (fun b => AOut.ret (.d (.lit (.int .i64 b)))) ?_
    have h0' : (c.kind != 2) = true := h0
    simp only [movedF, h0', cond_true]
  · have h0' : (c.kind != 2) = false := h0
    repeat (first | refine wA0 rfl rfl rfl rfl ?_ | refine AW.seq ?_ | refine AW.region ?_ | refine AW.skip ?_)
    refine AL.call0 rfl rfl rfl (f29 t c.attr ht.attrs ht.was) rfl rfl rfl ?_
    repeat (first | refine wA0 rfl rfl rfl rfl ?_ | refine AL.nil ?_ | refine AW.seq ?_ | refine AW.region ?_)
    refine AW.cond rfl (fun h1 => ?_) (fun h1 => ?_)
    · repeat' (first | refine wA0 rfl rfl rfl rfl ?_ | refine AL.nil ?_ | refine AW.seq ?_ | refine AW.region ?_ | (refine AW.ret ?_; refine ⟨[], _, _, rfl, rfl, ⟨?_, rfl⟩, rfl⟩))
      refine congrArg (fun b => AOut.ret (.d (.lit (.int .i64 b)))) ?_
      have h1' : (i == columnF t.attrs c.attr) = true := h1
      simp only [movedF, h0', h1', cond_true, cond_false]
    · have h1' : (i == columnF t.attrs c.attr) = false := h1
      repeat (first | refine wA0 rfl rfl rfl rfl ?_ | refine AL.nil ?_ | refine AW.seq ?_ | refine AW.region ?_ | refine AW.skip ?_)
      refine AW.cond rfl (fun h2 => ?_) (fun h2 => ?_)
      · have h2' : decide (i > columnF t.attrs c.attr) = true := h2
        repeat' (first | refine wA0 rfl rfl rfl rfl ?_ | refine AL.nil ?_ | refine AW.seq ?_ | refine AW.region ?_ | (refine AW.ret ?_; refine ⟨[], _, _, rfl, rfl, ⟨?_, rfl⟩, rfl⟩))
        refine congrArg (fun b => AOut.ret (.d (.lit (.int .i64 b)))) ?_
        simp only [movedF, h0', h1', h2', cond_true, cond_false]
        have hp := columnF_ge t.attrs c.attr
        have := of_decide_eq_true h2'
        exact IntWalk.i64_in _ (by omega)
      · have h2' : decide (i > columnF t.attrs c.attr) = false := h2
        repeat' (first | refine wA0 rfl rfl rfl rfl ?_ | refine AL.nil ?_ | refine AW.seq ?_ | refine AW.region ?_ | refine AW.skip ?_ | (refine AW.ret ?_; refine ⟨[], _, _, rfl, rfl, ⟨?_, rfl⟩, rfl⟩))
        refine congrArg (fun b => AOut.ret (.d (.lit (.int .i64 b)))) ?_
        simp only [movedF, h0', h1', h2', cond_false]
set_option maxHeartbeats 4000000 in
/-- cleanselaw06.SchemaNames. -/
theorem f5 (l : List Tb) (c : Ch) (hw : WideS l) : AF Tryz.prog 5 [.d (.agg [eTs l]), .d (eC c)] [] (fun o p => o = .ret (.d (.lit (.bool true))) ∧ p = []) := by
  refine AF.intro hT Tryz.func5 rfl (by kernel_rfl) (Nat.le_of_ble_eq_true rfl) ?_
  repeat (first | refine wA0 rfl rfl rfl rfl ?_ | refine AL.nil ?_ | refine AW.seq ?_ | refine AW.region ?_ | refine bA rfl rfl rfl rfl rfl rfl ?_)
  refine AL.call0 rfl rfl rfl (f15) rfl rfl rfl ?_
  repeat (first | refine wA0 rfl rfl rfl rfl ?_ | refine AL.nil ?_ | refine AW.seq ?_ | refine AW.region ?_)
  refine AL.call0 rfl rfl rfl (f16n l c) rfl rfl rfl ?_
  repeat (first | refine wA0 rfl rfl rfl rfl ?_ | refine AL.nil ?_)
  refine AW.cond rfl (fun h0 => ?_) (fun h0 => ?_)
  · repeat' (first | refine wA0 rfl rfl rfl rfl ?_ | refine AL.nil ?_ | refine AW.seq ?_ | refine AW.region ?_ | (refine AW.ret ?_; refine ⟨[], _, _, rfl, rfl, ⟨?_, rfl⟩, rfl⟩))
    rfl
  · have h0' : (!smallF l c 0) = false := h0
    have hsF : smallF l c 0 = true := by simpa using h0'
    obtain ⟨hS, hcn, _, _⟩ := smallF_ok hsF
    have big : (1000000 : Nat) ≤ maxLen := by decide
    have hl : OkS l := hS.okS hw
    have hcc : OkC c := ⟨by omega⟩
    have hllen := hl.len
    rcases f17_any l c hl hcc hS.okB with ⟨e, he, h17⟩ | ⟨ti, u, hti, hfi, hv, hu, h17⟩
    · repeat (first | refine wA0 rfl rfl rfl rfl ?_ | refine AW.seq ?_ | refine AW.region ?_ | refine AW.skip ?_)
      refine AL.call0 rfl rfl rfl (h17) rfl rfl rfl ?_
      repeat (first | refine wA0 rfl rfl rfl rfl ?_ | refine AL.nil ?_ | refine AW.seq ?_ | refine AW.region ?_ | refine sA rfl rfl rfl rfl rfl rfl rfl rfl rfl ?_ | refine bA rfl rfl rfl rfl rfl rfl ?_)
      refine AW.condT rfl (show (!(e == 0)) = true from by rw [he]; rfl) ?_
      repeat' (first | refine wA0 rfl rfl rfl rfl ?_ | refine AL.nil ?_ | refine AW.seq ?_ | refine AW.region ?_ | (refine AW.ret ?_; refine ⟨[], _, _, rfl, rfl, ⟨?_, rfl⟩, rfl⟩))
      rfl
    · have hm := mem_getD (α := Tb) hti
      have hrt := hv.right _ hm
      have hru := hu.right hrt
      have hku := (hru.ok (hu.was (hS.was _ hm)) (by rw [hu.key]; exact hS.key _ hm)).2
      have hkt := hl.t _ hm
      have hlen : (l.set ti u).length = l.length := List.length_set ..
      have hti2 : (0 : Int) ≤ (ti : Int) ∧ (ti : Int) < (l.length : Int) := by omega
      have hti3 : (0 : Int) ≤ (ti : Int) ∧ (ti : Int) < ((l.set ti u).length : Int) := by omega
      have hgu : (l.set ti u).getD ti default = u := getD_set_same hti
      have h25 := f25 l c.table hl.len
      rw [hfi] at h25
      repeat (first | refine wA0 rfl rfl rfl rfl ?_ | refine AW.seq ?_ | refine AW.region ?_ | refine AW.skip ?_)
      refine AL.call0 rfl rfl rfl (h17) rfl rfl rfl ?_
      repeat (first | refine wA0 rfl rfl rfl rfl ?_ | refine AL.nil ?_ | refine AW.seq ?_ | refine AW.region ?_ | refine sA rfl rfl rfl rfl rfl rfl rfl rfl rfl ?_ | refine bA rfl rfl rfl rfl rfl rfl ?_)
      refine AW.condF rfl rfl ?_
      repeat (first | refine wA0 rfl rfl rfl rfl ?_ | refine AW.seq ?_ | refine AW.region ?_ | refine AW.skip ?_)
      refine AL.call0 rfl rfl rfl (h25) rfl rfl rfl ?_
      repeat (first | refine wA0 rfl rfl rfl rfl ?_ | refine wA1 rfl rfl rfl rfl rfl ?_ | refine AL.nil ?_ | refine AW.seq ?_ | refine AW.region ?_)
      refine AW.condF rfl (show (bif decide ((ti : Int) < 0) then true else decide ((ti : Int) ≥ ((l.set ti u).length : Int))) = false from ?_) ?_
      · have e1 : decide ((ti : Int) < 0) = false := decide_eq_false (by omega)
        have e2 : decide ((ti : Int) ≥ ((l.set ti u).length : Int)) = false := decide_eq_false (by omega)
        rw [e1, e2]; rfl
      have hlt_t : (l.getD ti default).attrs.length ≤ 20 := hS.attrs _ hm
      have hklen : (l.getD ti default).key.length ≤ 20 := hS.key _ hm
      have hkU : OkT ((l.set ti u).getD ti default) := by rw [hgu]; exact hku
      have hklU : ((l.set ti u).getD ti default).key.length = (l.getD ti default).key.length := by rw [hgu]; exact hu.key
      have hcol : ∀ i, i < (l.getD ti default).attrs.length → 0 ≤ movedF (l.getD ti default) c i → ∀ s ∈ namesAt ((l.getD ti default).attrs.getD i default), columnF ((l.set ti u).getD ti default).attrs s = movedF (l.getD ti default) c i := by
        intro i hi hp s hs
        rw [hgu]
        exact hu.column hrt hi hp hs
      repeat (first | refine wA0 rfl rfl rfl rfl ?_ | refine AL.nil ?_ | refine AW.seq ?_ | refine AW.region ?_ | refine AW.skip ?_ | refine AW.block ?_ | refine dW ?_ | refine wG0 rfl rfl rfl rfl ?_ | refine sG rfl rfl rfl rfl rfl rfl rfl rfl rfl ?_ | refine bG rfl rfl rfl rfl rfl rfl rfl ?_ | refine nG ?_)
      refine AW.weak (Weak.keep [3,5,9,10,11] [.loc 3,.loc 9,.loc 10] rfl rfl) ?_
      refine AW.loop (I := fun n st => ∃ i : Nat, i + n = (l.getD ti default).attrs.length ∧ st = ⟨160, [(3, .ptr (.loc 3) 0), (5, .d (.lit (.bool true))), (9, .ptr (.loc 9) 0), (10, .ptr (.loc 10) 0), (11, .d (eI i))], [(.loc 3, .cells ((eC c).cells.map PV.d)), (.loc 9, .cells ((eT (l.getD ti default)).cells.map PV.d)), (.loc 10, .cells ((eT ((l.set ti u).getD ti default)).cells.map PV.d))]⟩) (l.getD ti default).attrs.length ⟨0, by omega, rfl⟩ ?_
      rintro n st ⟨i, hi, rfl⟩
      repeat (first | refine wA0 rfl rfl rfl rfl ?_ | refine AL.nil ?_ | refine AW.seq ?_ | refine AW.region ?_)
      refine AW.cond rfl (fun hlt => ?_) (fun hlt => ?_)
      · have hlt' : i < (l.getD ti default).attrs.length := by simpa using hlt
        have hia : (0 : Int) ≤ (i : Int) ∧ (i : Int) < ((l.getD ti default).attrs.length : Int) := by omega
        repeat (first | refine wA0 rfl rfl rfl rfl ?_ | refine AW.seq ?_ | refine AW.region ?_ | refine AW.skip ?_ | refine AW.block ?_)
        refine AL.call0 rfl rfl rfl (f32 (l.getD ti default) c i hkt (by omega)) rfl rfl rfl ?_
        repeat (first | refine wA0 rfl rfl rfl rfl ?_ | refine AL.nil ?_ | refine AW.seq ?_ | refine AW.region ?_)
        refine AW.cond rfl (fun hneg => ?_) (fun hneg => ?_)
        · refine AW.exit ?_
          repeat (first | refine wA0 rfl rfl rfl rfl ?_ | refine AL.nil ?_ | refine AW.region ?_)
          refine ⟨n - 1, _, by omega, Weak.keep [3,5,9,10,11] [.loc 3,.loc 9,.loc 10] rfl rfl, i + 1, by omega, ?_⟩
          rw [i64s (by omega)]
          rfl
        · have hp : 0 ≤ movedF (l.getD ti default) c i := by
            have := of_decide_eq_false hneg
            omega
          repeat (first | refine AW.seq ?_ | refine AW.skip ?_ | refine dW ?_ | refine wG0 rfl rfl rfl rfl ?_)
          refine DG.call0 rfl rfl rfl (f29 ((l.set ti u).getD ti default) ((l.getD ti default).attrs.getD i default).name hkU.attrs hkU.was) rfl rfl rfl ?_
          repeat (first | refine wG0 rfl rfl rfl rfl ?_ | refine nG ?_)
          refine AW.condF rfl (show (columnF ((l.set ti u).getD ti default).attrs ((l.getD ti default).attrs.getD i default).name != movedF (l.getD ti default) c i) = false from ?_) ?_
          · rw [hcol i hlt' hp _ (List.mem_cons_self ..)]
            simp
          repeat (first | refine wA0 rfl rfl rfl rfl ?_ | refine AL.nil ?_ | refine AW.seq ?_ | refine AW.region ?_ | refine AW.skip ?_ | refine AW.block ?_)
          refine AW.weak (Weak.keep [3,5,9,10,11,12,13] [.loc 3,.loc 9,.loc 10] rfl rfl) ?_
          have hwl : ((l.getD ti default).attrs.getD i default).was.length ≤ 10 := hS.was _ hm _ (mem_getD hlt')
          refine AW.loop (I := fun m st => ∃ k : Nat, k + m = ((l.getD ti default).attrs.getD i default).was.length ∧ st = ⟨160, [(3, .ptr (.loc 3) 0), (5, .d (.lit (.bool true))), (9, .ptr (.loc 9) 0), (10, .ptr (.loc 10) 0), (11, .d (eI i)), (12, .d (eI (movedF (l.getD ti default) c i))), (13, .d (eI k))], [(.loc 3, .cells ((eC c).cells.map PV.d)), (.loc 9, .cells ((eT (l.getD ti default)).cells.map PV.d)), (.loc 10, .cells ((eT ((l.set ti u).getD ti default)).cells.map PV.d))]⟩) ((l.getD ti default).attrs.getD i default).was.length ⟨0, by omega, rfl⟩ ?_
          rintro m st ⟨k, hk, rfl⟩
          repeat (first | refine wA0 rfl rfl rfl rfl ?_ | refine AL.nil ?_ | refine AW.seq ?_ | refine AW.region ?_)
          refine AW.cond rfl (fun hlt2 => ?_) (fun hlt2 => ?_)
          · have hlt2' : k < ((l.getD ti default).attrs.getD i default).was.length := by simpa using hlt2
            have hka : (0 : Int) ≤ (k : Int) ∧ (k : Int) < (((l.getD ti default).attrs.getD i default).was.length : Int) := by omega
            repeat (first | refine AW.seq ?_ | refine AW.skip ?_ | refine AW.block ?_ | refine dW ?_ | refine wG0 rfl rfl rfl rfl ?_)
            refine DG.call0 rfl rfl rfl (f29 ((l.set ti u).getD ti default) (((l.getD ti default).attrs.getD i default).was.getD k default) hkU.attrs hkU.was) rfl rfl rfl ?_
            repeat (first | refine wG0 rfl rfl rfl rfl ?_ | refine nG ?_)
            refine AW.condF rfl (show (columnF ((l.set ti u).getD ti default).attrs (((l.getD ti default).attrs.getD i default).was.getD k default) != movedF (l.getD ti default) c i) = false from ?_) ?_
            · rw [hcol i hlt' hp _ (List.mem_cons_of_mem _ (mem_getD (α := Bs) hlt2'))]
              simp
            repeat (first | refine wA0 rfl rfl rfl rfl ?_ | refine AL.nil ?_ | refine AW.region ?_ | refine AW.skip ?_)
            refine ⟨m - 1, _, by omega, Weak.keep [3,5,9,10,11,12,13] [.loc 3,.loc 9,.loc 10] rfl rfl, k + 1, by omega, ?_⟩
            rw [i64s (by omega)]
            rfl
          · refine AW.exit ?_
            repeat (first | refine wA0 rfl rfl rfl rfl ?_ | refine AL.nil ?_ | refine AW.region ?_)
            refine ⟨n - 1, _, by omega, Weak.keep [3,5,9,10,11] [.loc 3,.loc 9,.loc 10] rfl rfl, i + 1, by omega, ?_⟩
            rw [i64s (by omega)]
            rfl
      · refine AW.exit ?_
        repeat (first | refine AW.seq ?_ | refine dW ?_ | refine wG0 rfl rfl rfl rfl ?_ | refine wG1 rfl rfl rfl rfl rfl ?_)
        refine kG1 rfl rfl rfl rfl (fun hγ => f29 ((l.set ti u).getD ti default) c.name hkU.attrs hkU.was) rfl rfl rfl ?_
        repeat (first | refine wG0 rfl rfl rfl rfl ?_ | refine wG1 rfl rfl rfl rfl rfl ?_)
        refine kG1 rfl rfl rfl rfl (fun hγ => f29 ((l.set ti u).getD ti default) c.name hkU.attrs hkU.was) rfl rfl rfl ?_
        repeat (refine wG1 rfl rfl rfl rfl rfl ?_)
        refine kG1 rfl rfl rfl rfl (fun hγ => f29 (l.getD ti default) c.attr hkt.attrs hkt.was) rfl rfl rfl ?_
        repeat (first | refine wG0 rfl rfl rfl rfl ?_ | refine wG1 rfl rfl rfl rfl rfl ?_ | refine nG ?_)
        refine AW.condF rfl (show (bif bif bif c.kind == 1 then !(columnF ((l.set ti u).getD ti default).attrs c.name == ((l.getD ti default).attrs.length : Int)) else false then true else bif c.kind == 3 then !(columnF ((l.set ti u).getD ti default).attrs c.name == columnF (l.getD ti default).attrs c.attr) else false then true else !((((l.set ti u).getD ti default).key.length : Int) == ((l.getD ti default).key.length : Int))) = false from ?_) ?_
        · have e1 : (bif c.kind == 1 then !(columnF ((l.set ti u).getD ti default).attrs c.name == ((l.getD ti default).attrs.length : Int)) else false) = false := by
            by_cases h : c.kind = 1
            · rw [hgu, hu.new_add hrt h, beq_self_eq_true]; simp
            · have : (c.kind == 1) = false := by simpa using h
              rw [this]; rfl
          have e2 : (bif c.kind == 3 then !(columnF ((l.set ti u).getD ti default).attrs c.name == columnF (l.getD ti default).attrs c.attr) else false) = false := by
            by_cases h : c.kind = 3
            · rw [hgu, hu.new_ren hrt h, beq_self_eq_true]; simp
            · have : (c.kind == 3) = false := by simpa using h
              rw [this]; rfl
          rw [e1, e2, hklU, beq_self_eq_true]
          rfl
        repeat (first | refine wA0 rfl rfl rfl rfl ?_ | refine AL.nil ?_ | refine AW.seq ?_ | refine AW.region ?_ | refine AW.skip ?_ | refine AW.block ?_)
        refine AW.weak (Weak.keep [3,5,9,10,14] [.loc 3,.loc 9,.loc 10] rfl rfl) ?_
        refine AW.loop (I := fun n st => ∃ i : Nat, i + n = (l.getD ti default).key.length ∧ st = ⟨160, [(3, .ptr (.loc 3) 0), (5, .d (.lit (.bool true))), (9, .ptr (.loc 9) 0), (10, .ptr (.loc 10) 0), (14, .d (eI i))], [(.loc 3, .cells ((eC c).cells.map PV.d)), (.loc 9, .cells ((eT (l.getD ti default)).cells.map PV.d)), (.loc 10, .cells ((eT ((l.set ti u).getD ti default)).cells.map PV.d))]⟩) (l.getD ti default).key.length ⟨0, by omega, rfl⟩ ?_
        rintro n st ⟨i, hi, rfl⟩
        repeat (first | refine wA0 rfl rfl rfl rfl ?_ | refine AL.nil ?_ | refine AW.seq ?_ | refine AW.region ?_)
        refine AW.cond rfl (fun hlt => ?_) (fun hlt => ?_)
        · have hlt' : i < (l.getD ti default).key.length := by simpa using hlt
          have hia : (0 : Int) ≤ (i : Int) ∧ (i : Int) < ((l.getD ti default).key.length : Int) := by omega
          have hib : (0 : Int) ≤ (i : Int) ∧ (i : Int) < (((l.set ti u).getD ti default).key.length : Int) := by omega
          have hkr := hrt.keys _ (mem_getD (α := Int) hlt')
          have hmx := hrt.max
          repeat (first | refine AW.seq ?_ | refine AW.skip ?_ | refine AW.block ?_ | refine dW ?_ | refine wG0 rfl rfl rfl rfl ?_)
          refine DG.call0 rfl rfl rfl (f32 (l.getD ti default) c ((l.getD ti default).key.getD i 0) hkt (by change (0 : Int) ≤ (l.getD ti default).key.getD i 0 ∧ (l.getD ti default).key.getD i 0 < _ at hkr; omega)) rfl rfl rfl ?_
          repeat (first | refine wG0 rfl rfl rfl rfl ?_ | refine nG ?_)
          refine AW.condF rfl (show (((l.set ti u).getD ti default).key.getD i 0 != movedF (l.getD ti default) c ((l.getD ti default).key.getD i 0)) = false from ?_) ?_
          · rw [hgu, hu.keyAt hlt']
            simp
          repeat (first | refine wA0 rfl rfl rfl rfl ?_ | refine AL.nil ?_ | refine AW.region ?_ | refine AW.skip ?_)
          refine ⟨n - 1, _, by omega, Weak.keep [3,5,9,10,14] [.loc 3,.loc 9,.loc 10] rfl rfl, i + 1, by omega, ?_⟩
          rw [i64s (by omega)]
          rfl
        · refine AW.exit ?_
          repeat' (first | refine wA0 rfl rfl rfl rfl ?_ | refine AL.nil ?_ | refine AW.seq ?_ | refine AW.region ?_ | (refine AW.ret ?_; refine ⟨[], _, _, rfl, rfl, ⟨?_, rfl⟩, rfl⟩))
          rfl
end Go.Pv
