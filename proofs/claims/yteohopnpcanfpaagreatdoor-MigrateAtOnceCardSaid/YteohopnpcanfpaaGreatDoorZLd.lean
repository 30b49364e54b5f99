/- Part of the proofs over this seat: V44. -/
import Derived.Test.YteohopnpcanfpaaGreatDoorZLc
import Derived.Test.YteohopnpcanfpaaGreatDoorZKf
set_option maxRecDepth 100000
namespace Go.Pv
open Go.RowKit Go.Proofs

/-! ### play -/
def opM (m : Mg) (o : Opn) : Mg := if (o.kind.tmod 2 == 0) = true then goM (stepN m o.n) m else if putE m o.n o.row then m else putM m o.n.toNat o.row
def playM (m : Mg) (l : List Opn) : Mg := l.foldl opM m
theorem playM_snoc (m : Mg) {l : List Opn} {i : Nat} (hi : i < l.length) : playM m (l.take (i + 1)) = opM (playM m (l.take i)) (l.getD i default) := by
  have : l.take (i + 1) = l.take i ++ [l.getD i default] := by
    rw [List.take_succ_eq_append_getElem hi]
    simp [List.getD_eq_getElem?_getD, hi]
  rw [this]
  simp [playM]
theorem mem_setL {α : Type} {l : List α} {t : Nat} {x y : α} (h : y ∈ l.set t x) : y ∈ l ∨ y = x := by
  rcases List.mem_or_eq_of_mem_set h with h | h
  · exact .inl h
  · exact .inr h
theorem putM_ok {m : Mg} {t : Nat} {row : Rw} (hm : m.OK) (ht : t < m.tabs.length) (hr : row.length ≤ 1000000) (hl : (m.tabs.getD t []).length < 100000) : (putM m t row).OK := by
  have hg := mem_getD (α := List Rw) ht
  refine ⟨hm.old, hm.ch, by show m.tab < (m.tabs.set t _).length; rw [List.length_set]; exact hm.tab, by show (m.tabs.set t _).length ≤ 1000; rw [List.length_set]; exact hm.len, fun r h => ?_, fun r h x hx => ?_, ?_, by show m.old.length = (m.tabs.set t _).length; rw [List.length_set]; exact hm.olen⟩
  · rcases mem_setL h with h | rfl
    · exact hm.rows r h
    · simp only [List.length_append, List.length_singleton]; omega
  · rcases mem_setL h with h | rfl
    · exact hm.row r h x hx
    · rcases List.mem_append.1 hx with h | h
      · exact hm.row _ hg x h
      · rw [List.mem_singleton.1 h]; exact hr
  · have hd := hm.done
    show m.done.length ≤ ((m.tabs.set t (m.tabs.getD t [] ++ [row])).getD m.tab []).length
    by_cases e : m.tab = t
    · rw [e, getD_set_self ht, List.length_append]
      rw [e] at hd
      omega
    · rw [getD_set_neL e]
      exact hd
theorem stepN_ok {m : Mg} {n : Int} (hm : m.OK) : (goM (stepN m n) m).OK := goM_ok _ _ hm (by
  have hN : stepN m n ≤ m.left := by unfold stepN; omega
  unfold Mg.left at hN
  have := hm.done
  unfold Mg.rows at hN ⊢
  omega)
def FTt (l : List (List Rw)) (q : Nat) : List D := [eRs (l.getD q [])]
theorem FTt_last {l : List (List Rw)} {i q : Nat} (_ : i < l.length) (hq : q < 1) : FTt (l.take (i + 1)) (i + q) = [eRs (l.getD i [])] := by
  obtain rfl : q = 0 := by omega
  simp only [FTt, List.getD_eq_getElem?_getD, List.getElem?_take]
  rw [if_pos (by omega), Nat.add_zero]
theorem FTt_take {l : List (List Rw)} {i : Nat} : ∀ q, q < i → FTt (l.take (i + 1)) q = FTt (l.take i) q := by
  intro q hq
  simp only [FTt, List.getD_eq_getElem?_getD, List.getElem?_take]
  rw [if_pos (by omega), if_pos hq]
set_option maxHeartbeats 8000000 in
theorem f47 (m : Mg) (l : List Opn) (hm : m.OK) (hl : l.length ≤ 20) (hr : ∀ r, r ∈ m.tabs → r.length ≤ 20) (ho : ∀ o, o ∈ l → o.row.length ≤ 1000000) :
    AF Tryz.prog 47 [.ptr (.par 0) 0, .d (eTt m.tabs), .d (eOs l)] (mgP m) (fun o p => o = .ret (.sl (.par 7) (playM m l).tabs.length) ∧ p = mgS (playM m l) m.done.length ++ [.arr true 79 1 (playM m l).tabs.length (FTt (playM m l).tabs) none]) := by
  have hml := hm.len
  have big : (1000000 : Nat) ≤ maxLen := by decide
  refine AF.intro hT Tryz.func47 rfl (by kernel_rfl) (Nat.le_of_ble_eq_true rfl) ?_
  repeat (first | refine wA0 rfl rfl rfl rfl ?_ | refine AL.nil ?_ | refine AW.seq ?_ | refine AW.region ?_ | refine AW.block ?_)
  refine AW.weak (Weak.takeBox (.par 0) (.par 2) 4 100 rfl rfl rfl rfl rfl rfl rfl) ?_
  refine AW.weak (Weak.fixN 100 true rfl rfl) ?_
  refine AW.weak (Weak.seed 7 110 79 1 (FTt (m.tabs.take 0)) rfl rfl) ?_
  refine AW.weak (Weak.keep [0,1,2,7,8] [.par 0,.par 1,.par 2,.par 3,.par 4,.par 5,.loc 100,.loc 110] rfl rfl) ?_
  refine AW.loop (I := fun n st => ∃ i : Nat, i + n = m.tabs.length ∧ st = ⟨83, [(0, .ptr (.par 0) 0), (1, .d (eTt m.tabs)), (2, .d (eOs l)), (7, .sl (.loc 110) i), (8, .d (eI i))], mgL m m.done.length ++ [(.loc 110, .arr false 79 1 i (FTt (m.tabs.take i)) none)]⟩) m.tabs.length
    ⟨0, by omega, rfl⟩ ?_
  rintro n _ ⟨i, hi, rfl⟩
  repeat (first | refine wA0 rfl rfl rfl rfl ?_ | refine AL.nil ?_ | refine AW.seq ?_ | refine AW.region ?_)
  refine AW.cond rfl (fun hlt => ?_) (fun hlt => ?_)
  · have hlt' : i < m.tabs.length := by simpa using hlt
    have hri := hr _ (mem_getD (α := List Rw) hlt')
    repeat (first | refine wA0 rfl rfl rfl rfl ?_ | refine AW.seq ?_ | refine AW.region ?_ | refine AW.skip ?_ | refine AW.block ?_)
    refine AL.effN _ (VE.bslice hT (d := 17) (fun _ => []) rfl rfl rfl rfl rfl rfl rfl (fun i hi => absurd hi (by omega))) rfl rfl rfl rfl rfl ?_
    repeat (refine wA0 rfl rfl rfl rfl ?_)
    refine AL.effN _ (VE.append hT (d := 22) (FR (m.tabs.getD i [])) [.loc 17] rfl rfl rfl rfl rfl trivial rfl rfl rfl rfl ⟨rfl, by show 0 + (m.tabs.getD i []).length ≤ _; have : (m.tabs.getD i []).length ≤ 20 := hri; omega, ?_⟩ (fun i hi => absurd hi (by omega)) (fun i _ => by rw [Nat.zero_add]; rfl)) rfl rfl rfl rfl rfl ?_
    · show (0 + (m.tabs.getD i []).length) * 24 ≤ _
      have : (m.tabs.getD i []).length ≤ 20 := hri
      omega
    refine AL.weak (Weak.freezeM 22 (.loc 22) (fun q => eVs ((m.tabs.getD i []).getD q [])) rfl rfl rfl rfl (Nat.zero_add _) (fun q _ => rfl) rfl) ?_
    skip
    refine AL.effN _ (VE.bsliceD hT (fun _ => eRs (m.tabs.getD i [])) rfl rfl rfl rfl rfl rfl rfl (fun q hq => by obtain rfl : q = 0 := (by omega); rfl)) rfl rfl rfl rfl rfl ?_
    skip
    refine AL.effN _ (VE.append hT (d := 24) (FTt (m.tabs.take (i + 1))) [.loc 110] rfl rfl rfl rfl rfl trivial rfl rfl rfl rfl ⟨rfl, by omega, ?_⟩ FTt_take (fun q hq => FTt_last hlt' hq)) rfl rfl rfl rfl rfl ?_
    · show (i + 1) * 24 ≤ _
      omega
    repeat (first | refine wA0 rfl rfl rfl rfl ?_ | refine AL.nil ?_ | refine AW.region ?_)
    refine ⟨n - 1, _, by omega, Weak.trans (Weak.keep [0,1,2,7,8] [.par 0,.par 1,.par 2,.par 3,.par 4,.par 5,.loc 100,.loc 24] rfl rfl) (Weak.mv 24 110 rfl rfl), i + 1, by omega, ?_⟩
    rw [i64s (by omega)]
    rfl
  · obtain rfl : i = m.tabs.length := by
      have : ¬ ((i : Int) < (m.tabs.length : Int)) := by simpa using hlt
      omega
    rw [List.take_length]
    refine AW.exit ?_
    repeat (first | refine wA0 rfl rfl rfl rfl ?_ | refine AL.nil ?_ | refine AW.seq ?_ | refine AW.region ?_ | refine AW.block ?_)
    refine AW.weak (Weak.keep [0,2,7,9] [.par 0,.par 1,.par 2,.par 3,.par 4,.par 5,.loc 100,.loc 110] rfl rfl) ?_
    refine AW.loop (I := fun n st => ∃ (i : Nat) (u : Mg), i + n = l.length ∧ u = playM m (l.take i) ∧ u.OK ∧ (∀ r, r ∈ u.tabs → r.length ≤ 20 + i) ∧ st = ⟨83, [(0, .ptr (.par 0) 0), (2, .d (eOs l)), (7, .sl (.loc 110) u.tabs.length), (9, .d (eI i))], mgL u m.done.length ++ [(.loc 110, .arr false 79 1 u.tabs.length (FTt u.tabs) none)]⟩) l.length
      ⟨0, m, by omega, rfl, hm, fun r h => by have := hr r h; omega, rfl⟩ ?_
    rintro n _ ⟨i, u, hi, hp, hu, hru, rfl⟩
    repeat (first | refine wA0 rfl rfl rfl rfl ?_ | refine AL.nil ?_ | refine AW.seq ?_ | refine AW.region ?_)
    refine AW.cond rfl (fun hlt => ?_) (fun hlt => ?_)
    · have hlt' : i < l.length := by simpa using hlt
      have hro := ho _ (mem_getD (α := Opn) hlt')
      repeat (first | refine wA0 rfl rfl rfl rfl ?_ | refine AL.nil ?_ | refine AW.seq ?_ | refine AW.region ?_ | refine AW.skip ?_ | refine AW.block ?_)
      refine AW.cond rfl (fun hk => ?_) (fun hk => ?_)
      · have hM := stepN_ok (n := (l.getD i default).n) hu
        have hMs := goM_same (stepN u (l.getD i default).n) u
        have h38 := f38 u (l.getD i default).n hu
        have hop : opM u (l.getD i default) = goM (stepN u (l.getD i default).n) u := by rw [opM, if_pos (show ((l.getD i default).kind.tmod 2 == 0) = true from hk)]
        have hpl : playM m (l.take (i + 1)) = goM (stepN u (l.getD i default).n) u := by rw [playM_snoc m hlt', ← hp, hop]
        generalize goM (stepN u (l.getD i default).n) u = M at hM hMs h38 hpl
        repeat (first | refine wA0 rfl rfl rfl rfl ?_ | refine AW.region ?_)
        refine AL.effN _ (VE.call [.par 0,.par 1,.loc 100,.par 3,.par 4,.par 5] [.loc 101] rfl rfl rfl rfl rfl (h38) (fun _ _ h => h) rfl) rfl rfl rfl rfl rfl ?_
        repeat (first | refine wA0 rfl rfl rfl rfl ?_ | refine AL.nil ?_ | refine AW.region ?_)
        refine ⟨n - 1, _, by omega, Weak.trans (Weak.keep [0,2,7,9] [.par 0,.par 1,.par 2,.par 3,.par 4,.par 5,.loc 101,.loc 110] rfl rfl) (Weak.trans (Weak.mv 101 100 rfl rfl) (Weak.fixN 100 true rfl rfl)), i + 1, M, by omega, hpl.symm, hM, fun r h => ?_, ?_⟩
        · rw [hMs.tabs] at h
          have := hru r h
          omega
        · rw [i64s (by omega), ← hMs.tabs]
          rfl
      · have hk' : ¬ ((l.getD i default).kind.tmod 2 == 0) = true := by
          intro e
          have : ((l.getD i default).kind.tmod 2 == 0) = false := hk
          rw [e] at this
          cases this
        have h40 := f40 u (l.getD i default).n (l.getD i default).row hu hro (fun k _ hk => by have := hru _ (mem_getD (α := List Rw) hk); have : (u.tabs.getD k []).length ≤ 20 + i := this; omega)
        have hop : opM u (l.getD i default) = if putE u (l.getD i default).n (l.getD i default).row then u else putM u (l.getD i default).n.toNat (l.getD i default).row := by rw [opM, if_neg hk']
        have hpl : playM m (l.take (i + 1)) = if putE u (l.getD i default).n (l.getD i default).row then u else putM u (l.getD i default).n.toNat (l.getD i default).row := by rw [playM_snoc m hlt', ← hp, hop]
        cases hpe : putE u (l.getD i default).n (l.getD i default).row with
        | true =>
          rw [hpe, if_pos rfl, if_pos rfl] at h40
          rw [hpe, if_pos rfl] at hpl
          repeat (first | refine AW.seq ?_ | refine dW ?_ | refine wG0 rfl rfl rfl rfl ?_)
          refine DG.effN _ (VE.call [.par 0,.par 1,.loc 100,.par 3,.par 4,.par 5] [] rfl rfl rfl rfl rfl h40 (fun _ _ h => h) rfl) rfl rfl rfl rfl ?_
          repeat (first | refine wG0 rfl rfl rfl rfl ?_ | refine nG ?_)
          refine AW.condF rfl rfl ?_
          repeat (first | refine wA0 rfl rfl rfl rfl ?_ | refine AL.nil ?_ | refine AW.region ?_ | refine AW.skip ?_)
          refine ⟨n - 1, _, by omega, Weak.keep [0,2,7,9] [.par 0,.par 1,.par 2,.par 3,.par 4,.par 5,.loc 100,.loc 110] rfl rfl, i + 1, u, by omega, hpl.symm, hu, fun r h => by have := hru r h; omega, ?_⟩
          rw [i64s (by omega)]
          rfl
        | false =>
          rw [hpe, if_neg (by decide), if_neg (by decide)] at h40
          rw [hpe, if_neg (by decide)] at hpl
          obtain ⟨k, hk1, hk2', hk3⟩ := putE_lt hpe
          have hk2 : (l.getD i default).n.toNat < u.tabs.length := by omega
          repeat (first | refine AW.seq ?_ | refine dW ?_ | refine wG0 rfl rfl rfl rfl ?_)
          refine DG.effN _ (VE.call [.par 0,.par 1,.loc 100,.par 3,.par 4,.par 5] [] rfl rfl rfl rfl rfl h40 (fun _ _ h => h) rfl) rfl rfl rfl rfl ?_
          repeat (first | refine wG0 rfl rfl rfl rfl ?_ | refine nG ?_)
          refine AW.condT rfl rfl ?_
          have hidx : (0 : Int) ≤ (l.getD i default).n ∧ (l.getD i default).n < (u.tabs.length : Int) := by omega
          have hlk : (u.tabs.getD (l.getD i default).n.toNat []).length ≤ 20 + i := hru _ (mem_getD (α := List Rw) hk2)
          refine AW.weak (Weak.focusN (.loc 110) (l.getD i default).n.toNat rfl rfl hk2 rfl) ?_
          repeat (first | refine dW ?_ | refine wG0 rfl rfl rfl rfl ?_)
          refine DG.effN _ (VE.bslice hT (d := 64) (fun _ => []) rfl rfl rfl rfl rfl rfl rfl (fun i hi => absurd hi (by omega))) rfl rfl rfl rfl ?_
          repeat (refine wG0 rfl rfl rfl rfl ?_)
          refine DG.effN _ (VE.append hT (d := 73) (FR (u.tabs.getD (l.getD i default).n.toNat [])) [.loc 64] rfl rfl rfl rfl rfl trivial rfl rfl rfl rfl ⟨rfl, by show 0 + (u.tabs.getD (l.getD i default).n.toNat []).length ≤ _; omega, by show (0 + (u.tabs.getD (l.getD i default).n.toNat []).length) * 24 ≤ _; omega⟩ (fun i hi => absurd hi (by omega)) (fun q _ => by rw [Nat.zero_add]; rfl)) rfl rfl rfl rfl ?_
          repeat (refine wG0 rfl rfl rfl rfl ?_)
          refine DG.effN _ (VE.bslice hT (d := 79) (fun _ => [eVs (l.getD i default).row]) rfl rfl rfl rfl rfl rfl rfl (fun i hi => by obtain rfl : i = 0 := (by omega); rfl)) rfl rfl rfl rfl ?_
          refine DG.effN _ (VE.append hT (d := 80) (FR (u.tabs.getD (l.getD i default).n.toNat [] ++ [(l.getD i default).row])) [.loc 73, .loc 79] rfl rfl rfl rfl rfl rfl rfl rfl rfl rfl ⟨rfl, by show 0 + (u.tabs.getD (l.getD i default).n.toNat []).length + 1 ≤ _; omega, by show (0 + (u.tabs.getD (l.getD i default).n.toNat []).length + 1) * 24 ≤ _; omega⟩ (fun i hi => FR_left (by rw [Nat.zero_add] at hi; exact hi)) (fun i hi => by rw [Nat.zero_add]; exact FR_last hi)) rfl rfl rfl rfl ?_
          repeat (refine wG0 rfl rfl rfl rfl ?_)
          refine DG.effS _ (VE.storeE hT (FTt u.tabs) rfl rfl rfl rfl rfl rfl rfl hk2 (.inr ⟨_, rfl, rfl, rfl⟩)) rfl rfl ?_
          refine nG ?_
          refine AW.weak (Weak.freezeFocM (.loc 110) (.loc 80) 0 (m := (u.tabs.getD (l.getD i default).n.toNat [] ++ [(l.getD i default).row]).length) (fun q => eVs ((u.tabs.getD (l.getD i default).n.toNat [] ++ [(l.getD i default).row]).getD q [])) rfl rfl rfl rfl rfl (by simp) (fun q _ => rfl) rfl) ?_
          refine AW.weak (Weak.unfocusN (.loc 110) (FTt (u.tabs.set (l.getD i default).n.toNat (u.tabs.getD (l.getD i default).n.toNat [] ++ [(l.getD i default).row]))) rfl rfl rfl ?_ (fun q _ hq => ?_) rfl) ?_
          · show FTt (u.tabs.set (l.getD i default).n.toNat (u.tabs.getD (l.getD i default).n.toNat [] ++ [(l.getD i default).row])) (l.getD i default).n.toNat = _
            rw [FTt, getD_set_self hk2]
            rfl
          · show FTt (u.tabs.set (l.getD i default).n.toNat (u.tabs.getD (l.getD i default).n.toNat [] ++ [(l.getD i default).row])) q = FTt u.tabs q
            rw [FTt, FTt, getD_set_neL (show q ≠ (l.getD i default).n.toNat from hq)]
          have hlen : u.tabs.length = (putM u (l.getD i default).n.toNat (l.getD i default).row).tabs.length := by
            show u.tabs.length = (u.tabs.set _ _).length
            rw [List.length_set]
          repeat (first | refine wA0 rfl rfl rfl rfl ?_ | refine AL.nil ?_ | refine AW.region ?_)
          refine ⟨n - 1, _, by omega, Weak.keep [0,2,7,9] [.par 0,.par 1,.par 2,.par 3,.par 4,.par 5,.loc 100,.loc 110] rfl rfl, i + 1, _, by omega, hpl.symm, putM_ok hu hk2 hro (by omega), fun r h => ?_, ?_⟩
          · rcases mem_setL h with h | rfl
            · have := hru r h; omega
            · simp only [List.length_append, List.length_singleton]; omega
          · rw [i64s (by omega), hlen]
            rfl
    · obtain rfl : i = l.length := by
        have : ¬ ((i : Int) < (l.length : Int)) := by simpa using hlt
        omega
      rw [List.take_length] at hp
      subst hp
      refine AW.exit ?_
      repeat (first | refine wA0 rfl rfl rfl rfl ?_ | refine AL.nil ?_ | refine AW.seq ?_ | refine AW.region ?_)
      refine AW.weak (Weak.fixN 110 true rfl rfl) ?_
      refine AW.ret ?_
      exact ⟨[.loc 100,.loc 110], _, _, rfl, rfl, ⟨rfl, rfl⟩, rfl⟩
end Go.Pv
