/- Part of the proofs over this seat: V49. -/
import Derived.Test.YteohopnpcanfpaaGreatDoorZLh
set_option maxRecDepth 100000
namespace Go.Pv
open Go.RowKit Go.Proofs

/-- What the law makes of the rows. -/
def Mg.R (m U : Mg) : List Rw := (U.tabs.getD m.tab []).map (fun r => (convX m.old m.ch m.tab r).1)
def Mg.fits (m U : Mg) (i : Nat) : Bool := ((U.tabs.getD m.tab []).take i).all (fun r => (convX m.old m.ch m.tab r).2 == 0)
theorem FR_take {l : List Rw} {i q : Nat} (hq : q < i) : FR (l.take (i + 1)) q = FR (l.take i) q := by
  simp only [FR, List.getD_eq_getElem?_getD, List.getElem?_take]
  rw [if_pos (by omega), if_pos hq]
theorem FR_takeL {m U : Mg} {i q : Nat} (hi : i < (U.tabs.getD m.tab []).length) (hq : q < 1) : FR ((m.R U).take (i + 1)) (i + q) = [eVs (convX m.old m.ch m.tab ((U.tabs.getD m.tab []).getD i [])).1] := by
  obtain rfl : q = 0 := by omega
  unfold Mg.R
  generalize U.tabs.getD m.tab [] = L at *
  simp [FR, List.getD_eq_getElem?_getD, hi]
theorem fits_succ {m U : Mg} {i : Nat} (hi : i < (U.tabs.getD m.tab []).length) : m.fits U (i + 1) = bif m.fits U i then (convX m.old m.ch m.tab ((U.tabs.getD m.tab []).getD i [])).2 == 0 else false := by
  unfold Mg.fits
  generalize U.tabs.getD m.tab [] = L at *
  rw [List.take_succ_eq_append_getElem hi, List.all_append]
  have : L.getD i [] = L[i] := by simp [List.getD_eq_getElem?_getD, hi]
  rw [this]
  cases ((List.take i L).all fun r => (convX m.old m.ch m.tab r).2 == 0) <;> simp
theorem R_take {m U : Mg} : (m.R U).take (U.tabs.getD m.tab []).length = m.R U := by
  rw [List.take_of_length_le]
  simp [Mg.R]
theorem fits_all {m U : Mg} : m.fits U (U.tabs.getD m.tab []).length = (U.tabs.getD m.tab []).all (fun r => (convX m.old m.ch m.tab r).2 == 0) := by
  rw [Mg.fits, List.take_length]
theorem all_bad {V : Mg} (h : V.Inv) (hf : V.failed = true) : (V.rows.all fun r => (convX V.old V.ch V.tab r).2 == 0) = false := by
  obtain ⟨h1, h2⟩ := h.bad hf
  rw [List.all_eq_false]
  exact ⟨_, mem_getD (α := Rw) h1, by
    have h2' : (convX V.old V.ch V.tab (V.rows.getD V.done.length default)).2 ≠ 0 := h2
    simpa using h2'⟩
theorem all_good {V : Mg} (h : V.Inv) (hl : V.left = 0) : (V.rows.all fun r => (convX V.old V.ch V.tab r).2 == 0) = true ∧ V.done = V.rows.map (fun r => (convX V.old V.ch V.tab r).1) := by
  have hd : V.done.length ≤ V.rows.length := h.ok.done
  have he : V.done.length = V.rows.length := by unfold Mg.left at hl; omega
  have hg : ∀ q, (hq : q < V.rows.length) → V.rows.getD q [] = V.rows[q] := fun q hq => by simp [List.getD_eq_getElem?_getD, hq]
  have hgd : ∀ q, (hq : q < V.done.length) → V.done.getD q [] = V.done[q] := fun q hq => by simp [List.getD_eq_getElem?_getD, hq]
  refine ⟨List.all_eq_true.2 fun r hr => ?_, List.ext_getElem (by simp [he]) fun q h1 h2 => ?_⟩
  · obtain ⟨q, hq, rfl⟩ := List.getElem_of_mem hr
    have := h.conv q (by omega)
    rw [hg q hq] at this
    rw [this]
    rfl
  · have := h.conv q h1
    rw [hg q (by omega), hgd q h1] at this
    simp only [List.getElem_map, this]
set_option maxHeartbeats 8000000 in
/-- cleanselaw43.MigrateAtOnce. -/
theorem f10 (S : List Tb) (c : Ch) (tabs : List (List Rw)) (ops : List Opn) (hw : WideM S c tabs ops) : AF Tryz.prog 10 [.d (.agg [eTs S]), .d (eC c), .d (eTt tabs), .d (eOs ops)] [] (fun o p => o = .ret (.d (.lit (.bool true))) ∧ p = []) := by
  refine AF.intro hT Tryz.func10 rfl (by kernel_rfl) (Nat.le_of_ble_eq_true rfl) ?_
  repeat (first | refine wA0 rfl rfl rfl rfl ?_ | refine AL.nil ?_ | refine AW.seq ?_ | refine AW.region ?_ | refine bA rfl rfl rfl rfl rfl rfl ?_)
  refine AL.call0 rfl rfl rfl (f34) rfl rfl rfl ?_
  repeat (first | refine wA0 rfl rfl rfl rfl ?_ | refine AL.nil ?_ | refine AW.seq ?_ | refine AW.region ?_)
  refine AL.call0 rfl rfl rfl (f35 S tabs ops hw.wt hw.wr hw.wo) rfl rfl rfl ?_
  repeat (first | refine wA0 rfl rfl rfl rfl ?_ | refine AL.nil ?_)
  refine AW.cond rfl (fun h0 => ?_) (fun h0 => ?_)
  · repeat' (first | refine wA0 rfl rfl rfl rfl ?_ | refine AL.nil ?_ | refine AW.seq ?_ | refine AW.region ?_ | (refine AW.ret ?_; refine ⟨[], _, _, rfl, rfl, ⟨?_, rfl⟩, rfl⟩))
    rfl
  · obtain ⟨hS, ⟨h6, hr⟩, h20, ho⟩ := smallM_ok (small_of h0)
    have big : (1000000 : Nat) ≤ maxLen := by decide
    have hSS := hS.okS hw.wS
    have hcc : OkC c := ⟨hw.wc⟩
    have hr1 : ∀ r, r ∈ tabs → r.length ≤ 100000 := fun r h => by have := (hr r h).1; omega
    have hr2 : ∀ r, r ∈ tabs → ∀ x, x ∈ r → x.length ≤ 1000000 := fun r h x hx => by have := (hr r h).2 x hx; omega
    repeat (first | refine wA0 rfl rfl rfl rfl ?_ | refine AW.seq ?_ | refine AW.region ?_ | refine AW.skip ?_)
    by_cases he : startE S c tabs = 0
    · have hi := startM_inv hSS hcc h6 hr he
      have h36 := f36 S c tabs hSS hcc hS.okB (by omega) hr1 hr2 he
      obtain ⟨m, hm⟩ : ∃ m, m = startM S c tabs := ⟨_, rfl⟩
      rw [← hm] at h36 hi
      have e1 : m.tabs = tabs := by rw [hm]; rfl
      have e2 : m.old = S := by rw [hm]; rfl
      have e3 : m.ch = c := by rw [hm]; rfl
      clear hm
      subst e1 e2 e3
      obtain ⟨hU, hb, hUr⟩ := playM_inv ops hi (fun r h => (hr r h).1) (by omega) ho
      have h47 := f47 m ops hi.ok h20 (fun r h => (hr r h).1) (fun o h => by have := ho o h; omega)
      generalize playM m ops = U at hU hb hUr h47
      have h38 := f38 U 1000 hU.ok
      have hV := goM_inv _ hU (stepN_le U 1000 hU.ok)
      have hfull := full_step hU.ok (Nat.le_trans (hUr _ (mem_getD (α := List Rw) hU.ok.tab)) (by omega))
      have hs := goM_same (stepN U 1000) U
      generalize goM (stepN U 1000) U = V at h38 hV hfull hs
      have vo : V.old = m.old := hs.old.trans hb.old
      have vc : V.ch = m.ch := hs.ch.trans hb.ch
      have vt : V.tab = m.tab := hs.tab.trans hb.tab
      have htU : m.tab < U.tabs.length := by have := hU.ok.tab; rw [hb.tab] at this; exact this
      have hUl : (U.tabs.getD m.tab []).length ≤ 40 := Nat.le_trans (hUr _ (mem_getD (α := List Rw) htU)) (by omega)
      have hrw : V.rows = U.tabs.getD m.tab [] := by rw [Mg.rows, hs.tabs, vt]
      have h25 := f25 m.old m.ch.table hSS.len
      rw [hi.tab] at h25
      have h17 := f17X m.old m.ch hSS hcc hS.okB
      have happ : (applyX m.old m.ch).2 = 0 := (startE_zero he).2.2.1
      have hcond : (bif decide ((m.tab : Int) < 0) then true else decide ((m.tab : Int) ≥ (U.tabs.length : Int))) = false := by
        have h1 : decide ((m.tab : Int) < 0) = false := decide_eq_false (by omega)
        have h2 : decide ((m.tab : Int) ≥ (U.tabs.length : Int)) = false := decide_eq_false (by omega)
        rw [h1, h2]
        rfl
      refine AL.effN _ (VE.call [] [.loc 200,.loc 201,.loc 202,.loc 203,.loc 204,.loc 205] rfl rfl rfl rfl rfl (h36) (fun _ _ h => h) rfl) rfl rfl rfl rfl rfl ?_
      repeat (first | refine wA0 rfl rfl rfl rfl ?_ | refine AL.nil ?_ | refine AW.seq ?_ | refine AW.region ?_)
      refine AW.condF rfl rfl ?_
      repeat (first | refine wA0 rfl rfl rfl rfl ?_ | refine AW.seq ?_ | refine AW.region ?_ | refine AW.skip ?_)
      refine AL.effN _ (VE.call [.loc 200,.loc 201,.loc 202,.loc 203,.loc 204,.loc 205] [.loc 206,.loc 207] rfl rfl rfl rfl rfl (h47) (fun _ _ h => h) rfl) rfl rfl rfl rfl rfl ?_
      repeat (first | refine wA0 rfl rfl rfl rfl ?_ | refine AL.nil ?_ | refine AW.seq ?_ | refine AW.region ?_)
      refine AL.effN _ (VE.call [.loc 200,.loc 201,.loc 206,.loc 203,.loc 204,.loc 205] [.loc 208] rfl rfl rfl rfl rfl (h38) (fun _ _ h => h) rfl) rfl rfl rfl rfl rfl ?_
      repeat (first | refine wA0 rfl rfl rfl rfl ?_ | refine AL.nil ?_ | refine AW.seq ?_ | refine AW.region ?_)
      by_cases hf : V.failed = true
      · have hbad := all_bad hV hf
        rw [hrw, vo, vc, vt] at hbad
        refine AL.effN _ (VE.call [.loc 200,.loc 201,.loc 208,.loc 203,.loc 204,.loc 205] [] rfl rfl rfl rfl rfl (f42f V hf) (fun _ _ h => h) rfl) rfl rfl rfl rfl rfl ?_
        repeat (first | refine wA0 rfl rfl rfl rfl ?_ | refine AL.nil ?_ | refine AW.seq ?_ | refine AW.region ?_ | refine sA rfl rfl rfl rfl rfl rfl rfl rfl rfl ?_ | refine bA rfl rfl rfl rfl rfl rfl ?_)
        refine AL.call0 rfl rfl rfl (h25) rfl rfl rfl ?_
        repeat (first | refine wA0 rfl rfl rfl rfl ?_ | refine wA1 rfl rfl rfl rfl rfl ?_ | refine AL.nil ?_ | refine AW.seq ?_ | refine AW.region ?_)
        refine AW.condF rfl hcond ?_
        repeat (first | refine wA0 rfl rfl rfl rfl ?_ | refine AL.nil ?_ | refine AW.seq ?_ | refine AW.region ?_ | refine AW.skip ?_ | refine AW.block ?_)
        refine AW.weak (Weak.seed 17 400 29 1 (FR ((m.R U).take 0)) rfl rfl) ?_
        refine AW.weak (Weak.keep [4,5,9,12,13,14,15,16,17,18,19] [.loc 4,.loc 5,.loc 13,.loc 207,.loc 400] rfl rfl) ?_
        refine AW.loop (I := fun n st => ∃ i : Nat, i + n = (U.tabs.getD m.tab []).length ∧ st = ⟨142, [(4, .ptr (.loc 4) 0), (5, .ptr (.loc 5) 0), (9, .d (.lit (.bool true))), (12, .sl (.loc 207) U.tabs.length), (13, .ptr (.loc 13) 0), (14, .d (eTt [])), (15, .d (eI 15)), (16, .d (eI m.tab)), (17, .sl (.loc 400) i), (18, .d (.lit (.bool (m.fits U i)))), (19, .d (eI i))],
        [(.loc 4, .cells [.d (eTs m.old)]), (.loc 5, .cells ((eC m.ch).cells.map .d)), (.loc 13, .cells [.d (eTs [])]), (.loc 207, .arr true 79 1 U.tabs.length (FTt U.tabs) none), (.loc 400, .arr false 29 1 i (FR ((m.R U).take i)) none)]⟩) (U.tabs.getD m.tab []).length ⟨0, by omega, rfl⟩ ?_
        rintro n _ ⟨i, hin, rfl⟩
        repeat (first | refine wA0 rfl rfl rfl rfl ?_ | refine AL.nil ?_ | refine AW.seq ?_ | refine AW.region ?_)
        refine AW.cond rfl (fun hlt => ?_) (fun hlt => ?_)
        · have hlt' : i < (U.tabs.getD m.tab []).length := by simpa using hlt
          have hrl := hU.ok.row _ (mem_getD (α := List Rw) htU) _ (mem_getD (α := Rw) hlt')
          have h19 := f19X m.old m.ch m.tab ((U.tabs.getD m.tab []).getD i []) hSS hcc hrl
          repeat (first | refine AW.seq ?_ | refine AW.skip ?_ | refine AW.block ?_ | refine dW ?_ | refine wG0 rfl rfl rfl rfl ?_)
          refine DG.call0 rfl rfl rfl (h19) rfl rfl rfl ?_
          repeat (first | refine wA0 rfl rfl rfl rfl ?_ | refine wA1 rfl rfl rfl rfl rfl ?_ | refine AL.nil ?_ | refine AW.seq ?_ | refine AW.region ?_ | refine wG0 rfl rfl rfl rfl ?_ | refine nG ?_)
          refine AL.effN _ (VE.bslice hT (d := 99) (fun _ => [eVs (convX m.old m.ch m.tab ((U.tabs.getD m.tab []).getD i [])).1]) rfl rfl rfl rfl rfl rfl rfl (fun i hi => by obtain rfl : i = 0 := (by omega); rfl)) rfl rfl rfl rfl rfl ?_
          refine AL.effN _ (VE.append hT (d := 100) (FR ((m.R U).take (i + 1))) [.loc 400, .loc 99] rfl rfl rfl rfl rfl rfl rfl rfl rfl rfl ⟨rfl, by omega, by show (i + 1) * 24 ≤ _; omega⟩ (fun q hq => FR_take hq) (fun q hq => FR_takeL hlt' hq)) rfl rfl rfl rfl rfl ?_
          repeat (first | refine wA0 rfl rfl rfl rfl ?_ | refine AL.nil ?_ | refine AW.region ?_)
          refine ⟨n - 1, _, by omega, Weak.trans (Weak.keep [4,5,9,12,13,14,15,16,17,18,19] [.loc 4,.loc 5,.loc 13,.loc 207,.loc 100] rfl rfl) (Weak.mv 100 400 rfl rfl), i + 1, by omega, ?_⟩
          rw [i64s (by omega), fits_succ hlt']
          rfl
        · obtain rfl : i = (U.tabs.getD m.tab []).length := by
            have : ¬ ((i : Int) < ((U.tabs.getD m.tab []).length : Int)) := by simpa using hlt
            omega
          rw [R_take, fits_all]
          refine AW.exit ?_
          repeat (first | refine wA0 rfl rfl rfl rfl ?_ | refine AL.nil ?_ | refine AW.seq ?_ | refine AW.region ?_)
          refine AW.condT rfl (by rw [hbad]; rfl) ?_
          repeat' (first | refine wA0 rfl rfl rfl rfl ?_ | refine wA1 rfl rfl rfl rfl rfl ?_ | refine AL.nil ?_ | refine AW.seq ?_ | refine AW.region ?_ | (refine AW.ret ?_; refine ⟨[], _, _, rfl, rfl, ⟨?_, rfl⟩, rfl⟩))
          rfl
      · have hl : V.left = 0 := hfull.resolve_left hf
        obtain ⟨hgood, hdone⟩ := all_good hV hl
        rw [hrw, vo, vc, vt] at hgood hdone
        have hfin := fin_ok (V := V) (by rw [vo]; exact hS) hV
        refine AL.effN _ (VE.call [.loc 200,.loc 201,.loc 208,.loc 203,.loc 204,.loc 205] [] rfl rfl rfl rfl rfl (f42 V hV.ok (by simpa using hf) hl) (fun _ _ h => h) rfl) rfl rfl rfl rfl rfl ?_
        repeat (first | refine wA0 rfl rfl rfl rfl ?_ | refine AL.nil ?_ | refine AW.seq ?_ | refine AW.region ?_ | refine sA rfl rfl rfl rfl rfl rfl rfl rfl rfl ?_ | refine bA rfl rfl rfl rfl rfl rfl ?_)
        refine AL.call0 rfl rfl rfl (h25) rfl rfl rfl ?_
        repeat (first | refine wA0 rfl rfl rfl rfl ?_ | refine wA1 rfl rfl rfl rfl rfl ?_ | refine AL.nil ?_ | refine AW.seq ?_ | refine AW.region ?_)
        refine AW.condF rfl hcond ?_
        repeat (first | refine wA0 rfl rfl rfl rfl ?_ | refine AL.nil ?_ | refine AW.seq ?_ | refine AW.region ?_ | refine AW.skip ?_ | refine AW.block ?_)
        refine AW.weak (Weak.seed 17 400 29 1 (FR ((m.R U).take 0)) rfl rfl) ?_
        refine AW.weak (Weak.keep [4,5,9,12,13,14,15,16,17,18,19] [.loc 4,.loc 5,.loc 13,.loc 207,.loc 400] rfl rfl) ?_
        refine AW.loop (I := fun n st => ∃ i : Nat, i + n = (U.tabs.getD m.tab []).length ∧ st = ⟨142, [(4, .ptr (.loc 4) 0), (5, .ptr (.loc 5) 0), (9, .d (.lit (.bool true))), (12, .sl (.loc 207) U.tabs.length), (13, .ptr (.loc 13) 0), (14, .d (eTt (V.tabs.set V.tab V.done))), (15, .d (eI 0)), (16, .d (eI m.tab)), (17, .sl (.loc 400) i), (18, .d (.lit (.bool (m.fits U i)))), (19, .d (eI i))],
        [(.loc 4, .cells [.d (eTs m.old)]), (.loc 5, .cells ((eC m.ch).cells.map .d)), (.loc 13, .cells [.d (eTs V.next)]), (.loc 207, .arr true 79 1 U.tabs.length (FTt U.tabs) none), (.loc 400, .arr false 29 1 i (FR ((m.R U).take i)) none)]⟩) (U.tabs.getD m.tab []).length ⟨0, by omega, rfl⟩ ?_
        rintro n _ ⟨i, hin, rfl⟩
        repeat (first | refine wA0 rfl rfl rfl rfl ?_ | refine AL.nil ?_ | refine AW.seq ?_ | refine AW.region ?_)
        refine AW.cond rfl (fun hlt => ?_) (fun hlt => ?_)
        · have hlt' : i < (U.tabs.getD m.tab []).length := by simpa using hlt
          have hrl := hU.ok.row _ (mem_getD (α := List Rw) htU) _ (mem_getD (α := Rw) hlt')
          have h19 := f19X m.old m.ch m.tab ((U.tabs.getD m.tab []).getD i []) hSS hcc hrl
          repeat (first | refine AW.seq ?_ | refine AW.skip ?_ | refine AW.block ?_ | refine dW ?_ | refine wG0 rfl rfl rfl rfl ?_)
          refine DG.call0 rfl rfl rfl (h19) rfl rfl rfl ?_
          repeat (first | refine wA0 rfl rfl rfl rfl ?_ | refine wA1 rfl rfl rfl rfl rfl ?_ | refine AL.nil ?_ | refine AW.seq ?_ | refine AW.region ?_ | refine wG0 rfl rfl rfl rfl ?_ | refine nG ?_)
          refine AL.effN _ (VE.bslice hT (d := 99) (fun _ => [eVs (convX m.old m.ch m.tab ((U.tabs.getD m.tab []).getD i [])).1]) rfl rfl rfl rfl rfl rfl rfl (fun i hi => by obtain rfl : i = 0 := (by omega); rfl)) rfl rfl rfl rfl rfl ?_
          refine AL.effN _ (VE.append hT (d := 100) (FR ((m.R U).take (i + 1))) [.loc 400, .loc 99] rfl rfl rfl rfl rfl rfl rfl rfl rfl rfl ⟨rfl, by omega, by show (i + 1) * 24 ≤ _; omega⟩ (fun q hq => FR_take hq) (fun q hq => FR_takeL hlt' hq)) rfl rfl rfl rfl rfl ?_
          repeat (first | refine wA0 rfl rfl rfl rfl ?_ | refine AL.nil ?_ | refine AW.region ?_)
          refine ⟨n - 1, _, by omega, Weak.trans (Weak.keep [4,5,9,12,13,14,15,16,17,18,19] [.loc 4,.loc 5,.loc 13,.loc 207,.loc 100] rfl rfl) (Weak.mv 100 400 rfl rfl), i + 1, by omega, ?_⟩
          rw [i64s (by omega), fits_succ hlt']
          rfl
        · obtain rfl : i = (U.tabs.getD m.tab []).length := by
            have : ¬ ((i : Int) < ((U.tabs.getD m.tab []).length : Int)) := by simpa using hlt
            omega
          rw [R_take, fits_all]
          refine AW.exit ?_
          repeat (first | refine wA0 rfl rfl rfl rfl ?_ | refine AL.nil ?_ | refine AW.seq ?_ | refine AW.region ?_)
          refine AW.condF rfl (by rw [hgood]; rfl) ?_
          have hR : m.R U = V.done := hdone.symm
          rw [hR]
          refine AW.weak (Weak.freezeM 17 (.loc 400) (m := V.done.length) (fun q => eVs (V.done.getD q [])) rfl rfl rfl rfl (by rw [hdone, List.length_map]) (fun q _ => rfl) rfl) ?_
          have hti : (0 : Int) ≤ (m.tab : Int) ∧ (m.tab : Int) < (U.tabs.length : Int) := by omega
          repeat (first | refine wA0 rfl rfl rfl rfl ?_ | refine AW.seq ?_ | refine AW.region ?_ | refine AW.skip ?_)
          refine AL.effS _ (VE.storeE hT (foc' := none) (FTt (U.tabs.set m.tab V.done)) rfl rfl rfl rfl rfl rfl rfl htU (.inl ⟨_, rfl, rfl, rfl, ?_, fun q _ hq => ?_⟩)) rfl rfl rfl ?_
          · show FTt (U.tabs.set m.tab V.done) m.tab = _
            rw [FTt, getD_set_self htU]
            rfl
          · show FTt (U.tabs.set m.tab V.done) q = FTt U.tabs q
            rw [FTt, FTt, getD_set_neL (show q ≠ m.tab from hq)]
          repeat (first | refine wA0 rfl rfl rfl rfl ?_ | refine AL.nil ?_ | refine AW.seq ?_ | refine AW.region ?_)
          refine AL.call0 rfl rfl rfl (h17) rfl rfl rfl ?_
          repeat (first | refine wA0 rfl rfl rfl rfl ?_ | refine wA1 rfl rfl rfl rfl rfl ?_ | refine AL.nil ?_ | refine AW.seq ?_ | refine AW.region ?_ | refine sA rfl rfl rfl rfl rfl rfl rfl rfl rfl ?_ | refine bA rfl rfl rfl rfl rfl rfl ?_)
          refine kA1 rfl rfl rfl rfl (fun hγ => f21 V.next (applyX m.old m.ch).1 hfin.okS.len hfin.okS.t) rfl rfl rfl ?_
          refine AL.weak (Weak.freezeM 12 (.loc 207) (m := (U.tabs.set m.tab V.done).length) (fun q => eRs ((U.tabs.set m.tab V.done).getD q [])) rfl rfl rfl rfl (by rw [List.length_set]) (fun q _ => rfl) rfl) ?_
          repeat (first | refine wA0 rfl rfl rfl rfl ?_ | refine wA1 rfl rfl rfl rfl rfl ?_)
          refine kA1 rfl rfl rfl rfl (fun hγ => f44 (V.tabs.set V.tab V.done) (U.tabs.set m.tab V.done) (Nat.le_trans hfin.len (by omega)) (fun r h => Nat.le_trans (hfin.rows r h) (by omega)) (fun r h x hx => Nat.le_trans (hfin.row r h x hx) (by omega))) rfl rfl rfl ?_
          repeat' (first | refine wA0 rfl rfl rfl rfl ?_ | refine AL.nil ?_ | (refine AW.ret ?_; refine ⟨[], _, _, rfl, rfl, ⟨?_, rfl⟩, rfl⟩))
          have hnx : V.next = (applyX m.old m.ch).1 := by rw [hV.next, vo, vc]
          rw [happ, ← hnx, sameS_refl, hs.tabs, vt, sameTt_refl]
          rfl
    · refine AL.call0 rfl rfl rfl (f36e S c tabs hSS hcc hS.okB (by omega) hr1 hr2 he) rfl rfl rfl ?_
      repeat (first | refine wA0 rfl rfl rfl rfl ?_ | refine AL.nil ?_ | refine AW.seq ?_ | refine AW.region ?_)
      refine AW.condT rfl (by simpa using he) ?_
      repeat' (first | refine wA0 rfl rfl rfl rfl ?_ | refine wA1 rfl rfl rfl rfl rfl ?_ | refine AL.nil ?_ | refine AW.seq ?_ | refine AW.region ?_ | (refine AW.ret ?_; refine ⟨[], _, _, rfl, rfl, ⟨?_, rfl⟩, rfl⟩))
      rfl
end Go.Pv
