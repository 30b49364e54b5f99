/- Part of the proofs over this seat: V42 V43. -/
import Derived.Test.YteohopnpcanfpaaGreatDoorZLb
import Derived.Test.YteohopnpcanfpaaGreatDoorZKf
set_option maxRecDepth 100000
namespace Go.Pv
open Go.RowKit Go.Proofs

/-! ### The chapter's example of a migration -/
def tA : Bs := ⟨#[97]⟩
def tN : Bs := ⟨#[110]⟩
def exA : List At := [⟨tA, 1, [], zV⟩, ⟨tN, 2, [], zV⟩]
def exT : Tb := ⟨sT, exA, [0]⟩
def exL : List Tb := [exT]
def exC : Ch := ⟨4, sT, tN, ⟨#[]⟩, 3, zV⟩
def exR (a : Bs) (n : Int) : Rw := [⟨1, 0, a⟩, ⟨2, n, ⟨#[]⟩⟩]
theorem f74 (a : Bs) (n : Int) : AF Tryz.prog 74 [.d (eS a), .d (eI n)] [] (fun o p => o = .ret (.d (eVs (exR a n))) ∧ p = []) := by
  refine AF.intro hT Tryz.func74 rfl (by kernel_rfl) (Nat.le_of_ble_eq_true rfl) ?_
  repeat (first | refine wA0 rfl rfl rfl rfl ?_ | refine AL.nil ?_ | refine AW.seq ?_ | refine AW.region ?_)
  refine AL.effN _ (VE.bsliceD hT (fun q => eV ((exR a n).getD q default)) rfl rfl rfl rfl rfl rfl rfl (fun q hq => ?_)) rfl rfl rfl rfl rfl ?_
  · have : q = 0 ∨ q = 1 := by omega
    rcases this with rfl | rfl <;> rfl
  repeat' (first | refine wA0 rfl rfl rfl rfl ?_ | refine AL.nil ?_ | (refine AW.ret ?_; refine ⟨[], _, _, rfl, rfl, ⟨?_, rfl⟩, rfl⟩))
  rfl
theorem f73 : AF Tryz.prog 73 [] [] (fun o p => o = .ret (.tup [.d (.agg [eTs exL]), .d (eC exC)]) ∧ p = []) := by
  refine AF.intro hT Tryz.func73 rfl (by kernel_rfl) (Nat.le_of_ble_eq_true rfl) ?_
  repeat (first | refine wA0 rfl rfl rfl rfl ?_ | refine AL.nil ?_ | refine AW.seq ?_ | refine AW.region ?_ | refine bA rfl rfl rfl rfl rfl rfl ?_)
  refine AL.effN _ (VE.bslice hT (d := 5) (fun q => if q = 0 then [eS tA, eI 1, .lit (.slice none 0 0), eI 0, eI 0, eS ⟨#[]⟩] else [eS tN, eI 2, .lit (.slice none 0 0), eI 0, eI 0, eS ⟨#[]⟩]) rfl rfl rfl rfl rfl rfl rfl (fun q hq => ?_)) rfl rfl rfl rfl rfl ?_
  · have : q = 0 ∨ q = 1 := by omega
    rcases this with rfl | rfl <;> rfl
  refine AL.weak (Weak.trans (Weak.arrImp (.loc 5) 2 (FA exA) rfl rfl rfl (fun q hq π vs h => ?_) rfl) (Weak.freezeN 5 (.loc 5) (fun q => eA (exA.getD q default)) rfl rfl rfl rfl (fun q hq => rfl) rfl)) ?_
  · have : q = 0 ∨ q = 1 := by omega
    rcases this with rfl | rfl
    · obtain ⟨v1, r1, rfl, a1, b1, v2, r2, rfl, a2, b2, v3, r3, rfl, a3, b3, h4⟩ := h
      exact ⟨v1, _, rfl, a1, b1, v2, _, rfl, a2, b2, v3, _, rfl, a3, nilSl_rep b3, h4⟩
    · obtain ⟨v1, r1, rfl, a1, b1, v2, r2, rfl, a2, b2, v3, r3, rfl, a3, b3, h4⟩ := h
      exact ⟨v1, _, rfl, a1, b1, v2, _, rfl, a2, b2, v3, _, rfl, a3, nilSl_rep b3, h4⟩
  refine AL.effN _ (VE.bsliceD hT (fun q => eI (([0] : List Int).getD q 0)) rfl rfl rfl rfl rfl rfl rfl (fun q hq => ?_)) rfl rfl rfl rfl rfl ?_
  · obtain rfl : q = 0 := by omega
    rfl
  repeat (first | refine wA0 rfl rfl rfl rfl ?_ | refine AL.nil ?_ | refine AW.seq ?_ | refine AW.region ?_ | refine sA rfl rfl rfl rfl rfl rfl rfl rfl rfl ?_ | refine bA rfl rfl rfl rfl rfl rfl ?_)
  refine AL.effN _ (VE.bsliceD hT (fun q => eT (exL.getD q default)) rfl rfl rfl rfl rfl rfl rfl (fun q hq => ?_)) rfl rfl rfl rfl rfl ?_
  · obtain rfl : q = 0 := by omega
    rfl
  repeat' (first | refine wA0 rfl rfl rfl rfl ?_ | refine AL.nil ?_ | refine sA rfl rfl rfl rfl rfl rfl rfl rfl rfl ?_ | (refine AW.ret ?_; refine ⟨[], _, _, rfl, rfl, ⟨?_, rfl⟩, rfl⟩))
  rfl
theorem ex_okS : OkS exL := by
  have hm : ∀ t, t ∈ exL → t = exT := fun t h => by simpa [exL] using h
  have ha : ∀ a, a ∈ exT.attrs → a = ⟨tA, 1, [], zV⟩ ∨ a = ⟨tN, 2, [], zV⟩ := fun a h => by simpa [exT, exA] using h
  refine ⟨by decide, fun t h => ?_, fun t h => ?_⟩
  · rw [hm t h]
    refine ⟨by decide, fun s hs => ?_, by decide, by decide, by decide⟩
    have : s = tA ∨ s = tN := by simpa [exT, namesOf, exA] using hs
    rcases this with rfl | rfl <;> decide
  · rw [hm t h]
    refine ⟨by decide, fun a h => ?_, by decide⟩
    rcases ha a h with rfl | rfl <;> decide
theorem ex_okB : OkB exL := by
  have hm : ∀ t, t ∈ exL → t = exT := fun t h => by simpa [exL] using h
  refine ⟨by decide, fun t h => by rw [hm t h]; decide, fun t h => by rw [hm t h]; decide, fun t h a ha => ?_⟩
  rw [hm t h] at ha
  have : a = ⟨tA, 1, [], zV⟩ ∨ a = ⟨tN, 2, [], zV⟩ := by simpa [exT, exA] using ha
  rcases this with rfl | rfl <;> decide
theorem ex_valid : validF exL = true := by rw [validF_eq]; decide +kernel
theorem ex_err : errX exL exC = 0 := by unfold errX; rw [ex_valid]; decide +kernel
def exN : List Tb := exL.set 0 (casT exT exC 1)
theorem ex_apply : applyX exL exC = (exN, 0) := by unfold applyX; rw [if_pos ex_err]; kernel_rfl
def exO (a : Bs) (n : Int) : Rw := [⟨1, 0, a⟩, ⟨3, n, ⟨#[]⟩⟩]
def tX : Bs := ⟨#[120]⟩
def tY : Bs := ⟨#[121]⟩
def tZ : Bs := ⟨#[122]⟩
def tW : Bs := ⟨#[119]⟩
theorem cv_x : convX exL exC (0 : Nat) (exR tX 1) = (exO tX 1, 0) := by unfold convX; rw [if_pos ex_err]; kernel_rfl
theorem cv_y : convX exL exC (0 : Nat) (exR tY 200000) = ([], 15) := by unfold convX; rw [if_pos ex_err]; kernel_rfl
theorem cv_z : convX exL exC (0 : Nat) (exR tZ 3) = (exO tZ 3, 0) := by unfold convX; rw [if_pos ex_err]; kernel_rfl
theorem cv_w : convX exL exC (0 : Nat) (exR tW 4) = (exO tW 4, 0) := by unfold convX; rw [if_pos ex_err]; kernel_rfl
def ma0 : Mg := ⟨exL, exC, exN, 0, [[exR tX 1, exR tY 200000, exR tZ 3]], [], false⟩
def ma1 : Mg := { ma0 with done := [exO tX 1] }
def ma2 : Mg := { ma1 with failed := true }
def mb0 : Mg := ⟨exL, exC, exN, 0, [[exR tX 1, exR tZ 3]], [], false⟩
def mb1 : Mg := { mb0 with done := [exO tX 1] }
def mb2 : Mg := { mb1 with tabs := [[exR tX 1, exR tZ 3, exR tW 4]] }
def mb3 : Mg := { mb2 with done := [exO tX 1, exO tZ 3, exO tW 4] }
theorem stepM_to {m : Mg} {x : Rw} (h : convX m.old m.ch m.tab (m.rows.getD m.done.length []) = (x, 0)) : stepM m = { m with done := m.done ++ [x] } := by
  unfold stepM
  rw [h]
  rfl
theorem stepM_no {m : Mg} {x : Rw} {e : Int} (he : e ≠ 0) (h : convX m.old m.ch m.tab (m.rows.getD m.done.length []) = (x, e)) : stepM m = { m with failed := true } := by
  unfold stepM
  rw [h, if_neg he]
theorem ga1 : goM (stepN ma0 1) ma0 = ma1 := by
  show goM 0 (stepM ma0) = ma1
  rw [stepM_to (m := ma0) cv_x]
  rfl
theorem ga2 : goM (stepN ma1 1) ma1 = ma2 := by
  show goM 0 (stepM ma1) = ma2
  rw [stepM_no (m := ma1) (by decide) cv_y]
  rfl
theorem gb1 : goM (stepN mb0 1) mb0 = mb1 := by
  show goM 0 (stepM mb0) = mb1
  rw [stepM_to (m := mb0) cv_x]
  rfl
theorem gb3 : goM (stepN mb2 9) mb2 = mb3 := by
  show goM 1 (stepM mb2) = mb3
  rw [stepM_to (m := mb2) cv_z]
  show goM 0 (stepM _) = mb3
  rw [stepM_to (m := { mb2 with done := mb2.done ++ [exO tZ 3] }) cv_w]
  rfl
end Go.Pv
namespace Go.Pv
open Go.RowKit Go.Proofs

theorem ex_ok (rows done : List Rw) (f : Bool) (h1 : rows.length ≤ 100) (h2 : ∀ x, x ∈ rows → x.length ≤ 100) (h3 : done.length ≤ rows.length) : Mg.OK ⟨exL, exC, exN, 0, [rows], done, f⟩ :=
  ⟨ex_okS, ⟨by show exC.name.size ≤ maxLen; decide⟩, by show 0 < 1; omega, by show 1 ≤ 1000; omega, fun r h => by
    have : r = rows := by simpa using h
    subst this
    omega, fun r h x hx => by
    have : r = rows := by simpa using h
    subst this
    have := h2 x hx
    omega, h3, rfl⟩
theorem oka (f : Bool) (done : List Rw) (h : done.length ≤ 3) : Mg.OK ⟨exL, exC, exN, 0, ma0.tabs, done, f⟩ := ex_ok _ done f (by decide) (fun x hx => by
  have : x = exR tX 1 ∨ x = exR tY 200000 ∨ x = exR tZ 3 := by simpa using hx
  rcases this with rfl | rfl | rfl <;> decide) h
theorem okb (done : List Rw) (h : done.length ≤ 2) : Mg.OK ⟨exL, exC, exN, 0, mb0.tabs, done, false⟩ := ex_ok _ done false (by decide) (fun x hx => by
  have : x = exR tX 1 ∨ x = exR tZ 3 := by simpa using hx
  rcases this with rfl | rfl <;> decide) h
theorem okb2 (done : List Rw) (h : done.length ≤ 3) : Mg.OK ⟨exL, exC, exN, 0, mb2.tabs, done, false⟩ := ex_ok _ done false (by decide) (fun x hx => by
  have : x = exR tX 1 ∨ x = exR tZ 3 ∨ x = exR tW 4 := by simpa using hx
  rcases this with rfl | rfl | rfl <;> decide) h
theorem start_ex (tabs : List (List Rw)) (h1 : fitT exL tabs = true) : startE exL exC tabs = 0 := by
  unfold startE
  rw [ex_valid, h1, ex_apply]
  rfl
theorem startM_ex (tabs : List (List Rw)) : startM exL exC tabs = ⟨exL, exC, exN, 0, tabs, [], false⟩ := by
  unfold startM
  rw [ex_apply]
  have : (findF exL exC.table).toNat = 0 := by decide +kernel
  rw [this]
theorem ha0 : AF Tryz.prog 36 [.d (.agg [eTs exL]), .d (eC exC), .d (eTt ma0.tabs)] [] (fun o p => o = .ret (.tup [.ptr (.par 0) 0, .d (eI 0)]) ∧ p = mgP ma0) := by
  have ok := oka false [] (by decide)
  have h := f36 exL exC ma0.tabs ex_okS ⟨by decide⟩ ex_okB ok.len ok.rows ok.row (start_ex _ (by decide +kernel))
  rw [startM_ex] at h
  exact h
theorem ha1 : AF Tryz.prog 38 [.ptr (.par 0) 0, .d (eI 1)] (mgP ma0) (fun o p => o = .ret (.tup [.d (eI 2), .d (eI 0)]) ∧ p = mgS ma1 0) := by
  have h := f38 ma0 1 (oka false [] (by decide))
  rw [ga1] at h
  exact h
theorem ha2 : AF Tryz.prog 38 [.ptr (.par 0) 0, .d (eI 1)] (mgP ma1) (fun o p => o = .ret (.tup [.d (eI 2), .d (eI 15)]) ∧ p = mgS ma2 1) := by
  have h := f38 ma1 1 (oka false [exO tX 1] (by decide))
  rw [ga2] at h
  exact h
theorem hb0 : AF Tryz.prog 36 [.d (.agg [eTs exL]), .d (eC exC), .d (eTt mb0.tabs)] [] (fun o p => o = .ret (.tup [.ptr (.par 0) 0, .d (eI 0)]) ∧ p = mgP mb0) := by
  have ok := okb [] (by decide)
  have h := f36 exL exC mb0.tabs ex_okS ⟨by decide⟩ ex_okB ok.len ok.rows ok.row (start_ex _ (by decide +kernel))
  rw [startM_ex] at h
  exact h
theorem hb1 : AF Tryz.prog 38 [.ptr (.par 0) 0, .d (eI 1)] (mgP mb0) (fun o p => o = .ret (.tup [.d (eI 1), .d (eI 0)]) ∧ p = mgS mb1 0) := by
  have h := f38 mb0 1 (okb [] (by decide))
  rw [gb1] at h
  exact h
theorem hb2 : AF Tryz.prog 40 [.ptr (.par 0) 0, .d (eI 0), .d (eVs (exR tW 4))] (mgP mb1) (fun o p => o = .ret (.d (eI 0)) ∧ p = mgP mb2) := by
  have h := f40 mb1 0 (exR tW 4) (okb [exO tX 1] (by decide)) (by decide) (fun k hk hl => by
    have : k = 0 := by omega
    subst this
    decide)
  have hp : putE mb1 0 (exR tW 4) = false := by decide +kernel
  rw [hp] at h
  exact h
theorem hb3 : AF Tryz.prog 38 [.ptr (.par 0) 0, .d (eI 9)] (mgP mb2) (fun o p => o = .ret (.tup [.d (eI 0), .d (eI 0)]) ∧ p = mgS mb3 1) := by
  have h := f38 mb2 9 (okb2 [exO tX 1] (by decide))
  rw [gb3] at h
  exact h
def exOut : List (List Rw) := [[exO tX 1, exO tZ 3, exO tW 4]]
theorem hb4 : AF Tryz.prog 42 [.ptr (.par 0) 0] (mgP mb3) (fun o p => o = .ret (eFin exN exOut 0) ∧ p = mgD mb3) :=
  f42 mb3 (okb2 [exO tX 1, exO tZ 3, exO tW 4] (by decide)) rfl rfl
set_option maxHeartbeats 8000000 in
theorem f34 : AF Tryz.prog 34 [] [] (fun o p => o = .ret (.d (.lit (.bool true))) ∧ p = []) := by
  refine AF.intro hT Tryz.func34 rfl (by kernel_rfl) (Nat.le_of_ble_eq_true rfl) ?_
  repeat (first | refine wA0 rfl rfl rfl rfl ?_ | refine AL.nil ?_ | refine AW.seq ?_ | refine AW.region ?_)
  refine AL.call0 rfl rfl rfl (f73) rfl rfl rfl ?_
  repeat (first | refine wA0 rfl rfl rfl rfl ?_ | refine AL.nil ?_ | refine AW.seq ?_ | refine dW ?_ | refine wG0 rfl rfl rfl rfl ?_ | refine sA rfl rfl rfl rfl rfl rfl rfl rfl rfl ?_ | refine bA rfl rfl rfl rfl rfl rfl ?_)
  refine DG.call0 rfl rfl rfl (f74 tX 1) rfl rfl rfl ?_
  skip
  refine DG.call0 rfl rfl rfl (f74 tY 200000) rfl rfl rfl ?_
  skip
  refine DG.call0 rfl rfl rfl (f74 tZ 3) rfl rfl rfl ?_
  skip
  refine DG.effN _ (VE.bsliceD hT (fun q => eVs (([exR tX 1, exR tY 200000, exR tZ 3] : List Rw).getD q [])) rfl rfl rfl rfl rfl rfl rfl (fun q hq => ?_)) rfl rfl rfl rfl ?_
  · have : q = 0 ∨ q = 1 ∨ q = 2 := by omega
    rcases this with rfl | rfl | rfl <;> rfl
  refine DG.effN _ (VE.bsliceD hT (fun q => eRs (ma0.tabs.getD q [])) rfl rfl rfl rfl rfl rfl rfl (fun q hq => ?_)) rfl rfl rfl rfl ?_
  · obtain rfl : q = 0 := by omega
    rfl
  refine DG.effN _ (VE.call [] [.loc 200,.loc 201,.loc 202,.loc 203,.loc 204,.loc 205] rfl rfl rfl rfl rfl ha0 (fun _ _ h => h) rfl) rfl rfl rfl rfl ?_
  repeat (first | refine wA0 rfl rfl rfl rfl ?_ | refine AW.seq ?_ | refine AW.region ?_ | refine wG0 rfl rfl rfl rfl ?_ | refine nG ?_)
  refine AL.effN _ (VE.call [.loc 200,.loc 201,.loc 202,.loc 203,.loc 204,.loc 205] [.loc 206] rfl rfl rfl rfl rfl (ha1) (fun _ _ h => h) rfl) rfl rfl rfl rfl rfl ?_
  repeat (first | refine wA0 rfl rfl rfl rfl ?_ | refine AL.nil ?_ | refine AW.seq ?_ | refine AW.region ?_)
  refine AL.effN _ (VE.call [.loc 200,.loc 201,.loc 206,.loc 203,.loc 204,.loc 205] [.loc 207] rfl rfl rfl rfl rfl (ha2) (fun _ _ h => h) rfl) rfl rfl rfl rfl rfl ?_
  repeat (first | refine wA0 rfl rfl rfl rfl ?_ | refine AL.nil ?_ | refine AW.seq ?_ | refine AW.region ?_)
  refine AL.effN _ (VE.call [.loc 200,.loc 201,.loc 207,.loc 203,.loc 204,.loc 205] [] rfl rfl rfl rfl rfl (f42f ma2 rfl) (fun _ _ h => h) rfl) rfl rfl rfl rfl rfl ?_
  repeat (first | refine wA0 rfl rfl rfl rfl ?_ | refine AL.nil ?_ | refine AW.seq ?_ | refine AW.region ?_ | refine sA rfl rfl rfl rfl rfl rfl rfl rfl rfl ?_ | refine bA rfl rfl rfl rfl rfl rfl ?_)
  refine AL.effN _ (VE.call [.loc 200,.loc 201,.loc 207,.loc 203,.loc 204,.loc 205] [] rfl rfl rfl rfl rfl (f45 ma2 (oka true [exO tX 1] (by decide))) (fun _ _ h => h) rfl) rfl rfl rfl rfl rfl ?_
  repeat (first | refine wA0 rfl rfl rfl rfl ?_ | refine AL.nil ?_ | refine AW.seq ?_)
  refine AW.weak (Weak.keep [1,2,4,5,6,7,8,11,12,13] [.loc 1,.loc 2] rfl rfl) ?_
  repeat (first | refine dW ?_ | refine wG0 rfl rfl rfl rfl ?_)
  refine DG.call0 rfl rfl rfl (f74 tX 1) rfl rfl rfl ?_
  skip
  refine DG.call0 rfl rfl rfl (f74 tZ 3) rfl rfl rfl ?_
  skip
  refine DG.effN _ (VE.bsliceD hT (fun q => eVs (([exR tX 1, exR tZ 3] : List Rw).getD q [])) rfl rfl rfl rfl rfl rfl rfl (fun q hq => ?_)) rfl rfl rfl rfl ?_
  · have : q = 0 ∨ q = 1 := by omega
    rcases this with rfl | rfl <;> rfl
  refine DG.effN _ (VE.bsliceD hT (fun q => eRs (mb0.tabs.getD q [])) rfl rfl rfl rfl rfl rfl rfl (fun q hq => ?_)) rfl rfl rfl rfl ?_
  · obtain rfl : q = 0 := by omega
    rfl
  refine DG.effN _ (VE.call [] [.loc 210,.loc 211,.loc 212,.loc 213,.loc 214,.loc 215] rfl rfl rfl rfl rfl hb0 (fun _ _ h => h) rfl) rfl rfl rfl rfl ?_
  repeat (first | refine wA0 rfl rfl rfl rfl ?_ | refine AW.seq ?_ | refine AW.region ?_ | refine wG0 rfl rfl rfl rfl ?_ | refine nG ?_)
  refine AL.effN _ (VE.call [.loc 210,.loc 211,.loc 212,.loc 213,.loc 214,.loc 215] [] rfl rfl rfl rfl rfl (f42s mb0 (okb [] (by decide)) rfl (by decide)) (fun _ _ h => h) rfl) rfl rfl rfl rfl rfl ?_
  repeat (first | refine wA0 rfl rfl rfl rfl ?_ | refine AL.nil ?_ | refine AW.seq ?_ | refine AW.region ?_ | refine sA rfl rfl rfl rfl rfl rfl rfl rfl rfl ?_ | refine bA rfl rfl rfl rfl rfl rfl ?_)
  refine AL.effN _ (VE.call [.loc 210,.loc 211,.loc 212,.loc 213,.loc 214,.loc 215] [.loc 216] rfl rfl rfl rfl rfl (hb1) (fun _ _ h => h) rfl) rfl rfl rfl rfl rfl ?_
  repeat (first | refine wA0 rfl rfl rfl rfl ?_ | refine AL.nil ?_ | refine AW.seq ?_ | refine AW.region ?_)
  refine AL.call0 rfl rfl rfl (f74 tW 4) rfl rfl rfl ?_
  skip
  refine AL.effN _ (VE.call [.loc 210,.loc 211,.loc 216,.loc 213,.loc 214,.loc 215] [] rfl rfl rfl rfl rfl (hb2) (fun _ _ h => h) rfl) rfl rfl rfl rfl rfl ?_
  repeat (first | refine wA0 rfl rfl rfl rfl ?_ | refine AL.nil ?_ | refine AW.seq ?_ | refine AW.region ?_)
  refine AL.effN _ (VE.call [.loc 210,.loc 211,.loc 216,.loc 213,.loc 214,.loc 215] [.loc 217] rfl rfl rfl rfl rfl (hb3) (fun _ _ h => h) rfl) rfl rfl rfl rfl rfl ?_
  repeat (first | refine wA0 rfl rfl rfl rfl ?_ | refine AL.nil ?_ | refine AW.seq ?_ | refine AW.region ?_)
  refine AL.effN _ (VE.call [.loc 210,.loc 211,.loc 217,.loc 213,.loc 214,.loc 215] [] rfl rfl rfl rfl rfl (hb4) (fun _ _ h => h) rfl) rfl rfl rfl rfl rfl ?_
  repeat (first | refine wA0 rfl rfl rfl rfl ?_ | refine wA1 rfl rfl rfl rfl rfl ?_ | refine AL.nil ?_ | refine AW.seq ?_ | refine AW.region ?_ | refine sA rfl rfl rfl rfl rfl rfl rfl rfl rfl ?_ | refine bA rfl rfl rfl rfl rfl rfl ?_)
  refine AW.condF rfl (by decide +kernel) ?_
  refine AW.weak (Weak.keep [5,6,7,8,11,14,18,19,20,22,23] [.loc 22,.loc 210] rfl rfl) ?_
  repeat (first | refine wA0 rfl rfl rfl rfl ?_ | refine AW.seq ?_ | refine AW.region ?_ | refine AW.skip ?_)
  refine AL.effN _ (VE.call [.loc 210] [] rfl rfl rfl rfl rfl ((f38x 1)) (fun _ _ h => h) rfl) rfl rfl rfl rfl rfl ?_
  have hx1 : (0 : Int) ≤ 1 ∧ (1 : Int) < (((exOut.getD (Int.toNat 0) []).getD (Int.toNat 2) []).length : Int) := by decide
  have hx2 : (0 : Int) ≤ 2 ∧ (2 : Int) < ((exOut.getD (Int.toNat 0) []).length : Int) := by decide
  have hx3 : (0 : Int) ≤ 0 ∧ (0 : Int) < (exOut.length : Int) := by decide
  have hx4 : (0 : Int) ≤ 0 ∧ (0 : Int) < (exN.length : Int) := by decide
  have hx5 : (0 : Int) ≤ 1 ∧ (1 : Int) < ((exN.getD (Int.toNat 0) default).attrs.length : Int) := by decide
  repeat' (first | refine wA0 rfl rfl rfl rfl ?_ | refine wA1 rfl rfl rfl rfl rfl ?_ | refine AL.nil ?_ | refine AW.seq ?_ | refine AW.region ?_ | (refine AW.ret ?_; refine ⟨[], _, _, rfl, rfl, ⟨?_, rfl⟩, rfl⟩))
  refine congrArg (fun b => AOut.ret (.d (.lit (.bool b)))) ?_
  decide +kernel
end Go.Pv
