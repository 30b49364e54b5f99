/- Part of the proofs over this seat: Lw12 V48. -/
import Derived.Test.YteohopnpcanfpaaGreatDoorZLg
set_option maxRecDepth 100000
namespace Go.Pv
open Go.RowKit Go.Proofs

/-! ### What Finish returns can be migrated further -/
theorem badRows_no {t : Tb} {l : List Rw} (h : ∀ r, r ∈ l → fitsF t r = true) : badRows t l = false := by
  have : idx (fun r => !fitsF t r) l = -1 := idx_miss (fun k hk => by
    rw [h _ (mem_getD (α := Rw) hk)]
    rfl)
  rw [badRows, this]
  rfl
/-- The schema after the change, and the tables that Finish returns. -/
structure FinP (S : List Tb) (V : Mg) (S' : List Tb) : Prop where
  okS : OkS S'
  okB : OkB S'
  valid : validF S' = true
  fit : fitT S' (V.tabs.set V.tab V.done) = true
  len : (V.tabs.set V.tab V.done).length ≤ 1000
  rows : ∀ r, r ∈ V.tabs.set V.tab V.done → r.length ≤ 100000
  row : ∀ r, r ∈ V.tabs.set V.tab V.done → ∀ x, x ∈ r → x.length ≤ 1000000
theorem fin_ok {V : Mg} (hS : SmallP V.old) (hV : V.Inv) : FinP V.old V V.next := by
  obtain ⟨g1, g2, ⟨ti, hti, htl, ht⟩, g4⟩ := errX_zero hV.err
  have htab : V.tab = ti := by have := hV.tab; omega
  rw [ht] at g4
  have hg := Chg.of g1 g4
  have hn : V.next = V.old.set ti (tabX (V.old.getD ti default) V.ch) := by rw [hV.next, applyX_ok hV.err hti]
  have hfit : ∀ i, i < (V.tabs.set V.tab V.done).length → ∀ r, r ∈ (V.tabs.set V.tab V.done).getD i [] → fitsF (V.next.getD i default) r = true := by
    intro i hi r hr
    rw [List.length_set] at hi
    rw [hn]
    by_cases e : i = V.tab
    · subst e
      rw [getD_set_self hV.ok.tab] at hr
      rw [htab, getD_set_same htl]
      obtain ⟨q, hq, rfl⟩ := List.getElem_of_mem hr
      have hc := hV.conv q hq
      have hd : V.done.length ≤ V.rows.length := hV.ok.done
      have hmem : V.rows.getD q [] ∈ V.rows := mem_getD (α := Rw) (Nat.lt_of_lt_of_le hq hd)
      have hfr := hV.fit V.tab hV.ok.tab _ hmem
      rw [htab] at hc hfr
      rw [convX_ok hV.err hti htl hfr, if_pos rfl] at hc
      have hx := rowR_ok hc
      have := (hg.row hfr hx).1
      have e2 : V.done.getD q [] = V.done[q] := by simp [List.getD_eq_getElem?_getD, hq]
      rwa [e2] at this
    · rw [getD_set_neL e] at hr
      rw [getD_set_ne (by rw [htab] at e; exact e)]
      exact hV.fit i hi r hr
  have hlen : (V.tabs.set V.tab V.done).length = V.next.length := by rw [hn, List.length_set, List.length_set, hV.ok.olen]
  have hv : ValidP V.next := by rw [hn]; exact ValidP.set g2 htl hg
  have hB : OkB V.next := by rw [hn]; exact OkB.set hS g2 htl hg
  refine ⟨by rw [hn]; exact OkS.set hV.ok.old hS g2 htl hg, hB, (validF_iff _).2 hv, fitT_all hlen (fun i hi => badRows_no (hfit i hi)), by rw [List.length_set]; exact hV.ok.len, fun r hr => ?_, fun r hr x hx => ?_⟩
  · rcases mem_setL hr with h | rfl
    · exact hV.ok.rows r h
    · exact Nat.le_trans hV.ok.done (hV.ok.rows _ (mem_getD (α := List Rw) hV.ok.tab))
  · obtain ⟨i, hi, rfl⟩ := List.getElem_of_mem hr
    have e2 : (V.tabs.set V.tab V.done).getD i [] = (V.tabs.set V.tab V.done)[i] := by simp only [List.getD_eq_getElem?_getD, List.getElem?_eq_getElem hi]; rfl
    have hf := hfit i hi x (by rw [e2]; exact hx)
    rw [(fits_iff.1 hf).1]
    exact hB.attrs _ (mem_getD (α := Tb) (by omega))
theorem startE_fin {S' : List Tb} {d : Ch} {out : List (List Rw)} (h1 : validF S' = true) (h2 : fitT S' out = true) : startE S' d out = (applyX S' d).2 := by
  unfold startE
  rw [h1, h2]
  rfl
end Go.Pv
namespace Go.Pv
open Go.RowKit Go.Proofs

set_option maxHeartbeats 4000000 in
/-- cleanselaw43.MigrateValid. -/
theorem f13 (S : List Tb) (c d : Ch) (tabs : List (List Rw)) (ops : List Opn) (hw : WideM S c tabs ops) (hdw : d.name.size ≤ maxLen) : AF Tryz.prog 13 [.d (.agg [eTs S]), .d (eC c), .d (eC d), .d (eTt tabs), .d (eOs ops)] [] (fun o p => o = .ret (.d (.lit (.bool true))) ∧ p = []) := by
  refine AF.intro hT Tryz.func13 rfl (by kernel_rfl) (Nat.le_of_ble_eq_true rfl) ?_
  repeat (first | refine wA0 rfl rfl rfl rfl ?_ | refine AL.nil ?_ | refine AW.seq ?_ | refine AW.region ?_ | refine bA rfl rfl rfl rfl rfl rfl ?_)
  refine AL.call0 rfl rfl rfl (f34) rfl rfl rfl ?_
  repeat (first | refine wA0 rfl rfl rfl rfl ?_ | refine AL.nil ?_ | refine AW.seq ?_ | refine AW.region ?_)
  refine AL.call0 rfl rfl rfl (f35 S tabs ops hw.wt hw.wr hw.wo) rfl rfl rfl ?_
  repeat (first | refine wA0 rfl rfl rfl rfl ?_ | refine AL.nil ?_)
  refine AW.cond rfl (fun h0 => ?_) (fun h0 => ?_)
  · repeat' (first | refine wA0 rfl rfl rfl rfl ?_ | refine AL.nil ?_ | refine AW.seq ?_ | refine AW.region ?_ | (refine AW.ret ?_; refine ⟨[], _, _, rfl, rfl, ⟨?_, rfl⟩, rfl⟩))
    rfl
  · obtain ⟨hS, ⟨h6, hr⟩, h20, ho⟩ := smallM_ok (small_of h0)
    have big : (1000000 : Nat) ≤ maxLen := by decide
    have hSS := hS.okS hw.wS
    have hcc : OkC c := ⟨hw.wc⟩
    have hr1 : ∀ r, r ∈ tabs → r.length ≤ 100000 := fun r h => by have := (hr r h).1; omega
    have hr2 : ∀ r, r ∈ tabs → ∀ x, x ∈ r → x.length ≤ 1000000 := fun r h x hx => by have := (hr r h).2 x hx; omega
    repeat (first | refine wA0 rfl rfl rfl rfl ?_ | refine AW.seq ?_ | refine AW.region ?_ | refine AW.skip ?_)
    by_cases he : startE S c tabs = 0
    · have hi := startM_inv hSS hcc h6 hr he
      have h36 := f36 S c tabs hSS hcc hS.okB (by omega) hr1 hr2 he
      obtain ⟨m, hm⟩ : ∃ m, m = startM S c tabs := ⟨_, rfl⟩
      rw [← hm] at h36 hi
      have e1 : m.tabs = tabs := by rw [hm]; rfl
      have e2 : m.old = S := by rw [hm]; rfl
      clear hm
      subst e1 e2
      obtain ⟨hU, hb, hUr⟩ := playM_inv ops hi (fun r h => (hr r h).1) (by omega) ho
      have h47 := f47 m ops hi.ok h20 (fun r h => (hr r h).1) (fun o h => by have := ho o h; omega)
      generalize playM m ops = U at hU hb hUr h47
      have h38 := f38 U 1000 hU.ok
      have hV := goM_inv _ hU (stepN_le U 1000 hU.ok)
      have hfull := full_step hU.ok (Nat.le_trans (hUr _ (mem_getD (α := List Rw) hU.ok.tab)) (by omega))
      have hs := goM_same (stepN U 1000) U
      generalize goM (stepN U 1000) U = V at h38 hV hfull hs
      have hfin := fin_ok (V := V) (by rw [hs.old, hb.old]; exact hS) hV
      refine AL.effN _ (VE.call [] [.loc 200,.loc 201,.loc 202,.loc 203,.loc 204,.loc 205] rfl rfl rfl rfl rfl (h36) (fun _ _ h => h) rfl) rfl rfl rfl rfl rfl ?_
      repeat (first | refine wA0 rfl rfl rfl rfl ?_ | refine AL.nil ?_ | refine AW.seq ?_ | refine AW.region ?_)
      refine AW.condF rfl rfl ?_
      repeat (first | refine wA0 rfl rfl rfl rfl ?_ | refine AW.seq ?_ | refine AW.region ?_ | refine AW.skip ?_)
      refine AL.effN _ (VE.call [.loc 200,.loc 201,.loc 202,.loc 203,.loc 204,.loc 205] [.loc 206,.loc 207] rfl rfl rfl rfl rfl (h47) (fun _ _ h => h) rfl) rfl rfl rfl rfl rfl ?_
      repeat (first | refine wA0 rfl rfl rfl rfl ?_ | refine AL.nil ?_ | refine AW.seq ?_ | refine AW.region ?_)
      refine AL.effN _ (VE.call [.loc 200,.loc 201,.loc 206,.loc 203,.loc 204,.loc 205] [.loc 208] rfl rfl rfl rfl rfl (h38) (fun _ _ h => h) rfl) rfl rfl rfl rfl rfl ?_
      repeat (first | refine wA0 rfl rfl rfl rfl ?_ | refine AL.nil ?_ | refine AW.seq ?_ | refine AW.region ?_)
      by_cases hf : V.failed = true
      · refine AL.effN _ (VE.call [.loc 200,.loc 201,.loc 208,.loc 203,.loc 204,.loc 205] [] rfl rfl rfl rfl rfl (f42f V hf) (fun _ _ h => h) rfl) rfl rfl rfl rfl rfl ?_
        repeat (first | refine wA0 rfl rfl rfl rfl ?_ | refine AL.nil ?_ | refine AW.seq ?_ | refine AW.region ?_ | refine sA rfl rfl rfl rfl rfl rfl rfl rfl rfl ?_ | refine bA rfl rfl rfl rfl rfl rfl ?_)
        refine AW.condT rfl rfl ?_
        repeat' (first | refine wA0 rfl rfl rfl rfl ?_ | refine AL.nil ?_ | refine AW.seq ?_ | refine AW.region ?_ | (refine AW.ret ?_; refine ⟨[], _, _, rfl, rfl, ⟨?_, rfl⟩, rfl⟩))
        rfl
      · have hl : V.left = 0 := hfull.resolve_left hf
        refine AL.effN _ (VE.call [.loc 200,.loc 201,.loc 208,.loc 203,.loc 204,.loc 205] [] rfl rfl rfl rfl rfl (f42 V hV.ok (by simpa using hf) hl) (fun _ _ h => h) rfl) rfl rfl rfl rfl rfl ?_
        have h17 := f17X V.next d hfin.okS ⟨hdw⟩ hfin.okB
        have hse := startE_fin (d := d) hfin.valid hfin.fit
        repeat (first | refine wA0 rfl rfl rfl rfl ?_ | refine AL.nil ?_ | refine AW.seq ?_ | refine AW.region ?_ | refine sA rfl rfl rfl rfl rfl rfl rfl rfl rfl ?_ | refine bA rfl rfl rfl rfl rfl rfl ?_)
        refine AW.condF rfl rfl ?_
        repeat (first | refine wA0 rfl rfl rfl rfl ?_ | refine AW.seq ?_ | refine AW.region ?_ | refine AW.skip ?_)
        refine AL.weak (Weak.keep [7,11,14,15,54,55] [.loc 7,.loc 14] rfl rfl) ?_
        skip
        refine AL.call0 rfl rfl rfl (h17) rfl rfl rfl ?_
        repeat (first | refine wA0 rfl rfl rfl rfl ?_ | refine AL.nil ?_ | refine AW.seq ?_ | refine AW.region ?_ | refine sA rfl rfl rfl rfl rfl rfl rfl rfl rfl ?_ | refine bA rfl rfl rfl rfl rfl rfl ?_)
        by_cases he2 : startE V.next d (V.tabs.set V.tab V.done) = 0
        · refine AL.effN _ (VE.call [] [.loc 300,.loc 301,.loc 302,.loc 303,.loc 304,.loc 305] rfl rfl rfl rfl rfl (f36 V.next d (V.tabs.set V.tab V.done) hfin.okS ⟨hdw⟩ hfin.okB hfin.len hfin.rows hfin.row he2) (fun _ _ h => h) rfl) rfl rfl rfl rfl rfl ?_
          repeat (first | refine wA0 rfl rfl rfl rfl ?_ | refine wA1 rfl rfl rfl rfl rfl ?_ | refine AL.nil ?_ | refine AW.seq ?_ | refine AW.region ?_)
          refine kA1 rfl rfl rfl rfl (fun hγ => f23 V.next hfin.okS) rfl rfl rfl ?_
          repeat' (first | refine wA0 rfl rfl rfl rfl ?_ | refine wA1 rfl rfl rfl rfl rfl ?_ | refine AL.nil ?_ | (refine AW.ret ?_; refine ⟨[], _, _, rfl, rfl, ⟨?_, rfl⟩, rfl⟩))
          rw [hfin.valid, ← hse, he2]
          rfl
        · refine AL.call0 rfl rfl rfl (f36e V.next d (V.tabs.set V.tab V.done) hfin.okS ⟨hdw⟩ hfin.okB hfin.len hfin.rows hfin.row he2) rfl rfl rfl ?_
          repeat (first | refine wA0 rfl rfl rfl rfl ?_ | refine wA1 rfl rfl rfl rfl rfl ?_ | refine AL.nil ?_ | refine AW.seq ?_ | refine AW.region ?_)
          refine kA1 rfl rfl rfl rfl (fun hγ => f23 V.next hfin.okS) rfl rfl rfl ?_
          repeat' (first | refine wA0 rfl rfl rfl rfl ?_ | refine wA1 rfl rfl rfl rfl rfl ?_ | refine AL.nil ?_ | (refine AW.ret ?_; refine ⟨[], _, _, rfl, rfl, ⟨?_, rfl⟩, rfl⟩))
          refine congrArg (fun b => AOut.ret (.d (.lit (.bool b)))) ?_
          rw [hfin.valid, ← hse]
          simp
    · refine AL.call0 rfl rfl rfl (f36e S c tabs hSS hcc hS.okB (by omega) hr1 hr2 he) rfl rfl rfl ?_
      repeat (first | refine wA0 rfl rfl rfl rfl ?_ | refine AL.nil ?_ | refine AW.seq ?_ | refine AW.region ?_)
      refine AW.condT rfl (by simpa using he) ?_
      repeat' (first | refine wA0 rfl rfl rfl rfl ?_ | refine AL.nil ?_ | refine AW.seq ?_ | refine AW.region ?_ | (refine AW.ret ?_; refine ⟨[], _, _, rfl, rfl, ⟨?_, rfl⟩, rfl⟩))
      rfl
end Go.Pv
