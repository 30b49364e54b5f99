/- Part of the proofs over this seat: V47. -/
import Derived.Test.YteohopnpcanfpaaGreatDoorZLf
set_option maxRecDepth 100000
namespace Go.Pv
open Go.RowKit Go.Proofs

theorem full_step {m : Mg} (h : m.OK) (hr : m.rows.length ≤ 1000) : (goM (stepN m 1000) m).failed = true ∨ (goM (stepN m 1000) m).left = 0 := by
  have hd : m.done.length ≤ m.rows.length := h.done
  have e : stepN m 1000 = m.left := by unfold stepN Mg.left; omega
  rw [e]
  rcases goM_full m.left m (by unfold Mg.left; omega) with h1 | h1
  · exact .inl h1
  · exact .inr (by unfold Mg.left at h1 ⊢; omega)
theorem AW.toThen {P : Program} {x y : Code} {st : St} {Q : AEx → St → Prop} (target : St) (h1 : AW P x (toQ target) st) (h2 : AW P y Q target) : AW P x (thenQ (AW P y Q) Q) st :=
  AW.mono h1 (fun e s h => by
    cases e with
    | normal => exact AW.weak h h2
    | _ => exact h.elim)
set_option maxHeartbeats 4000000 in
/-- cleanselaw43.MigrateClosed. -/
theorem f14 (S : List Tb) (c : Ch) (tabs : List (List Rw)) (ops : List Opn) (fin : Bool) (hw : WideM S c tabs ops) : AF Tryz.prog 14 [.d (.agg [eTs S]), .d (eC c), .d (eTt tabs), .d (eOs ops), .d (.lit (.bool fin))] [] (fun o p => o = .ret (.d (.lit (.bool true))) ∧ p = []) := by
  refine AF.intro hT Tryz.func14 rfl (by kernel_rfl) (Nat.le_of_ble_eq_true rfl) ?_
  repeat (first | refine wA0 rfl rfl rfl rfl ?_ | refine AL.nil ?_ | refine AW.seq ?_ | refine AW.region ?_ | refine bA rfl rfl rfl rfl rfl rfl ?_)
  refine AL.call0 rfl rfl rfl (f34) rfl rfl rfl ?_
  repeat (first | refine wA0 rfl rfl rfl rfl ?_ | refine AL.nil ?_ | refine AW.seq ?_ | refine AW.region ?_)
  refine AL.call0 rfl rfl rfl (f35 S tabs ops hw.wt hw.wr hw.wo) rfl rfl rfl ?_
  repeat (first | refine wA0 rfl rfl rfl rfl ?_ | refine AL.nil ?_)
  refine AW.cond rfl (fun h0 => ?_) (fun h0 => ?_)
  · repeat' (first | refine wA0 rfl rfl rfl rfl ?_ | refine AL.nil ?_ | refine AW.seq ?_ | refine AW.region ?_ | (refine AW.ret ?_; refine ⟨[], _, _, rfl, rfl, ⟨?_, rfl⟩, rfl⟩))
    rfl
  · obtain ⟨hS, ⟨h6, hr⟩, h20, ho⟩ := smallM_ok (small_of h0)
    have big : (1000000 : Nat) ≤ maxLen := by decide
    have hSS := hS.okS hw.wS
    have hcc : OkC c := ⟨hw.wc⟩
    have hr1 : ∀ r, r ∈ tabs → r.length ≤ 100000 := fun r h => by have := (hr r h).1; omega
    have hr2 : ∀ r, r ∈ tabs → ∀ x, x ∈ r → x.length ≤ 1000000 := fun r h x hx => by have := (hr r h).2 x hx; omega
    repeat (first | refine wA0 rfl rfl rfl rfl ?_ | refine AW.seq ?_ | refine AW.region ?_ | refine AW.skip ?_)
    by_cases he : startE S c tabs = 0
    · have hi := startM_inv hSS hcc h6 hr he
      have h36 := f36 S c tabs hSS hcc hS.okB (by omega) hr1 hr2 he
      obtain ⟨m, hm⟩ : ∃ m, m = startM S c tabs := ⟨_, rfl⟩
      rw [← hm] at h36 hi
      obtain rfl : m.tabs = tabs := by rw [hm]; rfl
      clear hm
      obtain ⟨hU, hb, hUr⟩ := playM_inv ops hi (fun r h => (hr r h).1) (by omega) ho
      have h47 := f47 m ops hi.ok h20 (fun r h => (hr r h).1) (fun o h => by have := ho o h; omega)
      generalize playM m ops = U at hU hb hUr h47
      have h38 := f38 U 1000 hU.ok
      have hV := goM_inv _ hU (stepN_le U 1000 hU.ok)
      have hfull := full_step hU.ok (Nat.le_trans (hUr _ (mem_getD (α := List Rw) hU.ok.tab)) (by omega))
      generalize goM (stepN U 1000) U = V at h38 hV hfull
      refine AL.effN _ (VE.call [] [.loc 200,.loc 201,.loc 202,.loc 203,.loc 204,.loc 205] rfl rfl rfl rfl rfl (h36) (fun _ _ h => h) rfl) rfl rfl rfl rfl rfl ?_
      repeat (first | refine wA0 rfl rfl rfl rfl ?_ | refine AL.nil ?_ | refine AW.seq ?_ | refine AW.region ?_)
      refine AW.toThen ⟨126, [(11, .d (.lit (.bool true))), (12, .ptr (.loc 200) 0), (14, .d (eI 22))], [(.loc 200, mgX)]⟩ ?_ ?_
      · refine AW.condF rfl rfl ?_
        repeat (first | refine wA0 rfl rfl rfl rfl ?_ | refine AW.seq ?_ | refine AW.region ?_)
        refine AL.effN _ (VE.call [.loc 200,.loc 201,.loc 202,.loc 203,.loc 204,.loc 205] [.loc 206,.loc 207] rfl rfl rfl rfl rfl (h47) (fun _ _ h => h) rfl) rfl rfl rfl rfl rfl ?_
        repeat (first | refine wA0 rfl rfl rfl rfl ?_ | refine AL.nil ?_ | refine AW.seq ?_ | refine AW.region ?_)
        refine AL.effN _ (VE.call [.loc 200,.loc 201,.loc 206,.loc 203,.loc 204,.loc 205] [.loc 208] rfl rfl rfl rfl rfl (h38) (fun _ _ h => h) rfl) rfl rfl rfl rfl rfl ?_
        repeat (first | refine wA0 rfl rfl rfl rfl ?_ | refine AL.nil ?_ | refine AW.seq ?_ | refine AW.region ?_)
        by_cases hf : V.failed = true
        · refine AL.effN _ (VE.call [.loc 200,.loc 201,.loc 208,.loc 203,.loc 204,.loc 205] [] rfl rfl rfl rfl rfl (f42f V hf) (fun _ _ h => h) rfl) rfl rfl rfl rfl rfl ?_
          repeat (first | refine wA0 rfl rfl rfl rfl ?_ | refine wA1 rfl rfl rfl rfl rfl ?_ | refine AL.nil ?_ | refine AW.seq ?_ | refine AW.region ?_ | refine sA rfl rfl rfl rfl rfl rfl rfl rfl rfl ?_ | refine bA rfl rfl rfl rfl rfl rfl ?_)
          refine AW.condT rfl rfl ?_
          repeat (first | refine wA0 rfl rfl rfl rfl ?_ | refine AW.seq ?_ | refine AW.region ?_)
          refine AL.effN _ (VE.call [.loc 200,.loc 201,.loc 208,.loc 203,.loc 204,.loc 205] [] rfl rfl rfl rfl rfl (f45 V hV.ok) (fun _ _ h => h) rfl) rfl rfl rfl rfl rfl ?_
          repeat (first | refine wA0 rfl rfl rfl rfl ?_ | refine wA1 rfl rfl rfl rfl rfl ?_ | refine AL.nil ?_ | refine AW.seq ?_ | refine AW.region ?_)
          refine AW.condF rfl rfl ?_
          refine AW.skip ?_
          exact Weak.keep [11,12,14] [.loc 200] rfl rfl
        · have hl : V.left = 0 := hfull.resolve_left hf
          refine AL.effN _ (VE.call [.loc 200,.loc 201,.loc 208,.loc 203,.loc 204,.loc 205] [] rfl rfl rfl rfl rfl (f42 V hV.ok (by simpa using hf) hl) (fun _ _ h => h) rfl) rfl rfl rfl rfl rfl ?_
          repeat (first | refine wA0 rfl rfl rfl rfl ?_ | refine wA1 rfl rfl rfl rfl rfl ?_ | refine AL.nil ?_ | refine AW.seq ?_ | refine AW.region ?_ | refine sA rfl rfl rfl rfl rfl rfl rfl rfl rfl ?_ | refine bA rfl rfl rfl rfl rfl rfl ?_)
          cases fin with
          | true =>
            refine AW.condF rfl rfl ?_
            refine AW.skip ?_
            exact Weak.keep [11,12,14] [.loc 200] rfl rfl
          | false =>
            refine AW.condT rfl rfl ?_
            repeat (first | refine wA0 rfl rfl rfl rfl ?_ | refine AW.seq ?_ | refine AW.region ?_)
            refine AL.effN _ (VE.call [.loc 200] [] rfl rfl rfl rfl rfl (f45x) (fun _ _ h => h) rfl) rfl rfl rfl rfl rfl ?_
            repeat (first | refine wA0 rfl rfl rfl rfl ?_ | refine wA1 rfl rfl rfl rfl rfl ?_ | refine AL.nil ?_ | refine AW.seq ?_ | refine AW.region ?_)
            refine AW.condF rfl rfl ?_
            refine AW.skip ?_
            exact Weak.keep [11,12,14] [.loc 200] rfl rfl
      · repeat (first | refine wA0 rfl rfl rfl rfl ?_ | refine AW.seq ?_ | refine AW.region ?_)
        refine AL.effN _ (VE.call [.loc 200] [] rfl rfl rfl rfl rfl ((f38x 1)) (fun _ _ h => h) rfl) rfl rfl rfl rfl rfl ?_
        repeat (first | refine wA0 rfl rfl rfl rfl ?_ | refine AL.nil ?_ | refine AW.seq ?_ | refine AW.region ?_)
        refine AL.effN _ (VE.call [.loc 200] [] rfl rfl rfl rfl rfl (f40x 0 (.lit (.slice none 0 0))) (fun _ _ h => h) rfl) rfl rfl rfl rfl rfl ?_
        repeat (first | refine wA0 rfl rfl rfl rfl ?_ | refine AL.nil ?_ | refine AW.seq ?_ | refine AW.region ?_)
        refine AL.effN _ (VE.call [.loc 200] [] rfl rfl rfl rfl rfl (f42x) (fun _ _ h => h) rfl) rfl rfl rfl rfl rfl ?_
        repeat (first | refine wA0 rfl rfl rfl rfl ?_ | refine AL.nil ?_ | refine AW.seq ?_ | refine AW.region ?_ | refine sA rfl rfl rfl rfl rfl rfl rfl rfl rfl ?_ | refine bA rfl rfl rfl rfl rfl rfl ?_)
        refine AL.effN _ (VE.call [.loc 200] [] rfl rfl rfl rfl rfl (f45x) (fun _ _ h => h) rfl) rfl rfl rfl rfl rfl ?_
        repeat' (first | refine wA0 rfl rfl rfl rfl ?_ | refine wA1 rfl rfl rfl rfl rfl ?_ | refine AL.nil ?_ | refine AW.seq ?_ | refine AW.region ?_ | (refine AW.ret ?_; refine ⟨[], _, _, rfl, rfl, ⟨?_, rfl⟩, rfl⟩))
        rfl
    · refine AL.call0 rfl rfl rfl (f36e S c tabs hSS hcc hS.okB (by omega) hr1 hr2 he) rfl rfl rfl ?_
      repeat (first | refine wA0 rfl rfl rfl rfl ?_ | refine AL.nil ?_ | refine AW.seq ?_ | refine AW.region ?_)
      refine AW.condT rfl (by simpa using he) ?_
      repeat (first | refine wA0 rfl rfl rfl rfl ?_ | refine AL.nil ?_ | refine AW.seq ?_ | refine AW.region ?_)
      refine AL.call0 rfl rfl rfl (f38n 1) rfl rfl rfl ?_
      repeat (first | refine wA0 rfl rfl rfl rfl ?_ | refine AL.nil ?_ | refine AW.seq ?_ | refine AW.region ?_)
      refine AL.call0 rfl rfl rfl (f40n 0 (.lit (.slice none 0 0))) rfl rfl rfl ?_
      repeat (first | refine wA0 rfl rfl rfl rfl ?_ | refine AL.nil ?_ | refine AW.seq ?_ | refine AW.region ?_)
      refine AL.call0 rfl rfl rfl (f42n) rfl rfl rfl ?_
      repeat (first | refine wA0 rfl rfl rfl rfl ?_ | refine AL.nil ?_ | refine AW.seq ?_ | refine AW.region ?_ | refine sA rfl rfl rfl rfl rfl rfl rfl rfl rfl ?_ | refine bA rfl rfl rfl rfl rfl rfl ?_)
      refine AL.call0 rfl rfl rfl (f45n) rfl rfl rfl ?_
      repeat' (first | refine wA0 rfl rfl rfl rfl ?_ | refine wA1 rfl rfl rfl rfl rfl ?_ | refine AL.nil ?_ | refine AW.seq ?_ | refine AW.region ?_ | (refine AW.ret ?_; refine ⟨[], _, _, rfl, rfl, ⟨?_, rfl⟩, rfl⟩))
      rfl
end Go.Pv
