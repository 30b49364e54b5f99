/- Part of the proofs over this seat: V46. -/
import Derived.Test.YteohopnpcanfpaaGreatDoorZLe
set_option maxRecDepth 100000
namespace Go.Pv
open Go.RowKit Go.Proofs

/-- A migration in a caller's hands. -/
def mgA (m : Mg) : List (Loc × Obj) := [(.loc 200, .cells (mgC m (.loc 201) (.loc 202) (.loc 203) (.loc 204) (.loc 205))), (.loc 201, nestO m.tabs), (.loc 202, doneO m.done), (.loc 203, .cells [.d (eTs m.old)]), (.loc 204, .cells ((eC m.ch).cells.map .d)), (.loc 205, .cells [.ptr (.loc 200) 0])]
theorem steps_cond {L l X : Int} {F f : Bool} {most : Nat} (hX : X = most) (h0 : 0 ≤ L) (h1 : L ≤ l) (h2 : l ≤ L + most) (h3 : F = false → L + most = l) (h4 : f = true → F = true) (hl : l ≤ 100000000) (hm : most ≤ 100000000) :
    (bif bif bif bif bif (if F = true then (15 : Int) else 0) != 0 then (if F = true then (15 : Int) else 0) != 15 else false then true else decide (L > l) then true else decide (L < IntKind.i64.wrap (l - X)) then true else bif f then (if F = true then (15 : Int) else 0) == 0 else false then true
      else bif (if F = true then (15 : Int) else 0) == 0 then L != IntKind.i64.wrap (l - X) else false) = false := by
  rw [hX, i64s' (by omega) (by omega)]
  have a1 : decide (L > l) = false := decide_eq_false (by omega)
  have a2 : decide (L < l - most) = false := decide_eq_false (by omega)
  rw [a1, a2]
  cases F with
  | true => cases f <;> rfl
  | false =>
    have := h3 rfl
    have a3 : (L != l - (most : Int)) = false := by
      have : L = l - (most : Int) := by omega
      rw [← this]
      simp
    rw [a3]
    cases f with
    | true => cases h4 rfl
    | false => rfl
set_option maxHeartbeats 4000000 in
/-- cleanselaw43.MigrateSteps. -/
theorem f12 (S : List Tb) (c : Ch) (tabs : List (List Rw)) (ops : List Opn) (hw : WideM S c tabs ops) : AF Tryz.prog 12 [.d (.agg [eTs S]), .d (eC c), .d (eTt tabs), .d (eOs ops)] [] (fun o p => o = .ret (.d (.lit (.bool true))) ∧ p = []) := by
  refine AF.intro hT Tryz.func12 rfl (by kernel_rfl) (Nat.le_of_ble_eq_true rfl) ?_
  repeat (first | refine wA0 rfl rfl rfl rfl ?_ | refine AL.nil ?_ | refine AW.seq ?_ | refine AW.region ?_ | refine bA rfl rfl rfl rfl rfl rfl ?_)
  refine AL.call0 rfl rfl rfl (f34) rfl rfl rfl ?_
  repeat (first | refine wA0 rfl rfl rfl rfl ?_ | refine AL.nil ?_ | refine AW.seq ?_ | refine AW.region ?_)
  refine AL.call0 rfl rfl rfl (f35 S tabs ops hw.wt hw.wr hw.wo) rfl rfl rfl ?_
  repeat (first | refine wA0 rfl rfl rfl rfl ?_ | refine AL.nil ?_)
  refine AW.cond rfl (fun h0 => ?_) (fun h0 => ?_)
  · repeat' (first | refine wA0 rfl rfl rfl rfl ?_ | refine AL.nil ?_ | refine AW.seq ?_ | refine AW.region ?_ | (refine AW.ret ?_; refine ⟨[], _, _, rfl, rfl, ⟨?_, rfl⟩, rfl⟩))
    rfl
  · obtain ⟨hS, ⟨h6, hr⟩, h20, ho⟩ := smallM_ok (small_of h0)
    have big : (1000000 : Nat) ≤ maxLen := by decide
    have hSS := hS.okS hw.wS
    have hcc : OkC c := ⟨hw.wc⟩
    have hr1 : ∀ r, r ∈ tabs → r.length ≤ 100000 := fun r h => by have := (hr r h).1; omega
    have hr2 : ∀ r, r ∈ tabs → ∀ x, x ∈ r → x.length ≤ 1000000 := fun r h x hx => by have := (hr r h).2 x hx; omega
    repeat (first | refine wA0 rfl rfl rfl rfl ?_ | refine AW.seq ?_ | refine AW.region ?_ | refine AW.skip ?_)
    by_cases he : startE S c tabs = 0
    · have hi := startM_inv hSS hcc h6 hr he
      have h36 := f36 S c tabs hSS hcc hS.okB (by omega) hr1 hr2 he
      obtain ⟨m, hm⟩ : ∃ m, m = startM S c tabs := ⟨_, rfl⟩
      rw [← hm] at h36 hi
      have hd0 : m.done = [] := by rw [hm]; rfl
      have hf0 : m.failed = false := by rw [hm]; rfl
      have e1 : m.tabs = tabs := by rw [hm]; rfl
      have e2 : m.old = S := by rw [hm]; rfl
      have e3 : m.ch = c := by rw [hm]; rfl
      clear hm
      subst e1 e2 e3
      have h25 := f25 m.old m.ch.table hSS.len
      rw [hi.tab] at h25
      have hti := hi.ok.tab
      have hneg : ((m.tab : Int) < 0) = False := by simp
      refine AL.effN _ (VE.call [] [.loc 200,.loc 201,.loc 202,.loc 203,.loc 204,.loc 205] rfl rfl rfl rfl rfl (h36) (fun _ _ h => h) rfl) rfl rfl rfl rfl rfl ?_
      repeat (first | refine wA0 rfl rfl rfl rfl ?_ | refine AL.nil ?_ | refine AW.seq ?_ | refine AW.region ?_)
      refine AW.condF rfl rfl ?_
      repeat (first | refine wA0 rfl rfl rfl rfl ?_ | refine AW.seq ?_ | refine AW.region ?_ | refine AW.skip ?_)
      refine AL.call0 rfl rfl rfl (h25) rfl rfl rfl ?_
      repeat (first | refine wA0 rfl rfl rfl rfl ?_ | refine wA1 rfl rfl rfl rfl rfl ?_ | refine AL.nil ?_ | refine AW.seq ?_ | refine AW.region ?_)
      refine AW.condF rfl ?_ ?_
      · have h1 : decide ((m.tab : Int) < 0) = false := decide_eq_false (by omega)
        have h2 : decide ((m.tab : Int) ≥ (m.tabs.length : Int)) = false := decide_eq_false (by omega)
        rw [h1, h2]
        rfl
      repeat (first | refine wA0 rfl rfl rfl rfl ?_ | refine AL.nil ?_ | refine AW.seq ?_ | refine AW.region ?_ | refine AW.skip ?_ | refine AW.block ?_)
      refine AW.weak (Weak.keep [3,9,10,13,14,15] [.loc 200,.loc 201,.loc 202,.loc 203,.loc 204,.loc 205] rfl rfl) ?_
      refine AW.loop (I := fun n st => ∃ (i : Nat) (u : Mg), i + n = ops.length ∧ u.OK ∧ st = ⟨117, [(3, .d (eOs ops)), (9, .d (.lit (.bool true))), (10, .ptr (.loc 200) 0), (13, .d (eI u.left)), (14, .d (.lit (.bool u.failed))), (15, .d (eI i))], mgA u⟩) ops.length
        ⟨0, m, by omega, hi.ok, ?_⟩ ?_
      · have : m.left = (m.tabs.getD m.tab []).length := by unfold Mg.left Mg.rows; rw [hd0]; rfl
        refine Eq.trans (b := ⟨117, [(3, .d (eOs ops)), (9, .d (.lit (.bool true))), (10, .ptr (.loc 200) 0), (13, .d (eI ((m.tabs.getD m.tab []).length : Nat))), (14, .d (.lit (.bool false))), (15, .d (eI (0 : Nat)))], mgA m⟩) rfl ?_
        rw [this, hf0]
      rintro n _ ⟨i, u, hin, hu, rfl⟩
      repeat (first | refine wA0 rfl rfl rfl rfl ?_ | refine AL.nil ?_ | refine AW.seq ?_ | refine AW.region ?_)
      refine AW.cond rfl (fun hlt => ?_) (fun hlt => ?_)
      · have hlt' : i < ops.length := by simpa using hlt
        have h38 := f38 u (ops.getD i default).n hu
        have hN := stepN_le u (ops.getD i default).n hu
        have hM := stepN_ok (n := (ops.getD i default).n) hu
        obtain ⟨s1, s2, s3, s4⟩ := step_left (stepN u (ops.getD i default).n) hN
        have hmost : (stepN u (ops.getD i default).n : Int) = max 0 (min (ops.getD i default).n (u.left : Int)) := by unfold stepN; omega
        generalize goM (stepN u (ops.getD i default).n) u = M at h38 hM s1 s2 s3 s4
        have hul : (u.left : Int) ≤ 100000000 := by
          have : u.rows.length ≤ 100000 := hu.rows _ (mem_getD (α := List Rw) hu.tab)
          unfold Mg.left
          omega
        have hml : stepN u (ops.getD i default).n ≤ 100000000 := by omega
        generalize stepN u (ops.getD i default).n = most at hmost s1 s2 s3 s4 hml
        repeat (first | refine wA0 rfl rfl rfl rfl ?_ | refine AW.seq ?_ | refine AW.region ?_ | refine AW.skip ?_ | refine AW.block ?_)
        refine AL.effN _ (VE.call [.loc 200,.loc 201,.loc 202,.loc 203,.loc 204,.loc 205] [.loc 206] rfl rfl rfl rfl rfl (h38) (fun _ _ h => h) rfl) rfl rfl rfl rfl rfl ?_
        repeat (first | refine wA0 rfl rfl rfl rfl ?_ | refine wA1 rfl rfl rfl rfl rfl ?_ | refine AL.nil ?_ | refine AW.seq ?_ | refine AW.region ?_)
        refine AW.condF rfl ?_ ?_
        · refine steps_cond (most := most) ?_ (by omega) (by omega) (by omega) (fun h => by have := s3 h; omega) s4 hul hml
          show _ = (most : Int)
          rw [hmost]
          have hnn : (ops.getD (i : Int).toNat default).n = (ops.getD i default).n := rfl
          rw [hnn]
          generalize (ops.getD i default).n = nn
          simp only [cond_true, cond_false]
          by_cases hlt : (u.left : Int) < nn
          · simp only [hlt, if_true]
            split <;> omega
          · simp only [hlt, if_false]
            split <;> omega
        repeat (first | refine wA0 rfl rfl rfl rfl ?_ | refine AL.nil ?_ | refine AW.seq ?_ | refine AW.region ?_ | refine AW.skip ?_)
        refine ⟨n - 1, _, by omega, Weak.trans (Weak.keep [3,9,10,13,14,15] [.loc 200,.loc 201,.loc 206,.loc 203,.loc 204,.loc 205] rfl rfl) (Weak.mv 206 202 rfl rfl), i + 1, M, by omega, hM, ?_⟩
        rw [i64s (by omega)]
        have hfe : ((if M.failed = true then (15 : Int) else 0) == 15) = M.failed := by cases M.failed <;> rfl
        rw [hfe]
        rfl
      · obtain rfl : i = ops.length := by
          have : ¬ ((i : Int) < (ops.length : Int)) := by simpa using hlt
          omega
        repeat' (first | refine wA0 rfl rfl rfl rfl ?_ | refine AL.nil ?_ | refine AW.seq ?_ | refine AW.region ?_ | refine AW.exit ?_ | (refine AW.ret ?_; refine ⟨[], _, _, rfl, rfl, ⟨?_, rfl⟩, rfl⟩))
        rfl
    · refine AL.call0 rfl rfl rfl (f36e S c tabs hSS hcc hS.okB (by omega) hr1 hr2 he) rfl rfl rfl ?_
      repeat (first | refine wA0 rfl rfl rfl rfl ?_ | refine AL.nil ?_ | refine AW.seq ?_ | refine AW.region ?_)
      refine AW.condT rfl (by simpa using he) ?_
      repeat' (first | refine wA0 rfl rfl rfl rfl ?_ | refine AL.nil ?_ | refine AW.seq ?_ | refine AW.region ?_ | (refine AW.ret ?_; refine ⟨[], _, _, rfl, rfl, ⟨?_, rfl⟩, rfl⟩))
      rfl
end Go.Pv
