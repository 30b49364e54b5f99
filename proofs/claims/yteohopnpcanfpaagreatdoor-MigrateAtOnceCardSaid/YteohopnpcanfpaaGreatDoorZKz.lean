/- Part of the proofs over this seat: V33 V34 V35. -/
import Derived.Test.YteohopnpcanfpaaGreatDoorZKy
import Derived.Test.YteohopnpcanfpaaGreatDoorZKf
set_option maxRecDepth 100000
namespace Go.Pv
open Go.RowKit Go.Proofs

/-! ### Tables of rows -/
abbrev Rw := List Vl
def eRs (l : List Rw) : D := .sl 1 l.length (fun i => eVs (l.getD i []))
def eTt (l : List (List Rw)) : D := .sl 1 l.length (fun i => eRs (l.getD i []))
def FR (l : List Rw) (q : Nat) : List D := [eVs (l.getD q [])]
def doneO (l : List Rw) : Obj := .arr true 29 1 l.length (FR l) none
def nestO (l : List (List Rw)) : Obj := .nest 79 l.length 29 1 (fun i => (l.getD i []).length) (fun i => FR (l.getD i [])) none
/-- slices.Clone, of rows. -/
theorem f84 (l : List Rw) (hl : l.length ≤ 100000) : AF Tryz.prog 84 [.d (eRs l)] [] (fun o p => o = .ret (.sl (.par 0) l.length) ∧ p = [doneO l]) := by
  have big : (100000 : Nat) ≤ maxLen := by decide
  refine AF.intro hT Tryz.func84 rfl (by kernel_rfl) (Nat.le_of_ble_eq_true rfl) ?_
  repeat (first | refine wA0 rfl rfl rfl rfl ?_ | refine AL.nil ?_ | refine AW.seq ?_ | refine AW.region ?_)
  refine AL.isnil hT rfl rfl rfl rfl rfl rfl (fun b h0 => ?_)
  refine AL.nil ?_
  refine AW.cond rfl (fun hc => ?_) (fun hc => ?_)
  · have h0' : l.length = 0 := h0 hc
    obtain rfl : l = [] := List.length_eq_zero_iff.1 h0'
    repeat (first | refine wA0 rfl rfl rfl rfl ?_ | refine AL.nil ?_ | refine AW.seq ?_ | refine AW.region ?_)
    refine AW.weak (Weak.trans (Weak.seed 2 100 29 1 (FR []) rfl rfl) (Weak.fixN 100 true rfl rfl)) ?_
    refine AW.ret ?_
    exact ⟨[.loc 100], _, _, rfl, rfl, ⟨rfl, rfl⟩, rfl⟩
  · repeat (first | refine AW.seq ?_ | refine AW.region ?_ | refine AW.skip ?_)
    refine AL.effN _ (VE.bslice hT (d := 5) (fun _ => []) rfl rfl rfl rfl rfl rfl rfl (fun i hi => absurd hi (by omega))) rfl rfl rfl rfl rfl ?_
    refine wA0 rfl rfl rfl rfl ?_
    refine AL.effN _ (VE.append hT (d := 7) (FR l) [.loc 5] rfl rfl rfl rfl rfl trivial rfl rfl rfl rfl ⟨rfl, by show 0 + l.length ≤ _; omega, ?_⟩ (fun i hi => absurd hi (by omega)) (fun i _ => by rw [Nat.zero_add]; rfl)) rfl rfl rfl rfl rfl ?_
    · show (0 + l.length) * 24 ≤ _
      omega
    refine wA0 rfl rfl rfl rfl ?_
    refine AL.nil ?_
    refine AW.weak (Weak.fixN 7 true rfl rfl) ?_
    refine AW.ret ?_
    refine ⟨[.loc 7], _, _, rfl, rfl, ⟨?_, ?_⟩, rfl⟩
    · show AOut.ret (.sl (.par 0) (0 + l.length)) = _
      rw [Nat.zero_add]
    · show [Obj.arr true 29 1 (0 + l.length) _ none] = _
      rw [Nat.zero_add]
      rfl
/-- The first i tables are laid. -/
def nestI (l : List (List Rw)) (i : Nat) : Obj := .nest 79 l.length 29 1 (fun q => if q < i then (l.getD q []).length else 0) (fun i => FR (l.getD i [])) none
theorem nestI_all (l : List (List Rw)) : nestI l l.length = nestO l := by
  have : (fun q => if q < l.length then (l.getD q []).length else 0) = (fun q => (l.getD q []).length) := by
    funext q
    by_cases h : q < l.length
    · rw [if_pos h]
    · rw [if_neg h, List.getD_eq_getElem?_getD, List.getElem?_eq_none (by omega)]
      rfl
  unfold nestI nestO
  rw [this]
/-- migrate.clone. -/
theorem f78 (l : List (List Rw)) (hl : l.length ≤ 1000) (hr : ∀ r, r ∈ l → r.length ≤ 100000) : AF Tryz.prog 78 [.d (eTt l)] [] (fun o p => o = .ret (.sl (.par 0) l.length) ∧ p = [nestO l]) := by
  have big : (100000 : Nat) ≤ maxLen := by decide
  refine AF.intro hT Tryz.func78 rfl (by kernel_rfl) (Nat.le_of_ble_eq_true rfl) ?_
  repeat (first | refine wA0 rfl rfl rfl rfl ?_ | refine AL.nil ?_ | refine AW.seq ?_ | refine AW.region ?_)
  refine AL.effN _ (VE.makeSl hT (d := 8) (n := l.length) rfl rfl rfl rfl rfl rfl rfl ⟨by omega, by show 24 * l.length ≤ _; omega⟩) rfl rfl rfl rfl rfl ?_
  repeat (first | refine wA0 rfl rfl rfl rfl ?_ | refine AL.nil ?_ | refine AW.seq ?_ | refine AW.region ?_ | refine AW.block ?_)
  refine AW.weak (Weak.fixN 8 true rfl rfl) ?_
  refine AW.weak (Weak.toNest (.loc 8) 29 1 (fun i => FR (l.getD i [])) rfl rfl rfl rfl (fun q _ => rfl) rfl) ?_
  refine AW.weak (Weak.keep [3,9,10,11] [.loc 8] rfl rfl) ?_
  refine AW.loop (I := fun n st => ∃ i : Nat, i + n = l.length ∧ st = ⟨23, [(3, .sl (.loc 8) l.length), (9, .d (eTt l)), (10, .d (eI l.length)), (11, .d (eI i))], [(.loc 8, nestI l i)]⟩) l.length ⟨0, by omega, ?_⟩ ?_
  · simp only [nestI, Nat.not_lt_zero, if_false]
    rfl
  rintro n _ ⟨i, hin, rfl⟩
  repeat (first | refine wA0 rfl rfl rfl rfl ?_ | refine AL.nil ?_ | refine AW.seq ?_ | refine AW.region ?_)
  refine AW.cond rfl (fun hlt => ?_) (fun hlt => ?_)
  · have hlt' : i < l.length := by
      have : ((i : Int) < (l.length : Int)) := by simpa using hlt
      omega
    repeat (first | refine wA0 rfl rfl rfl rfl ?_ | refine AL.nil ?_ | refine AW.seq ?_ | refine AW.region ?_ | refine AW.skip ?_ | refine AW.block ?_)
    refine AL.effN _ (VE.call [] [.loc 19] rfl rfl rfl rfl rfl (f84 (l.getD i []) (hr _ (mem_getD (α := List Rw) hlt'))) (fun _ _ h => h) rfl) rfl rfl rfl rfl rfl ?_
    refine AL.weak (Weak.holeN (.loc 8) i rfl rfl rfl) ?_
    refine wA0 rfl rfl rfl rfl ?_
    refine AL.effS _ (VE.storeN hT rfl rfl rfl rfl rfl rfl rfl rfl hlt') rfl rfl rfl ?_
    refine AL.nil ?_
    refine AW.weak (Weak.closeN (.loc 8) 19 (fun q => if q < i + 1 then (l.getD q []).length else 0) (fun i => FR (l.getD i [])) rfl rfl rfl rfl rfl rfl rfl hlt' (if_pos (by omega)) (fun q _ => rfl) (fun j _ hj => ?_) (fun j _ _ q _ => rfl) rfl rfl) ?_
    · by_cases h1 : j < i
      · simp only [h1, if_true]; rw [if_pos (by omega)]
      · simp only [h1, if_false]; rw [if_neg (by omega)]
    repeat (first | refine wA0 rfl rfl rfl rfl ?_ | refine AL.nil ?_ | refine AW.region ?_)
    refine ⟨n - 1, _, by omega, Weak.keep [3,9,10,11] [.loc 8] rfl rfl, i + 1, by omega, ?_⟩
    rw [i64s (by omega)]
    rfl
  · obtain rfl : i = l.length := by
      have : ¬ ((i : Int) < (l.length : Int)) := by simpa using hlt
      omega
    refine AW.exit ?_
    repeat (first | refine wA0 rfl rfl rfl rfl ?_ | refine AL.nil ?_ | refine AW.seq ?_ | refine AW.region ?_)
    refine AW.ret ?_
    refine ⟨[.loc 8], _, _, rfl, rfl, ⟨rfl, ?_⟩, rfl⟩
    rw [← nestI_all l]
    rfl
end Go.Pv
namespace Go.Pv
open Go.RowKit Go.Proofs

/-! ### A migration under way -/
theorem i64s' {x : Int} (h0 : -9223372036854775808 ≤ x) (h1 : x ≤ 9223372036854775807) : IntKind.i64.wrap x = x := by
  rw [IntWalk.i64_in _ (by omega)]
structure Mg where
  old : List Tb
  ch : Ch
  next : List Tb
  tab : Nat
  tabs : List (List Rw)
  done : List Rw
  failed : Bool
/-- Its cells; p1: the tables, p2: the rows that are done, s c b: what the closure holds. -/
def mgC (m : Mg) (p1 p2 s c b : Loc) : List PV := [.d (eTs m.old), .d (eTs m.next), .d (eI m.tab), .sl p1 m.tabs.length, .sl p2 m.done.length, .fn (.func 79) [] [.ptr s 0, .ptr c 0, .ptr b 0], .d (.lit (.bool m.failed)), .d (.lit (.bool false))]
/-- All that it owns. -/
def mgP (m : Mg) : List Obj := [.cells (mgC m (.par 1) (.par 2) (.par 3) (.par 4) (.par 5)), nestO m.tabs, doneO m.done, .cells [.d (eTs m.old)], .cells ((eC m.ch).cells.map .d), .cells [.ptr (.par 0) 0]]
/-- With table i in hand. -/
def mgF (m : Mg) (i : Nat) : List Obj := [.cells (mgC m (.par 1) (.par 2) (.par 3) (.par 4) (.par 5)), .nest 79 m.tabs.length 29 1 (fun i => (m.tabs.getD i []).length) (fun i => FR (m.tabs.getD i [])) (some (i, [.sl (.par 6) (m.tabs.getD i []).length])), doneO m.done, .cells [.d (eTs m.old)],
  .cells ((eC m.ch).cells.map .d), .cells [.ptr (.par 0) 0], doneO (m.tabs.getD i [])]
/-- A closed one: nobody looks at the rest. -/
def mgX : Obj := .cells [.any, .any, .any, .any, .any, .any, .any, .d (.lit (.bool true))]
structure Mg.OK (m : Mg) : Prop where
  old : OkS m.old
  ch : OkC m.ch
  tab : m.tab < m.tabs.length
  len : m.tabs.length ≤ 1000
  rows : ∀ r, r ∈ m.tabs → r.length ≤ 100000
  row : ∀ r, r ∈ m.tabs → ∀ x, x ∈ r → x.length ≤ 1000000
  done : m.done.length ≤ (m.tabs.getD m.tab []).length
  olen : m.old.length = m.tabs.length
/-- (*Migration).usable. -/
theorem f81 (m : Mg) : AF Tryz.prog 81 [.ptr (.par 0) 0] (mgP m) (fun o p => o = .ret (.d (eI 0)) ∧ p = mgP m) := by
  refine AF.intro hT Tryz.func81 rfl (by kernel_rfl) (Nat.le_of_ble_eq_true rfl) ?_
  repeat' (first | refine wA0 rfl rfl rfl rfl ?_ | refine AL.nil ?_ | refine AW.seq ?_ | refine AW.region ?_ | refine AW.skip ?_ | refine AW.block ?_ | refine AW.condF rfl (by assumption) ?_ | (refine AW.cond rfl ?_ ?_ <;> intro hc) | (refine AW.ret ?_; refine ⟨[], _, _, rfl, rfl, ⟨?_, rfl⟩, rfl⟩))
  all_goals first | cases hc; done | rfl
theorem f81n : AF Tryz.prog 81 [.d (.lit (.pointer none))] [] (fun o p => o = .ret (.d (eI 1)) ∧ p = []) := by
  refine AF.intro hT Tryz.func81 rfl (by kernel_rfl) (Nat.le_of_ble_eq_true rfl) ?_
  repeat' (first | refine wA0 rfl rfl rfl rfl ?_ | refine AL.nil ?_ | refine AW.seq ?_ | refine AW.region ?_ | refine AW.block ?_ | (refine AW.cond rfl ?_ ?_ <;> intro hc) | (refine AW.ret ?_; refine ⟨[], _, _, rfl, rfl, ⟨?_, rfl⟩, rfl⟩))
  all_goals first | cases hc; done | rfl
theorem f81x : AF Tryz.prog 81 [.ptr (.par 0) 0] [mgX] (fun o p => o = .ret (.d (eI 22)) ∧ p = [mgX]) := by
  refine AF.intro hT Tryz.func81 rfl (by kernel_rfl) (Nat.le_of_ble_eq_true rfl) ?_
  repeat' (first | refine wA0 rfl rfl rfl rfl ?_ | refine AL.nil ?_ | refine AW.seq ?_ | refine AW.region ?_ | refine AW.skip ?_ | refine AW.block ?_ | (refine AW.cond rfl ?_ ?_ <;> intro hc) | (refine AW.ret ?_; refine ⟨[], _, _, rfl, rfl, ⟨?_, rfl⟩, rfl⟩))
  all_goals first | cases hc; done | rfl
/-- (*Migration).left. -/
theorem f82 (m : Mg) (hm : m.OK) : AF Tryz.prog 82 [.ptr (.par 0) 0] (mgP m) (fun o p => o = .ret (.d (eI (((m.tabs.getD m.tab []).length - m.done.length : Nat) : Int))) ∧ p = mgP m) := by
  have ht := hm.tab
  have hd := hm.done
  have hr := hm.rows _ (mem_getD (α := List Rw) ht)
  refine AF.intro hT Tryz.func82 rfl (by kernel_rfl) (Nat.le_of_ble_eq_true rfl) ?_
  repeat (first | refine wA0 rfl rfl rfl rfl ?_ | refine AL.nil ?_ | refine AW.seq ?_ | refine AW.region ?_)
  refine AW.weak (Weak.openN (.par 1) m.tab 100 rfl rfl ht rfl rfl) ?_
  repeat (first | refine dW ?_ | refine wG0 rfl rfl rfl rfl ?_ | refine nG ?_)
  refine AW.weak (Weak.closeN (.par 1) 100 (fun i => (m.tabs.getD i []).length) (fun i => FR (m.tabs.getD i [])) rfl rfl rfl rfl rfl rfl rfl ht rfl (fun q _ => rfl) (fun j _ _ => rfl) (fun j _ _ q _ => rfl) rfl rfl) ?_
  refine AW.ret ?_
  refine ⟨[], _, _, rfl, rfl, ⟨?_, rfl⟩, rfl⟩
  refine congrArg (fun b => AOut.ret (.d (.lit (.int .i64 b)))) ?_
  have hr' : (m.tabs.getD m.tab []).length ≤ 100000 := hr
  rw [i64s' (by omega) (by omega)]
  omega
/-- The closure: schema.Convert. -/
theorem f79 (m : Mg) (hm : m.OK) (i : Nat) (row : Rw) (hr : row.length ≤ 1000000) : AF Tryz.prog 79 [.d (eVs row), .ptr (.par 3) 0, .ptr (.par 4) 0, .ptr (.par 5) 0] (mgF m i) (fun o p => o = .ret (.tup [.d (eVs (convX m.old m.ch m.tab row).1), .d (eI (convX m.old m.ch m.tab row).2)]) ∧ p = mgF m i) := by
  refine AF.intro hT Tryz.func79 rfl (by kernel_rfl) (Nat.le_of_ble_eq_true rfl) ?_
  repeat (first | refine wA0 rfl rfl rfl rfl ?_ | refine AL.nil ?_ | refine AW.seq ?_ | refine AW.region ?_ | refine dW ?_ | refine wG0 rfl rfl rfl rfl ?_)
  refine DG.call0 rfl rfl rfl (f19X m.old m.ch m.tab row hm.old hm.ch hr) rfl rfl rfl ?_
  repeat (first | refine wG0 rfl rfl rfl rfl ?_ | refine nG ?_)
  refine AW.ret ?_
  refine ⟨[], _, _, rfl, rfl, ⟨?_, rfl⟩, rfl⟩
  rfl
end Go.Pv
namespace Go.Pv
open Go.RowKit Go.Proofs

/-! ### (*Migration).Step -/
def Mg.rows (m : Mg) : List Rw := m.tabs.getD m.tab []
def Mg.left (m : Mg) : Nat := m.rows.length - m.done.length
def stepM (m : Mg) : Mg :=
  if (convX m.old m.ch m.tab (m.rows.getD m.done.length [])).2 = 0 then { m with done := m.done ++ [(convX m.old m.ch m.tab (m.rows.getD m.done.length [])).1] } else { m with failed := true }
def goM : Nat → Mg → Mg
  | 0, m => m
  | k + 1, m => if m.failed then m else goM k (stepM m)
/-- How many rounds Step makes. -/
def stepN (m : Mg) (n : Int) : Nat := (min (max n 0) (m.left : Int)).toNat
/-- After Step: the rows that are done have got a new place. -/
def mgS (m : Mg) (k : Nat) : List Obj := [.cells (mgC m (.par 1) (.par 6) (.par 3) (.par 4) (.par 5)), nestO m.tabs, .gone true (some k), .cells [.d (eTs m.old)], .cells ((eC m.ch).cells.map .d), .cells [.ptr (.par 0) 0], doneO m.done]
/-- In Step's loop. -/
def mgL (m : Mg) (k : Nat) : List (Loc × Obj) := [(.par 0, .cells (mgC m (.par 1) (.loc 100) (.par 3) (.par 4) (.par 5))), (.par 1, nestO m.tabs), (.par 2, .gone true (some k)), (.par 3, .cells [.d (eTs m.old)]), (.par 4, .cells ((eC m.ch).cells.map .d)), (.par 5, .cells [.ptr (.par 0) 0]), (.loc 100, doneO m.done)]
theorem FR_left {L M : List Rw} {q : Nat} (h : q < L.length) : FR (L ++ M) q = FR L q := by
  simp [FR, List.getD_eq_getElem?_getD, List.getElem?_append_left h]
theorem FR_last {L : List Rw} {x : Rw} {q : Nat} (h : q < 1) : FR (L ++ [x]) (L.length + q) = [eVs x] := by
  obtain rfl : q = 0 := by omega
  simp [FR]
/-- What Step keeps. -/
structure Mg.Same (m m' : Mg) : Prop where
  old : m'.old = m.old
  ch : m'.ch = m.ch
  next : m'.next = m.next
  tab : m'.tab = m.tab
  tabs : m'.tabs = m.tabs
theorem Mg.Same.trans {a b c : Mg} (h1 : a.Same b) (h2 : b.Same c) : a.Same c := ⟨h2.old.trans h1.old, h2.ch.trans h1.ch, h2.next.trans h1.next, h2.tab.trans h1.tab, h2.tabs.trans h1.tabs⟩
theorem Mg.Same.rows {m m' : Mg} (h : m.Same m') : m'.rows = m.rows := by simp [Mg.rows, h.tabs, h.tab]
theorem stepM_same (m : Mg) : m.Same (stepM m) := by unfold stepM; split <;> exact ⟨rfl, rfl, rfl, rfl, rfl⟩
theorem stepM_ok {m : Mg} (h : m.OK) (hl : m.done.length < m.rows.length) : (stepM m).OK := by
  unfold stepM
  split
  · exact ⟨h.old, h.ch, h.tab, h.len, h.rows, h.row, by show (m.done ++ [_]).length ≤ m.rows.length; simp; omega, h.olen⟩
  · exact ⟨h.old, h.ch, h.tab, h.len, h.rows, h.row, h.done, h.olen⟩
theorem goM_same : ∀ (k : Nat) (m : Mg), m.Same (goM k m)
  | 0, m => ⟨rfl, rfl, rfl, rfl, rfl⟩
  | k + 1, m => by
    unfold goM
    split
    · exact ⟨rfl, rfl, rfl, rfl, rfl⟩
    · have h1 := stepM_same m
      have h2 := goM_same k (stepM m)
      exact ⟨h2.old.trans h1.old, h2.ch.trans h1.ch, h2.next.trans h1.next, h2.tab.trans h1.tab, h2.tabs.trans h1.tabs⟩
theorem stepM_len (m : Mg) : (stepM m).done.length ≤ m.done.length + 1 := by
  unfold stepM
  split <;> simp
theorem goM_failed : ∀ (k : Nat) (m : Mg), m.failed = true → goM k m = m
  | 0, _, _ => rfl
  | k + 1, m, h => by rw [goM, if_pos h]
theorem goM_ok : ∀ (k : Nat) (m : Mg), m.OK → m.done.length + k ≤ m.rows.length → (goM k m).OK
  | 0, m, h, _ => h
  | k + 1, m, h, hk => by
    unfold goM
    split
    · exact h
    · have := stepM_len m
      exact goM_ok k _ (stepM_ok h (by omega)) (by rw [(stepM_same m).rows]; omega)
theorem f38x (n : Int) : AF Tryz.prog 38 [.ptr (.par 0) 0, .d (eI n)] [mgX] (fun o p => o = .ret (.tup [.d (eI 0), .d (eI 22)]) ∧ p = [mgX]) := by
  refine AF.intro hT Tryz.func38 rfl (by kernel_rfl) (Nat.le_of_ble_eq_true rfl) ?_
  repeat (first | refine wA0 rfl rfl rfl rfl ?_ | refine AL.nil ?_ | refine AW.seq ?_ | refine AW.region ?_)
  refine AW.scope ?_
  repeat (first | refine wA0 rfl rfl rfl rfl ?_ | refine AW.seq ?_ | refine AW.region ?_)
  refine AL.effN _ (VE.call [.par 0] [] rfl rfl rfl rfl rfl (f81x) (fun _ _ h => h) rfl) rfl rfl rfl rfl rfl ?_
  repeat' (first | refine wA0 rfl rfl rfl rfl ?_ | refine AL.nil ?_ | refine AW.seq ?_ | refine AW.region ?_ | refine AW.skip ?_ | (refine AW.cond rfl ?_ ?_ <;> intro hc) | (refine AW.ret ?_; refine ⟨[], _, _, rfl, rfl, ⟨?_, rfl⟩, rfl⟩))
  all_goals first | cases hc; done | rfl
theorem f38n (n : Int) : AF Tryz.prog 38 [.d (.lit (.pointer none)), .d (eI n)] [] (fun o p => o = .ret (.tup [.d (eI 0), .d (eI 1)]) ∧ p = []) := by
  refine AF.intro hT Tryz.func38 rfl (by kernel_rfl) (Nat.le_of_ble_eq_true rfl) ?_
  repeat (first | refine wA0 rfl rfl rfl rfl ?_ | refine AL.nil ?_ | refine AW.seq ?_ | refine AW.region ?_)
  refine AW.scope ?_
  repeat (first | refine wA0 rfl rfl rfl rfl ?_ | refine AW.seq ?_ | refine AW.region ?_)
  refine AL.call0 rfl rfl rfl (f81n) rfl rfl rfl ?_
  repeat' (first | refine wA0 rfl rfl rfl rfl ?_ | refine AL.nil ?_ | refine AW.seq ?_ | refine AW.region ?_ | refine AW.skip ?_ | (refine AW.cond rfl ?_ ?_ <;> intro hc) | (refine AW.ret ?_; refine ⟨[], _, _, rfl, rfl, ⟨?_, rfl⟩, rfl⟩))
  all_goals first | cases hc; done | rfl
set_option maxHeartbeats 4000000 in
theorem f38 (m : Mg) (n : Int) (hm : m.OK) : AF Tryz.prog 38 [.ptr (.par 0) 0, .d (eI n)] (mgP m) (fun o p => o = .ret (.tup [.d (eI (goM (stepN m n) m).left), .d (eI (if (goM (stepN m n) m).failed then 15 else 0))]) ∧ p = mgS (goM (stepN m n) m) m.done.length) := by
  have hN : stepN m n ≤ m.left := by unfold stepN; omega
  have hleft : m.left ≤ 100000 := by
    have := hm.rows _ (mem_getD (α := List Rw) hm.tab)
    unfold Mg.left Mg.rows
    have h' : (m.tabs.getD m.tab []).length ≤ 100000 := this
    omega
  refine AF.intro hT Tryz.func38 rfl (by kernel_rfl) (Nat.le_of_ble_eq_true rfl) ?_
  repeat (first | refine wA0 rfl rfl rfl rfl ?_ | refine AL.nil ?_ | refine AW.seq ?_ | refine AW.region ?_)
  refine AW.scope ?_
  repeat (first | refine wA0 rfl rfl rfl rfl ?_ | refine AW.seq ?_ | refine AW.region ?_)
  refine AL.effN _ (VE.call [.par 0,.par 1,.par 2,.par 3,.par 4,.par 5] [] rfl rfl rfl rfl rfl (f81 m) (fun _ _ h => h) rfl) rfl rfl rfl rfl rfl ?_
  repeat (first | refine wA0 rfl rfl rfl rfl ?_ | refine AL.nil ?_ | refine AW.seq ?_ | refine AW.region ?_)
  refine AW.condF rfl rfl ?_
  repeat (first | refine AW.seq ?_ | refine AW.skip ?_)
  refine AW.label ?_
  refine AW.via ⟨74, [(0, .ptr (.par 0) 0)], mgL (goM (stepN m n) m) m.done.length⟩ ?_ ?_
  · repeat (first | refine wA0 rfl rfl rfl rfl ?_ | refine AW.seq ?_ | refine AW.region ?_)
    refine AL.effN _ (VE.call [.par 0,.par 1,.par 2,.par 3,.par 4,.par 5] [] rfl rfl rfl rfl rfl (f82 m hm) (fun _ _ h => h) rfl) rfl rfl rfl rfl rfl ?_
    repeat (first | refine wA0 rfl rfl rfl rfl ?_ | refine AL.nil ?_ | refine AW.block ?_)
    refine AW.weak (Weak.keep [0,18,19] [.par 0,.par 1,.par 2,.par 3,.par 4,.par 5] rfl rfl) ?_
    refine AW.weak (Weak.takeBox (.par 0) (.par 2) 4 100 rfl rfl rfl rfl rfl rfl rfl) ?_
    refine AW.weak (Weak.fixN 100 true rfl rfl) ?_
    refine AW.weak (Weak.keep [0,18,19] [.par 0,.par 1,.par 2,.par 3,.par 4,.par 5,.loc 100] rfl rfl) ?_
    refine AW.loop (I := fun r st => ∃ (j : Nat) (u : Mg), j + r = stepN m n ∧ m.Same u ∧ u.OK ∧ goM r u = goM (stepN m n) m ∧ u.done.length + r ≤ u.rows.length ∧ st = ⟨74, [(0, .ptr (.par 0) 0), (18, .d (eI (stepN m n))), (19, .d (eI j))], mgL u m.done.length⟩) (stepN m n)
      ⟨0, m, by omega, ⟨rfl, rfl, rfl, rfl, rfl⟩, hm, rfl, by unfold Mg.left at hN; have := hm.done; unfold Mg.rows at hN ⊢; omega, ?_⟩ ?_
    · refine congrArg (fun x => St.mk 74 [(0, .ptr (.par 0) 0), (18, .d (eI x)), (19, .d (eI 0))] (mgL m m.done.length)) ?_
      unfold stepN Mg.left Mg.rows
      simp only [cond_true, cond_false]
      by_cases hn : 0 > n
      · simp only [hn, if_true]
        split <;> omega
      · simp only [hn, if_false]
        split <;> omega
    rintro r _ ⟨j, u, hjr, hsu, hu, hgo, hlen, rfl⟩
    repeat (first | refine wA0 rfl rfl rfl rfl ?_ | refine AL.nil ?_ | refine AW.seq ?_ | refine AW.region ?_)
    refine AW.cond rfl (fun hlt => ?_) (fun hlt => ?_)
    · have hlt' : (j : Int) < (stepN m n : Int) := by simpa using hlt
      obtain ⟨r, rfl⟩ : ∃ r', r = r' + 1 := ⟨r - 1, by omega⟩
      have hul : u.done.length < u.rows.length := by omega
      have hul' : u.done.length < (u.tabs.getD u.tab []).length := hul
      have hur : ((u.tabs.getD u.tab []).getD u.done.length []).length ≤ 1000000 := hu.row _ (mem_getD (α := List Rw) hu.tab) _ (mem_getD (α := Rw) hul')
      repeat (first | refine wA0 rfl rfl rfl rfl ?_ | refine AL.nil ?_ | refine AW.seq ?_ | refine AW.region ?_ | refine AW.skip ?_ | refine AW.block ?_)
      refine AW.cond rfl (fun hf => ?_) (fun hf => ?_)
      · refine AW.exit ?_
        show Weak _ _
        have : goM (stepN m n) m = u := by rw [← hgo, goM, if_pos hf]
        rw [this]
        exact Weak.keep [0] [.par 0,.par 1,.par 2,.par 3,.par 4,.par 5,.loc 100] rfl rfl
      · repeat (first | refine AW.seq ?_ | refine AW.skip ?_)
        refine AW.weak (Weak.openN (.par 1) u.tab 101 rfl rfl hu.tab rfl rfl) ?_
        refine AW.weak (Weak.fixN 101 true rfl rfl) ?_
        repeat (first | refine dW ?_ | refine wG0 rfl rfl rfl rfl ?_)
        refine DG.effN _ (VE.call [.par 0,.par 1,.loc 100,.par 3,.par 4,.par 5,.loc 101] [] rfl rfl rfl rfl rfl (f79 u hu u.tab _ hur) (fun _ _ h => h) rfl) rfl rfl rfl rfl ?_
        repeat (first | refine wA0 rfl rfl rfl rfl ?_ | refine AL.nil ?_ | refine AW.seq ?_ | refine AW.region ?_ | refine wG0 rfl rfl rfl rfl ?_ | refine nG ?_)
        refine AW.weak (Weak.closeN (.par 1) 101 (fun i => (u.tabs.getD i []).length) (fun i => FR (u.tabs.getD i [])) rfl rfl rfl rfl rfl rfl rfl hu.tab rfl (fun q _ => rfl) (fun j _ _ => rfl) (fun j _ _ q _ => rfl) rfl rfl) ?_
        skip
        have hgu : goM r (stepM u) = goM (stepN m n) m := by rw [← hgo, goM, if_neg (by simp [hf])]
        refine AW.cond rfl (fun he => ?_) (fun he => ?_)
        · have he' : (convX u.old u.ch u.tab (u.rows.getD u.done.length [])).2 ≠ 0 := by
            intro e
            have : ((convX u.old u.ch u.tab (u.rows.getD u.done.length [])).2 != 0) = true := he
            rw [e] at this
            cases this
          have hs : stepM u = { u with failed := true } := by rw [stepM, if_neg he']
          repeat (first | refine wA0 rfl rfl rfl rfl ?_ | refine AL.nil ?_ | refine AW.seq ?_ | refine AW.region ?_ | refine sA rfl rfl rfl rfl rfl rfl rfl rfl rfl ?_)
          refine AW.exit ?_
          show Weak _ _
          rw [← hgu, hs, goM_failed r _ rfl]
          exact Weak.keep [0] [.par 0,.par 1,.par 2,.par 3,.par 4,.par 5,.loc 100] rfl rfl
        · have he' : (convX u.old u.ch u.tab (u.rows.getD u.done.length [])).2 = 0 := by
            have : ((convX u.old u.ch u.tab (u.rows.getD u.done.length [])).2 != 0) = false := he
            simpa using this
          have hs : stepM u = { u with done := u.done ++ [(convX u.old u.ch u.tab (u.rows.getD u.done.length [])).1] } := by rw [stepM, if_pos he']
          have hrl : u.rows.length ≤ 100000 := hu.rows _ (mem_getD (α := List Rw) hu.tab)
          have big : (1000000 : Nat) ≤ maxLen := by decide
          repeat (first | refine wA0 rfl rfl rfl rfl ?_ | refine AW.region ?_ | refine AW.skip ?_)
          refine AL.effN _ (VE.bslice hT (d := 61) (fun _ => [eVs (convX u.old u.ch u.tab (u.rows.getD u.done.length [])).1]) rfl rfl rfl rfl rfl rfl rfl (fun i hi => by obtain rfl : i = 0 := (by omega); rfl)) rfl rfl rfl rfl rfl ?_
          refine AL.effN _ (VE.append hT (d := 62) (FR (u.done ++ [(convX u.old u.ch u.tab (u.rows.getD u.done.length [])).1])) [.loc 100, .loc 61] rfl rfl rfl rfl rfl rfl rfl rfl rfl rfl ⟨rfl, by omega, ?_⟩ (fun i hi => FR_left hi) (fun i hi => FR_last hi)) rfl rfl rfl rfl rfl ?_
          · show (u.done.length + 1) * 24 ≤ _
            omega
          repeat (first | refine wA0 rfl rfl rfl rfl ?_ | refine AL.nil ?_ | refine AW.region ?_ | refine sA rfl rfl rfl rfl rfl rfl rfl rfl rfl ?_)
          refine ⟨r, _, by omega, Weak.trans (Weak.keep [0,18,19] [.par 0,.par 1,.par 2,.par 3,.par 4,.par 5,.loc 62] rfl rfl) (Weak.trans (Weak.mv 62 100 rfl rfl) (Weak.fixN 100 true rfl rfl)), j + 1, stepM u, by omega, hsu.trans (stepM_same u), stepM_ok hu hul, hgu, ?_, ?_⟩
          · have := stepM_len u
            rw [(stepM_same u).rows]
            omega
          · rw [i64s (by omega)]
            simp only [mgL, mgC, doneO, hs, List.length_append, List.length_cons, List.length_nil, Nat.zero_add]
            rfl
    · obtain rfl : r = 0 := by
        have : ¬ ((j : Int) < (stepN m n : Int)) := by simpa using hlt
        omega
      refine AW.exit ?_
      show Weak _ _
      rw [← hgo]
      exact Weak.keep [0] [.par 0,.par 1,.par 2,.par 3,.par 4,.par 5,.loc 100] rfl rfl
  · have hM : (goM (stepN m n) m).OK := goM_ok _ _ hm (by unfold Mg.left at hN; have := hm.done; unfold Mg.rows at hN ⊢; omega)
    generalize goM (stepN m n) m = M at hM ⊢
    repeat (first | refine wA0 rfl rfl rfl rfl ?_ | refine AL.nil ?_ | refine AW.seq ?_ | refine AW.region ?_)
    refine AW.cond rfl (fun hf => ?_) (fun hf => ?_)
    · repeat (first | refine wA0 rfl rfl rfl rfl ?_ | refine AW.seq ?_ | refine AW.region ?_)
      refine AL.effN _ (VE.call [.par 0,.par 1,.loc 100,.par 3,.par 4,.par 5] [] rfl rfl rfl rfl rfl (f82 M hM) (fun _ _ h => h) rfl) rfl rfl rfl rfl rfl ?_
      repeat (first | refine wA0 rfl rfl rfl rfl ?_ | refine AL.nil ?_)
      refine AW.ret ?_
      refine ⟨[.loc 100], _, _, rfl, rfl, ⟨?_, rfl⟩, rfl⟩
      rw [if_pos hf]
      rfl
    · repeat (first | refine wA0 rfl rfl rfl rfl ?_ | refine AW.seq ?_ | refine AW.region ?_ | refine AW.skip ?_)
      refine AL.effN _ (VE.call [.par 0,.par 1,.loc 100,.par 3,.par 4,.par 5] [] rfl rfl rfl rfl rfl (f82 M hM) (fun _ _ h => h) rfl) rfl rfl rfl rfl rfl ?_
      repeat (first | refine wA0 rfl rfl rfl rfl ?_ | refine AL.nil ?_)
      refine AW.ret ?_
      refine ⟨[.loc 100], _, _, rfl, rfl, ⟨?_, rfl⟩, rfl⟩
      rw [if_neg (by simp [hf])]
      rfl
end Go.Pv
