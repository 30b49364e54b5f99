/- Part of the proofs over this seat: Pv37 Pv38 Pv39 Pv40 Pv41 Pv42 Pv43 Pv44 Pv45. -/
import Derived.Test.YteohopnpcanfpaaGreatDoorZKc
import Derived.Laws.Cover3
import Derived.Below
import Derived.WideLaws
set_option maxRecDepth 100000
namespace Go.Pv
open Go.RowKit

/-! ### States in a form that can be read off -/
def nfObj : Obj → Option Obj
  | .cells cs => match nfL cs with
    | some q => some (.cells q)
    | none => none
  | .arr b e k n F foc => match foc with
    | none => some (.arr b e k n F none)
    | some (i, cs) => match nfL cs with
      | some q => some (.arr b e k n F (some (i, q)))
      | none => none
  | .gone b none => some (.gone b none)
  | .gone b (some n) => some (.gone b (some n))
  | .nest e n e1 k1 N F foc => match foc with
    | none => some (.nest e n e1 k1 N F none)
    | some (i, cs) => match nfL cs with
      | some q => some (.nest e n e1 k1 N F (some (i, q)))
      | none => none
def nfLoc : Loc → Option Loc
  | .par i => some (.par i)
  | .loc i => some (.loc i)
def nfB : List (Loc × Obj) → Option (List (Loc × Obj))
  | [] => some []
  | (l, o) :: r => match nfLoc l, nfObj o, nfB r with
    | some l', some o', some r' => some ((l', o') :: r')
    | _, _, _ => none
def nfE : List (Nat × PV) → Option (List (Nat × PV))
  | [] => some []
  | (i, p) :: r => match nf1 p, nfE r with
    | some q, some r' => some ((i, q) :: r')
    | _, _ => none
theorem nfObj_eq {x y : Obj} (h : nfObj x = some y) : y = x := by
  unfold nfObj at h
  split at h
  · split at h
    · rename_i q hq
      simp only [Option.some.injEq] at h
      rw [← h, nfL_eq hq]
    · cases h
  · split at h
    · simp only [Option.some.injEq] at h; exact h.symm
    · split at h
      · rename_i q hq
        simp only [Option.some.injEq] at h
        rw [← h, nfL_eq hq]
      · cases h
  · simp only [Option.some.injEq] at h; exact h.symm
  · simp only [Option.some.injEq] at h; exact h.symm
  · split at h
    · simp only [Option.some.injEq] at h; exact h.symm
    · split at h
      · rename_i q hq
        simp only [Option.some.injEq] at h
        rw [← h, nfL_eq hq]
      · cases h
theorem nfLoc_eq {x y : Loc} (h : nfLoc x = some y) : y = x := by
  cases x <;> (simp only [nfLoc, Option.some.injEq] at h; exact h.symm)
theorem nfB_eq : ∀ {x y : List (Loc × Obj)}, nfB x = some y → y = x
  | [], y, h => by simp only [nfB, Option.some.injEq] at h; exact h.symm
  | (l, o) :: r, y, h => by
    simp only [nfB] at h
    split at h
    · rename_i a b c ha hb hc
      simp only [Option.some.injEq] at h
      rw [← h, nfLoc_eq ha, nfObj_eq hb, nfB_eq hc]
    · cases h
theorem nfE_eq : ∀ {x y : List (Nat × PV)}, nfE x = some y → y = x
  | [], y, h => by simp only [nfE, Option.some.injEq] at h; exact h.symm
  | (l, o) :: r, y, h => by
    simp only [nfE] at h
    split at h
    · rename_i b c hb hc
      simp only [Option.some.injEq] at h
      rw [← h, nf1_eq hb, nfE_eq hc]
    · cases h

section
variable {P : Program} {l rest : List Oper} {nt : Nat} {o : Oper} {X X' : List (Nat × PV)} {BX BX' : List (Loc × Obj)} {Q : AEx → St → Prop} {p : PV} {d : Nat} {st : St} {c : Code}
/-- What is no longer wanted is forgotten. -/
theorem Weak.keep (e : List Nat) (b : List Loc) (he : nfE (keepEnv X e) = some X') (hb : nfB (keepBoxes BX b) = some BX') : Weak ⟨nt, X, BX⟩ ⟨nt, X', BX'⟩ := by
  rw [nfE_eq he, nfB_eq hb]
  exact Weak.only e b
theorem AW.condT {k : Operand} {x y : Code} {b : Bool} (hc : litOf (opnd st.env k) = some (.bool b)) (hb : b = true) (h : AW P x Q st) : AW P (.cond k x y) Q st :=
  AW.cond hc (fun _ => h) (fun hf => absurd (hb.symm.trans hf) (by simp))
theorem AW.condF {k : Operand} {x y : Code} {b : Bool} (hc : litOf (opnd st.env k) = some (.bool b)) (hb : b = false) (h : AW P y Q st) : AW P (.cond k x y) Q st :=
  AW.cond hc (fun hf => absurd (hb.symm.trans hf) (by simp)) (fun _ => h)
/-- An effect, with a slot. -/
theorem AL.effN (e : Eff) (hv : VE P l nt o X BX e) (hdst : o.dst = some d) (hd : Nat.blt d nt = true) (hn : cleanN e.new X BX = true) (hp : nf1 e.p = some p) (hb : nfB (setB BX e.ws) = some BX')
    (h : AL P l.toArray rest Q ⟨nt, (d, p) :: X, BX'⟩) : AL P l.toArray (o :: rest) Q ⟨nt, X, BX⟩ := by
  refine AL.eff e hv (by rw [hdst]; exact hd) hn ?_
  rw [hdst, ← nf1_eq hp, ← nfB_eq hb]
  exact h
/-- An effect without a slot. -/
theorem AL.effS (e : Eff) (hv : VE P l nt o X BX e) (hdst : o.dst = none) (hn : e.new = []) (hb : nfB (setB BX e.ws) = some BX')
    (h : AL P l.toArray rest Q ⟨nt, X, BX'⟩) : AL P l.toArray (o :: rest) Q ⟨nt, X, BX⟩ := by
  refine AL.eff0 e hv hn (by rw [hdst]; rfl) ?_
  rw [hdst, ← nfB_eq hb]
  exact h
variable {env0 : List (Nat × PV)} {bs0 : List (Loc × Obj)} {es : List Eff}
theorem DG.effN (e : Eff) (hv : VE P l nt o X BX e) (hdst : o.dst = some d) (hd : Nat.blt d nt = true) (hp : nf1 e.p = some p) (hb : nfB (setB BX e.ws) = some BX')
    (h : DG P l Q nt env0 bs0 rest (es ++ [e]) ((d, p) :: X) BX') : DG P l Q nt env0 bs0 (o :: rest) es X BX := by
  refine DG.step e hv (by rw [hdst]; exact hd) ?_
  rw [hdst, ← nf1_eq hp, ← nfB_eq hb]
  exact h
theorem DG.effS (e : Eff) (hv : VE P l nt o X BX e) (hdst : o.dst = none) (hb : nfB (setB BX e.ws) = some BX')
    (h : DG P l Q nt env0 bs0 rest (es ++ [e]) X BX') : DG P l Q nt env0 bs0 (o :: rest) es X BX := by
  refine DG.step e hv (by rw [hdst]; rfl) ?_
  rw [hdst, ← nfB_eq hb]
  exact h
end
end Go.Pv
namespace Go.Pv
open Go.RowKit

/-! ### A slice against nil -/
section
variable {P : Program} {l rest : List Oper} {nt : Nat} {o : Oper} {X : List (Nat × PV)} {BX : List (Loc × Obj)} {Q : AEx → St → Prop} {d : Nat}
theorem AL.isnil {T : Tab} (hT : TabOK P T) {t e : Nat} {x : Operand} {tt : TypeId} {j : TI} {k n : Nat} {f : Nat → D} (hg : o.guard = none) (hop : o.op = .binOp .eql t x (.const (.slice none 0 0)) tt)
    (hel : elemOfT T t = some (e, j)) (hx : opnd X x = .d (.sl k n f)) (hdst : o.dst = some d) (hd : Nat.blt d nt = true)
    (h : ∀ b : Bool, (b = true → n = 0) → AL P l.toArray rest Q ⟨nt, (d, .d (.lit (.bool b))) :: X, BX⟩) : AL P l.toArray (o :: rest) Q ⟨nt, X, BX⟩ := by
  intro g tmps ds w hr
  obtain ⟨hu, _⟩ := elemOfT_spec hT hel
  have hpx := opnd_rep hr ds x
  rw [hx] at hpx
  obtain ⟨a, c, hv, h1, h2, h3⟩ := hpx
  have hrun : (execOp ((⟨tmps, ds⟩ : Act).eval) o).run P w = .ok (.value (.bool a.isNone)) w := by
    have hb : (do eqGuard .eql t x (.const (.slice none 0 0)) (.slice a n c) (.slice none 0 0); binOp .eql t (.slice a n c) (.slice none 0 0) : Sem Value).run P w = .ok (.bool a.isNone) w := by
      simp [eqGuard, binOp, run_equal_slice_nil w t e a n c hu]
    simp only [execOp, hop]
    rw [Sem.run_bind]
    have e1 : (⟨tmps, ds⟩ : Act).eval (.const (.slice none 0 0)) = .slice none 0 0 := rfl
    rw [hv, e1, hb]
    rfl
  simp only [wpList]
  rw [if_pos (guardV_wanted hr (by rw [hg]; rfl))]
  refine .inl ?_
  unfold Oper.wp
  rw [hrun]
  simp only [Oper.upon]
  rw [put_eta]
  have := hr.put o.dst (by rw [hdst]; exact hd) (.d (.lit (.bool a.isNone))) (.bool a.isNone) ⟨rfl, rfl⟩ ds
  rw [hdst] at this ⊢
  refine h a.isNone (fun hb => ?_) g _ ds w this
  cases a with
  | some _ => cases hb
  | none =>
    rcases Nat.eq_zero_or_pos n with h0 | hp
    · exact h0
    · obtain ⟨_, _, e1, _⟩ := h3 hp
      cases e1
/-- A new box. -/
theorem VE.box {T : Tab} (hT : TabOK P T) {e : TypeId} {cs cs' : List PV} (hg : guardV l (keepEnv X (looks l o)) o.guard = some true) (hc : newCells T (keepEnv X (looks l o)) o.op = some (e, cs)) (hn : nfL cs = some cs') (hcs : namesOKL (An [d]) cs' = true) :
    VE P l nt o X BX ⟨.ptr (.loc d) 0, [.loc d], [(.loc d, some (.cells cs'))], [d]⟩ := by
  have hqq := nfL_eq hn
  subst hqq
  intro E B hE hB hnE hnB g tmps ds w hr K Q' hK
  have hr0 := hr.keep hE (BX := BX) (ls := []) (fun m hm => by cases hm)
  have key : ∃ v : Value, (execOp ((⟨tmps, ds⟩ : Act).eval) o).run P w = .ok (.value (.pointer (some ⟨w.heap.size, 0, none⟩))) (w.alloc (.cells v.cells e)) ∧ RepPL g cs' v.cells.toList ∧ ∀ u ∈ v.cells.toList, u.oneCell' = true := by
    unfold newCells at hc
    split at hc
    · rename_i e' x hx
      split at hc
      · rename_i cs2 hcs2
        simp only [Option.some.injEq, Prod.mk.injEq] at hc
        obtain ⟨rfl, rfl⟩ := hc
        obtain ⟨h1, h2⟩ := cellsP_rep hcs2 (opnd_rep hr0 ds x)
        exact ⟨(⟨tmps, ds⟩ : Act).eval x, by simp [execOp, hx, Instr.box, newVar, newRow], h1, h2⟩
      · cases hc
    · rename_i e' hx
      split at hc
      · rename_i i hi
        split at hc
        · rename_i cs2 hcs2
          simp only [Option.some.injEq, Prod.mk.injEq] at hc
          obtain ⟨rfl, rfl⟩ := hc
          obtain ⟨h1, h2⟩ := cellsP_rep hcs2 (constD_rep g i.zero)
          exact ⟨i.zero, by simp [execOp, hx, Instr.alloc, hT.run_zero hi, newVar, newRow], h1, h2⟩
        · cases hc
      · cases hc
    · cases hc
  obtain ⟨v, h1, h2, h3⟩ := key
  rw [if_pos (guardV_wanted hr0 hg)]
  unfold Oper.wp
  rw [h1]
  simp only [Oper.upon]
  have hk := hr.newObj (g' := g.new d w.heap.size none true) (w' := w.alloc (.cells v.cells e)) (o := .cells cs') hnE hnB rfl (fun l hl => by simp [Gh.new, hl]) (fun c hc => by simp [Gh.new, Nat.ne_of_lt hc])
    (fun c hc => heap_alloc_old w _ hc) (by simp) rfl rfl rfl ⟨e, v.cells.toList, by simpa [Gh.new] using heap_alloc_new w (.cells v.cells e), RepPL.agreeA (g := g) (g' := g.new d w.heap.size none true) (A := An [d]) (Prom.le_refl g.π) (fun l hl => by simp [Gh.new, An_one.1 hl]) _ _ hcs h2, h3, by simp [Gh.new], by simp [Gh.new], fun o => by
      simpa [Gh.new] using prom_freshG hr (Nat.le_refl w.heap.size) o⟩
  exact hK _ _ _ (by simp [RepP, Gh.new]) hk.1 hk.2
end
end Go.Pv
namespace Go.Pv
open Go.RowKit

/-! ### Contracts of the library on an array, as contracts here -/
theorem AF.arr1 {P : Program} {f : FuncId} {b : Bool} {e k n N : Nat} {F F' : Nat → List D} {rest : List D} {R : AOut → List Obj → Prop} (he : Enters P f) (hR : R (.ret (.sl (.par 1) N)) [.gone b (some n), .arr false e k N F' none])
    (h : ∀ (g : Gh) (w : World) (u : Value) (cs vs : List Value), (∀ b o v, g.π b o = some v → w.cell? ⟨b, o, none⟩ = some v) → GlobW w → w.ownsRow 0 e k u n cs → (∀ c ∈ cs, c.oneCell' = true) → (∀ i, i < n → RepL g.π (F i) ((cs.drop (i * k)).take k)) →
      RepPL g (rest.map .d) vs → Calls P f (u :: vs).toArray w (fun e0 w' => ∃ v' cs', e0 = .returned v' ∧ w'.ownsRow 0 e k v' N cs' ∧ w.grownBy w' u.ownBlock ∧ (∀ b, v'.ownBlock = some b → u.ownBlock = some b ∨ w.heap.size ≤ b) ∧
        (∀ c ∈ cs', c.oneCell' = true) ∧ ∀ i, i < N → RepL g.π (F' i) ((cs'.drop (i * k)).take k))) : AF P f (.sl (.par 0) n :: rest.map .d) [.arr b e k n F none] R := by
  refine ⟨he, fun g w vs h0 hv hm => ?_⟩
  obtain ⟨v0, vs', rfl, hv0, hvs⟩ := hv
  obtain ⟨u, cs, m1, m2, m3, m4, m5, m6⟩ := hm.box (.par 0) _ rfl
  have := hv0.2 u m1
  subst this
  refine (h g w v0 cs vs' hm.prom hm.glob.1 m2 m3 m4 hvs).mono ?_
  rintro e0 w' ⟨v', cs', rfl, hown, hgr, hblk, h1, hF⟩
  let g' : Gh := { π := g.π, β := fun l => if l = .par 1 then v'.ownBlock.getD 0 else g.β l, ρ := fun l => if l = .par 1 then some (v', N) else g.ρ l, ω := fun b => if v'.ownBlock = some b then .box (.par 1) else g.ω b, fx := fun l => if l = .par 1 then false else g.fx l }
  have hone : v'.oneCell' = true := by
    rcases hown.2 with ⟨rfl, _⟩ | ⟨_, _, _, rfl, _⟩ <;> rfl
  have hfx1 : g.fx (.par 1) = false := h0 1 (by simp)
  refine ⟨.ret (.sl (.par 1) N), [.gone b (some n), .arr false e k N F' none], g', by simp, ⟨hR, ⟨v', rfl, hone, fun u' hu' => ?_⟩, ⟨fun l o hl => ?_, fun b o x hp => ?_, hm.glob.to (fun c hc hn => by
      have hne : v0.ownBlock ≠ some c := fun h => by rw [(m6 c h).2.1] at hn; cases hn
      have hne2 : v'.ownBlock ≠ some c := fun h => by
        rcases hblk c h with h | h
        · exact hne h
        · omega
      exact ⟨hgr.block c hc (fun h => hne h.symm), by simp [g', hne2, hn]⟩)⟩, ⟨Prom.le_refl _, hgr.size, hgr.os, hgr.tape, hgr.output, fun i hi => ?_, fun c hc hn => ?_⟩⟩⟩
  · have e1 : g'.ρ (.par 1) = some (v', N) := by simp [g']
    rw [e1] at hu'
    simp only [Option.some.injEq, Prod.mk.injEq, and_true] at hu'
    exact hu'
  · obtain ⟨j, rfl, hj⟩ := (objAt_parFrom _ 0 l o).1 hl
    match j, hj with
    | 0, hj =>
      simp only [List.getElem?_cons_zero, Option.some.injEq] at hj
      subst hj
      refine ⟨?_, fun m hm => ?_⟩
      · show (if (Loc.par 0 : Loc) = .par 1 then false else g.fx (.par 0)) = b
        rw [if_neg (by simp)]
        exact m5
      · simp only [Option.some.injEq] at hm
        subst hm
        show ∃ a c, (if (Loc.par 0 : Loc) = .par 1 then some (v', N) else g.ρ (.par 0)) = _
        rw [if_neg (by simp), m1]
        rcases m2.2 with ⟨rfl, rfl⟩ | ⟨_, _, _, rfl, _⟩
        · exact ⟨_, _, rfl⟩
        · exact ⟨_, _, rfl⟩
    | 1, hj =>
      simp only [List.getElem?_cons_succ, List.getElem?_cons_zero, Option.some.injEq] at hj
      subst hj
      refine ⟨v', cs', by simp [g'], hown, h1, hF, by simp [g'], fun c hc => ⟨by simp [g', hc], by simp [g', hc], fun o => ?_⟩⟩
      show g.π c o = none
      rcases hblk c hc with h | h
      · exact (m6 c h).2.2 o
      · exact prom_fresh hm h o
    | j + 2, hj => simp at hj
  · have hlt := World.block_lt_of_cell? w _ (hm.prom b o x hp)
    have hne : v0.ownBlock ≠ some b := fun h => by
      have := (m6 b h).2.2 o
      rw [show g.π b o = some x from hp] at this
      cases this
    rw [cell_heap (hgr.block b hlt (fun h => hne h.symm))]
    exact hm.prom b o x hp
  · have hi1 : i ≠ 1 := fun h => by subst h; rw [hfx1] at hi; cases hi
    have : (Loc.par i) ≠ .par 1 := by simpa using hi1
    exact ⟨by simp [g', hi1], by simp [g', hi1], by simpa [g', hi1] using hi⟩
  · have hne : v0.ownBlock ≠ some c := fun h => by rw [(m6 c h).2.1] at hn; cases hn
    have hne2 : v'.ownBlock ≠ some c := fun h => by
      rcases hblk c h with h | h
      · exact hne h
      · omega
    exact ⟨hgr.block c hc (fun h => hne h.symm), by simp [g', hne2, hn], fun _ => rfl⟩

theorem AF.arrIn {P : Program} {f : FuncId} {b : Bool} {e k n : Nat} {F F' : Nat → List D} {rest : List D} {R : AOut → List Obj → Prop} (he : Enters P f) (hR : R (.ret (.tup [])) [.arr b e k n F' none])
    (h : ∀ (g : Gh) (w : World) (u : Value) (cs vs : List Value), (∀ b o v, g.π b o = some v → w.cell? ⟨b, o, none⟩ = some v) → GlobW w → w.ownsRow 0 e k u n cs → (∀ c ∈ cs, c.oneCell' = true) → (∀ i, i < n → RepL g.π (F i) ((cs.drop (i * k)).take k)) →
      RepPL g (rest.map .d) vs → Calls P f (u :: vs).toArray w (fun e0 w' => ∃ cs', e0 = .returned (.tuple #[]) ∧ w'.ownsRow 0 e k u n cs' ∧ w.grownBy w' u.ownBlock ∧
        (∀ c ∈ cs', c.oneCell' = true) ∧ ∀ i, i < n → RepL g.π (F' i) ((cs'.drop (i * k)).take k))) : AF P f (.sl (.par 0) n :: rest.map .d) [.arr b e k n F none] R := by
  refine ⟨he, fun g w vs h0 hv hm => ?_⟩
  obtain ⟨v0, vs', rfl, hv0, hvs⟩ := hv
  obtain ⟨u, cs, m1, m2, m3, m4, m5, m6⟩ := hm.box (.par 0) _ rfl
  have := hv0.2 u m1
  subst this
  refine (h g w v0 cs vs' hm.prom hm.glob.1 m2 m3 m4 hvs).mono ?_
  rintro e0 w' ⟨cs', rfl, hown, hgr, h1, hF⟩
  refine ⟨.ret (.tup []), [.arr b e k n F' none], g, by simp, ⟨hR, ⟨_, rfl, [], rfl, rfl⟩, ⟨fun l o hl => ?_, fun b o x hp => ?_, hm.glob.to (fun c hc hn => by
      have hne : v0.ownBlock ≠ some c := fun h => by rw [(m6 c h).2.1] at hn; cases hn
      exact ⟨hgr.block c hc (fun h => hne h.symm), hn⟩)⟩, ⟨Prom.le_refl _, hgr.size, hgr.os, hgr.tape, hgr.output, fun i hi => ⟨rfl, rfl, hi⟩, fun c hc hn => ?_⟩⟩⟩
  · obtain ⟨j, rfl, hj⟩ := (objAt_parFrom _ 0 l o).1 hl
    match j, hj with
    | 0, hj =>
      simp only [List.getElem?_cons_zero, Option.some.injEq] at hj
      subst hj
      exact ⟨v0, cs', m1, hown, h1, hF, m5, m6⟩
    | j + 1, hj => simp at hj
  · have hlt := World.block_lt_of_cell? w _ (hm.prom b o x hp)
    have hne : v0.ownBlock ≠ some b := fun h => by
      have := (m6 b h).2.2 o
      rw [show g.π b o = some x from hp] at this
      cases this
    rw [cell_heap (hgr.block b hlt (fun h => hne h.symm))]
    exact hm.prom b o x hp
  · have hne : v0.ownBlock ≠ some c := fun h => by rw [(m6 c h).2.1] at hn; cases hn
    exact ⟨hgr.block c hc (fun h => hne h.symm), hn, fun _ => rfl⟩
end Go.Pv
namespace Go.Pv
open Go.RowKit

/-! ### An object by another name -/
def mvL (a b : Nat) : Loc → Option Loc
  | .loc d => bif Nat.beq d a then some (.loc b) else bif Nat.beq d b then none else some (.loc d)
  | .par i => some (.par i)
mutual
def mvP (a b : Nat) : PV → PV
  | .ptr l off => match mvL a b l with
    | some l' => .ptr l' off
    | none => .any
  | .pe l k x j => match mvL a b l with
    | some l' => .pe l' k x j
    | none => .any
  | .sl l n => match mvL a b l with
    | some l' => .sl l' n
    | none => .any
  | .agp ps => .agp (mvPL a b ps)
  | .fn f first caps => .fn f (mvPL a b first) (mvPL a b caps)
  | .tup xs => .tup (mvPL a b xs)
  | .cond c p => .cond c (mvP a b p)
  | p => p
def mvPL (a b : Nat) : List PV → List PV
  | [] => []
  | p :: ps => mvP a b p :: mvPL a b ps
end
def mvE (a b : Nat) : List (Nat × PV) → List (Nat × PV)
  | [] => []
  | (i, p) :: r => (i, mvP a b p) :: mvE a b r
def mvB (a b : Nat) : List (Loc × Obj) → List (Loc × Obj)
  | [] => []
  | (l, o) :: r => match mvL a b l with
    | some l' => (l', o.map (mvPL a b)) :: mvB a b r
    | none => mvB a b r
section
variable {g g' : Gh} {a b : Nat}
mutual
theorem mvP_rep (hπ : Prom.le g.π g'.π) (hag : ∀ l l', mvL a b l = some l' → g'.β l' = g.β l ∧ g'.ρ l' = g.ρ l) : ∀ (p : PV) (v : Value), RepP g p v → RepP g' (mvP a b p) v
  | .any, _, _ => trivial
  | .d x, v, h => RepD.mono hπ x v h
  | .ptr l off, v, h => by
    simp only [mvP]
    split
    · rename_i l' hl
      have h' : v = .pointer (some ⟨g.β l, off, none⟩) := h
      rw [h', ← (hag l l' hl).1]
      rfl
    · trivial
  | .pe l k x o, v, h => by
    simp only [mvP]
    split
    · rename_i l' hl
      have h' : v = .pointer (some ⟨g.β l, x * k + o, none⟩) := h
      rw [h', ← (hag l l' hl).1]
      rfl
    · trivial
  | .sl l n, v, h => by
    simp only [mvP]
    split
    · rename_i l' hl
      exact ⟨h.1, fun u hu => h.2 u (by rw [← (hag l l' hl).2]; exact hu)⟩
    · trivial
  | .agp ps, v, h => by
    obtain ⟨vs, e, h1, h2⟩ := h
    exact ⟨vs, e, mvPL_rep hπ hag ps vs h1, h2⟩
  | .ea x off, v, h => by
    obtain ⟨b, o, u, e, h1, h2⟩ := h
    exact ⟨b, o, u, e, RepD.mono hπ x u h1, fun j c hc => hπ _ _ _ (h2 j c hc)⟩
  | .fn f first caps, v, h => by
    obtain ⟨vs, us, e, h1, h2⟩ := h
    exact ⟨vs, us, e, mvPL_rep hπ hag first vs h1, mvPL_rep hπ hag caps us h2⟩
  | .tup xs, v, h => by
    obtain ⟨vs, e, h1⟩ := h
    exact ⟨vs, e, mvPL_rep hπ hag xs vs h1⟩
  | .cond c p, v, h => ⟨fun hc => mvP_rep hπ hag p v (h.1 hc), h.2⟩
theorem mvPL_rep (hπ : Prom.le g.π g'.π) (hag : ∀ l l', mvL a b l = some l' → g'.β l' = g.β l ∧ g'.ρ l' = g.ρ l) : ∀ (ps : List PV) (vs : List Value), RepPL g ps vs → RepPL g' (mvPL a b ps) vs
  | [], _, h => h
  | p :: ps, vs, h => by
    obtain ⟨v, vs', e, h1, h2⟩ := h
    exact ⟨v, vs', e, mvP_rep hπ hag p v h1, mvPL_rep hπ hag ps vs' h2⟩
end
end
theorem envAt_mvE (a b : Nat) : ∀ (env : List (Nat × PV)) (i : Nat), envAt (mvE a b env) i = mvP a b (envAt env i)
  | [], i => rfl
  | (j, p) :: r, i => by
    simp only [mvE, envAt]
    cases Nat.beq j i with
    | true => rfl
    | false => exact envAt_mvE a b r i
theorem objAt_mvB {a b : Nat} : ∀ {bs : List (Loc × Obj)} {q : Loc} {o : Obj}, (∀ l l' m, mvL a b l = some m → mvL a b l' = some m → l = l') → objAt (mvB a b bs) q = some o → ∃ l o0, mvL a b l = some q ∧ objAt bs l = some o0 ∧ o = o0.map (mvPL a b)
  | [], q, o, _, h => by simp [mvB, objAt] at h
  | (l, o1) :: r, q, o, hinj, h => by
    simp only [mvB] at h
    split at h
    · rename_i l' hl
      simp only [objAt] at h
      cases hb : Loc.eqb l' q with
      | true =>
        rw [hb] at h
        simp only [cond_true, Option.some.injEq] at h
        have := Loc.eqb_iff.1 hb
        subst this
        exact ⟨l, o1, hl, by simp [objAt, Loc.eqb_iff.2], h.symm⟩
      | false =>
        rw [hb] at h
        obtain ⟨l2, o0, h1, h2, h3⟩ := objAt_mvB (bs := r) hinj h
        refine ⟨l2, o0, h1, ?_, h3⟩
        simp only [objAt]
        have : Loc.eqb l l2 = false := by
          cases hc : Loc.eqb l l2 with
          | false => rfl
          | true =>
            have := Loc.eqb_iff.1 hc
            subst this
            rw [hl] at h1
            simp only [Option.some.injEq] at h1
            subst h1
            rw [Loc.eqb_iff.2 rfl] at hb
            cases hb
        rw [this]
        exact h2
    · rename_i hl
      obtain ⟨l2, o0, h1, h2, h3⟩ := objAt_mvB (bs := r) hinj h
      refine ⟨l2, o0, h1, ?_, h3⟩
      simp only [objAt]
      have : Loc.eqb l l2 = false := by
        cases hc : Loc.eqb l l2 with
        | false => rfl
        | true =>
          have := Loc.eqb_iff.1 hc
          subst this
          rw [hl] at h1
          cases h1
      rw [this]
      exact h2
theorem mvL_inj {a b : Nat} {l l' m : Loc} (h : mvL a b l = some m) (h' : mvL a b l' = some m) : l = l' := by
  have key : ∀ {l m}, mvL a b l = some m → (l = .loc a ∧ m = .loc b) ∨ (l = m ∧ l ≠ .loc a ∧ m ≠ .loc b) := by
    intro l m h
    cases l with
    | par i => simp only [mvL, Option.some.injEq] at h; subst h; exact .inr ⟨rfl, by simp, by simp⟩
    | loc d =>
      simp only [mvL] at h
      cases h1 : Nat.beq d a with
      | true => rw [h1] at h; simp at h; exact .inl ⟨by rw [Nat.eq_of_beq_eq_true h1], h.symm⟩
      | false =>
        rw [h1] at h
        cases h2 : Nat.beq d b with
        | true => rw [h2] at h; simp at h
        | false =>
          rw [h2] at h
          simp at h
          subst h
          refine .inr ⟨rfl, fun e => ?_, fun e => ?_⟩
          · injection e with e; subst e; simp at h1
          · injection e with e; subst e; simp at h2
  rcases key h with ⟨h1, h2⟩ | ⟨h1, h2, h3⟩ <;> rcases key h' with ⟨h4, h5⟩ | ⟨h4, h5, h6⟩
  · rw [h1, h4]
  · exact absurd h2 h6
  · exact absurd h5 h3
  · rw [h1, h4]
theorem Weak.mv {nt : Nat} {X X' : List (Nat × PV)} {BX BX' : List (Loc × Obj)} (a b : Nat) (he : nfE (mvE a b X) = some X') (hb : nfB (mvB a b BX) = some BX') : Weak ⟨nt, X, BX⟩ ⟨nt, X', BX'⟩ := by
  rw [nfE_eq he, nfB_eq hb]
  intro g tmps w hr
  let g' : Gh := { π := g.π, β := fun l => if l = .loc b then g.β (.loc a) else g.β l, ρ := fun l => if l = .loc b then g.ρ (.loc a) else g.ρ l, ω := fun c => if g.ω c = .box (.loc a) then .box (.loc b) else g.ω c, fx := fun l => if l = .loc b then g.fx (.loc a) else g.fx l }
  have hag : ∀ l l', mvL a b l = some l' → (g'.β l' = g.β l ∧ g'.ρ l' = g.ρ l) ∧ g'.fx l' = g.fx l ∧ ∀ c, g.ω c = .box l → g'.ω c = .box l' := by
    intro l l' h
    cases l with
    | par i =>
      simp only [mvL, Option.some.injEq] at h
      subst h
      exact ⟨⟨by simp [g'], by simp [g']⟩, by simp [g'], fun c hc => by simp [g', hc]⟩
    | loc d =>
      simp only [mvL] at h
      cases h1 : Nat.beq d a with
      | true =>
        rw [h1] at h
        simp at h
        subst h
        rw [Nat.eq_of_beq_eq_true h1]
        exact ⟨⟨by simp [g'], by simp [g']⟩, by simp [g'], fun c hc => by simp [g', hc]⟩
      | false =>
        rw [h1] at h
        cases h2 : Nat.beq d b with
        | true => rw [h2] at h; simp at h
        | false =>
          rw [h2] at h
          simp at h
          subst h
          have n1 : ¬ (d = a) := fun e => by subst e; simp at h1
          have n2 : ¬ (d = b) := fun e => by subst e; simp at h2
          exact ⟨⟨by simp [g', n2], by simp [g', n2]⟩, by simp [g', n2], fun c hc => by simp [g', hc, n1]⟩
  refine ⟨g', ⟨hr.len, fun i => ?_, ⟨fun q o hq => ?_, hr.mem.prom, hr.mem.glob.to (fun c _ ho => ⟨rfl, by simp [g', ho]⟩)⟩⟩, ⟨Prom.le_refl _, Nat.le_refl _, rfl, rfl, rfl, fun i hi => ⟨by simp [g'], by simp [g'], by simpa [g'] using hi⟩, fun c _ ho => ⟨rfl, by simp [g', ho], fun _ => rfl⟩⟩⟩
  · show RepP g' (envAt (mvE a b X) i) _
    rw [envAt_mvE]
    exact mvP_rep (g := g) (g' := g') (Prom.le_refl g.π) (fun l l' h => (hag l l' h).1) _ _ (hr.env i)
  · obtain ⟨l, o0, h1, h2, rfl⟩ := objAt_mvB (fun _ _ _ => mvL_inj) hq
    obtain ⟨⟨k1, k2⟩, k3, k4⟩ := hag l q h1
    exact (hr.mem.box l o0 h2).tr (mvPL a b) (fun ps vs h => mvPL_rep (g := g) (g' := g') (Prom.le_refl g.π) (fun l l' h => (hag l l' h).1) ps vs h) (Prom.le_refl _) k1 k2 k3 (fun c hc _ => ⟨rfl, k4 c hc, fun _ => rfl⟩)
/-- An array said not to move, in a form that can be read off. -/
theorem Weak.fixN {nt : Nat} {X : List (Nat × PV)} {BX BX' : List (Loc × Obj)} (d : Nat) (b' : Bool) {b : Bool} {e k n : Nat} {F : Nat → List D} {foc : Option (Nat × List PV)} (ho : objAt BX (.loc d) = some (.arr b e k n F foc))
    (hb : nfB (setObj BX (.loc d) (.arr b' e k n F foc)) = some BX') : Weak ⟨nt, X, BX⟩ ⟨nt, X, BX'⟩ := by
  rw [nfB_eq hb]
  exact Weak.fix d b' ho
end Go.Pv
namespace Go.Pv
open Go.RowKit

/-- A contract of the library on plain values, as a contract here. -/
theorem AF.plain {P : Program} {f : FuncId} {args : List D} {R : AOut → List Obj → Prop} (he : Enters P f)
    (h : ∀ (g : Gh) (w : World) (vs : List Value), (∀ b o v, g.π b o = some v → w.cell? ⟨b, o, none⟩ = some v) → GlobW w → RepPL g (args.map .d) vs → Calls P f vs.toArray w (fun e w' => ∃ out, Outs g e out ∧ R out [] ∧ Below w.heap.size w w')) : AF P f (args.map .d) [] R := by
  refine ⟨he, fun g w vs h0 hv hm => ?_⟩
  refine (h g w vs hm.prom hm.glob.1 hv).mono ?_
  rintro e w' ⟨out, hO, hR, hB⟩
  refine ⟨out, [], g, Nat.le_refl _, ⟨hR, hO, ⟨fun l o hl => by simp [parBoxes, parFrom, objAt] at hl, fun b o x hp => ?_, hm.glob.to (fun c hc hn => ⟨hB.block c hc, hn⟩)⟩, ⟨Prom.le_refl _, hB.size, hB.os, hB.tape, hB.output, fun i hi => ⟨rfl, rfl, hi⟩, fun c hc hn => ⟨hB.block c hc, hn, fun _ => rfl⟩⟩⟩⟩
  have hlt := World.block_lt_of_cell? w _ (hm.prom b o x hp)
  rw [cell_heap (hB.block b hlt)]
  exact hm.prom b o x hp
end Go.Pv
namespace Go.Pv
open Go.RowKit

/-! ### An interface value against nil -/
def nilI : PV → Option Bool
  | .d (.lit .nilIface) => some true
  | .d (.ifc _ _) => some false
  | _ => none
section
variable {P : Program} {l rest : List Oper} {nt : Nat} {o : Oper} {X : List (Nat × PV)} {BX : List (Loc × Obj)} {Q : AEx → St → Prop} {d : Nat}
theorem AL.nilI {t : Nat} {x : Operand} {tt : TypeId} {b : Bool} (hg : o.guard = none) (hop : o.op = .binOp .eql t x (.const .nilIface) tt) (ht : P.underlying t = some (.interface (P.methodsAt t)))
    (hx : nilI (opnd X x) = some b) (hdst : o.dst = some d) (hd : Nat.blt d nt = true)
    (h : AL P l.toArray rest Q ⟨nt, (d, .d (.lit (.bool b))) :: X, BX⟩) : AL P l.toArray (o :: rest) Q ⟨nt, X, BX⟩ := by
  intro g tmps ds w hr
  have hpx := opnd_rep hr ds x
  have hrun : (execOp ((⟨tmps, ds⟩ : Act).eval) o).run P w = .ok (.value (.bool b)) w := by
    have e1 : (⟨tmps, ds⟩ : Act).eval (.const .nilIface) = .nilIface := rfl
    unfold Pv.nilI at hx
    split at hx
    · rename_i hp
      change RepP g (opnd X x) _ at hpx
      rw [hp] at hpx
      obtain ⟨hv, _⟩ := hpx
      simp only [Option.some.injEq] at hx
      subst hx
      simp only [execOp, hop, hv, e1, Sem.run_bind]
      rw [eqGuard_nil_constR]
      simp [run_eql_nil_nil w t ht]
    · rename_i t' u hp
      change RepP g (opnd X x) _ at hpx
      rw [hp] at hpx
      obtain ⟨z, hv, _⟩ := hpx
      simp only [Option.some.injEq] at hx
      subst hx
      have hgd : eqGuard .eql t x (.const .nilIface) (.iface t' z) .nilIface = pure () := by rfl
      simp only [execOp, hop, hv, e1, Sem.run_bind, hgd]
      simp [run_eql_held_nil w t t' z ht]
    · cases hx
  simp only [wpList]
  rw [if_pos (guardV_wanted hr (by rw [hg]; rfl))]
  refine .inl ?_
  unfold Oper.wp
  rw [hrun]
  simp only [Oper.upon]
  rw [put_eta]
  have := hr.put o.dst (by rw [hdst]; exact hd) (.d (.lit (.bool b))) (.bool b) ⟨rfl, rfl⟩ ds
  rw [hdst] at this ⊢
  exact h g _ ds w this
end
end Go.Pv
namespace Go.Pv
open Go.RowKit
section
variable {P : Program} {l rest : List Oper} {nt : Nat} {o : Oper} {X : List (Nat × PV)} {BX BX' : List (Loc × Obj)} {Q : AEx → St → Prop} {d : Nat} {env0 : List (Nat × PV)} {bs0 : List (Loc × Obj)} {es : List Eff}
theorem DG.box {T : Tab} (hT : TabOK P T) {e : TypeId} {cs cs' : List PV} (hg : o.guard = none) (hdst : o.dst = some d) (hd : Nat.blt d nt = true) (hc : newCells T (keepEnv X (looks l o)) o.op = some (e, cs)) (hn : nfL cs = some cs') (hcs : namesOKL (An [d]) cs' = true)
    (hb : nfB (setB BX [(.loc d, some (.cells cs'))]) = some BX')
    (h : DG P l Q nt env0 bs0 rest (es ++ [⟨.ptr (.loc d) 0, [.loc d], [(.loc d, some (.cells cs'))], [d]⟩]) ((d, .ptr (.loc d) 0) :: X) BX') : DG P l Q nt env0 bs0 (o :: rest) es X BX :=
  DG.effN _ (VE.box hT (by rw [hg]; rfl) hc hn hcs) hdst hd rfl hb h
end
end Go.Pv
namespace Go.Pv
open Go.RowKit

/-! ### An array that is held in another object becomes data -/
theorem freeze_core {g : Gh} {bs : List (Loc × Obj)} {w : World} (hm : Mem g bs w) {lo : Loc} {b : Bool} {e k n : Nat} {F : Nat → List D} (f : Nat → D) (ho : objAt bs lo = some (.arr b e k n F none)) (hf : ∀ i, i < n → (f i).cells = F i) :
    ∃ g' u, g.ρ lo = some (u, n) ∧ Gh.le g g' ∧ RepD g'.π (.sl k n f) u ∧ (∀ l o, l ≠ lo → objAt bs l = some o → ObjOK g' w l o) ∧ (∀ b o v, g'.π b o = some v → w.cell? ⟨b, o, none⟩ = some v) ∧ Ext g w g' w := by
  obtain ⟨u, cs, m1, m2, m3, m4, m5, m6⟩ := hm.box lo _ ho
  have hle : Prom.le g.π (g.freeze u cs).π := by
    intro c o v hv
    have hne : u.ownBlock ≠ some c := fun h => by rw [(m6 c h).2.2 o] at hv; cases hv
    simp [Gh.freeze, hne, hv]
  have hgle : Gh.le g (g.freeze u cs) := ⟨hle, fun _ => rfl, fun _ => rfl⟩
  refine ⟨g.freeze u cs, u, m1, hgle, ?_, fun l o hl h2 => ?_, fun c o v hv => ?_, ⟨hle, Nat.le_refl _, rfl, rfl, rfl, fun i hi => ⟨rfl, rfl, hi⟩, fun c hc hn => ?_⟩⟩
  · rcases m2.2 with ⟨rfl, rfl⟩ | ⟨c, cap, cur, rfl, _, q1, q2, q3, q4, q5⟩
    · exact ⟨none, 0, rfl, Nat.le_refl _, by simp [maxLen], fun h => by omega⟩
    · refine ⟨_, cap, rfl, q2, q3, fun _ => ⟨c, 0, rfl, fun q hq => ?_⟩⟩
      have hm' : RepL (g.freeze (Value.slice (some ⟨c, 0, none⟩) n cap) cs).π (f q).cells ((cs.drop (q * k)).take k) := by
        rw [hf q hq]
        exact RepL.mono hle _ _ (m4 q hq)
      obtain ⟨v, hv1, hv2⟩ := repD_of_cells hm'
      have hqk : q * k + k ≤ cs.length := by rw [m2.1, ← Nat.succ_mul]; exact Nat.mul_le_mul_right k hq
      refine ⟨v, hv1, ?_, fun j x hx => ?_⟩
      · rw [← Array.length_toList, hv2, List.length_take, List.length_drop]; omega
      · have hx' : v.cells.toList[j]? = some x := by simpa using hx
        rw [hv2, List.getElem?_take] at hx'
        split at hx'
        · rw [List.getElem?_drop] at hx'
          simp [Gh.freeze, Value.ownBlock, hx']
        · cases hx'
  · have := (hm.box l o h2).tr (g' := g.freeze u cs) (w' := w) (l' := l) id (fun ps vs h => RepPL.mono hgle ps vs h) hle rfl rfl rfl (fun c hc _ => by
      have hne : u.ownBlock ≠ some c := fun h => by
        have := (m6 c h).2.1
        rw [hc] at this
        injection this with this
        exact hl this
      exact ⟨rfl, by simp [Gh.freeze, hne, hc], fun o => by simp [Gh.freeze, hne]⟩)
    rwa [Obj.map_id] at this
  · by_cases hne : u.ownBlock = some c
    · have hv' : cs[o]? = some v := by simpa [Gh.freeze, hne] using hv
      have := World.ownsRow.cells m2 hne o v hv'
      rwa [add_pl, Nat.zero_add] at this
    · have hv' : g.π c o = some v := by simpa [Gh.freeze, hne] using hv
      exact hm.prom c o v hv'
  · have hne : u.ownBlock ≠ some c := fun h => by rw [(m6 c h).2.1] at hn; cases hn
    exact ⟨rfl, by simp [Gh.freeze, hne, hn], fun o => by simp [Gh.freeze, hne]⟩

def setAt (cs : List PV) (j : Nat) (p : PV) : List PV := match cs, j with
  | [], _ => []
  | _ :: r, 0 => p :: r
  | x :: r, j + 1 => x :: setAt r j p
theorem setAt_rep {g : Gh} : ∀ {cs : List PV} {vs : List Value} {j : Nat} {p q : PV}, RepPL g cs vs → cs[j]? = some q → (∀ v, RepP g q v → RepP g p v) → RepPL g (setAt cs j p) vs
  | [], _, _, _, _, h, hj, _ => by simp at hj
  | x :: r, _, 0, p, q, h, hj, hp => by
    obtain ⟨v, vs', rfl, h1, h2⟩ := h
    simp at hj
    subst hj
    exact ⟨v, vs', rfl, hp v h1, h2⟩
  | x :: r, _, j + 1, p, q, h, hj, hp => by
    obtain ⟨v, vs', rfl, h1, h2⟩ := h
    exact ⟨v, vs', rfl, h1, setAt_rep h2 (by simpa using hj) hp⟩

theorem RepP.weakn {g : Gh} {lo : Loc} {n : Nat} {v : Value} (h : RepP g (.sl lo n) v) {u : Value} (hu : g.ρ lo = some (u, n)) : v = u := h.2 u hu

/-- Into the cells of a box. -/
theorem Weak.freezeBox {nt : Nat} {X : List (Nat × PV)} {BX BX' : List (Loc × Obj)} (h lo : Loc) (j : Nat) {cs : List PV} {b : Bool} {e k n n' : Nat} {F : Nat → List D} {foc : Option (Nat × List PV)} (f : Nat → D) (hh : objAt BX h = some (.cells cs)) (hj : cs[j]? = some (.sl lo n)) (ho : objAt BX lo = some (.arr b e k n' F foc)) (hfoc : foc = none)
    (hn : n = n') (hf : ∀ i, i < n → (f i).cells = F i) (hb : nfB (setObj (dropObj BX lo) h (.cells (setAt cs j (.d (.sl k n f))))) = some BX') : Weak ⟨nt, X, BX⟩ ⟨nt, X, BX'⟩ := by
  rw [nfB_eq hb]
  subst hfoc hn
  intro g tmps w hr
  obtain ⟨g', u, k1, k2, k3, k4, k5, k6⟩ := freeze_core hr.mem f ho hf
  refine ⟨g', ⟨hr.len, fun i => RepP.mono k2 _ _ (hr.env i), ⟨fun l o hl => ?_, k5, hr.mem.glob.ext k6⟩⟩, k6⟩
  rw [objAt_setObj] at hl
  split at hl
  · rename_i el
    subst el
    cases hd : objAt (dropObj BX lo) h with
    | none => rw [hd] at hl; cases hl
    | some c0 =>
      rw [hd] at hl
      simp only [Option.map_some, Option.some.injEq] at hl
      subst hl
      obtain ⟨hne, hc0⟩ := objAt_dropObj hd
      obtain ⟨Ty, vs, m1, m2, m3⟩ := k4 h _ hne hh
      refine ⟨Ty, vs, m1, setAt_rep m2 hj (fun v hv => ?_), m3⟩
      have : v = u := hv.2 u (by rw [k2.ρ]; exact k1)
      subst this
      exact k3
  · obtain ⟨hne, hc0⟩ := objAt_dropObj hl
    exact k4 l o hne hc0
/-- Into the element in focus. -/
theorem Weak.freezeFoc {nt : Nat} {X : List (Nat × PV)} {BX BX' : List (Loc × Obj)} (h lo : Loc) (j : Nat) {cs : List PV} {hb : Bool} {he hk hn i : Nat} {hF : Nat → List D} {b : Bool} {e k n n' : Nat} {F : Nat → List D} {foc : Option (Nat × List PV)} (f : Nat → D) (hh : objAt BX h = some (.arr hb he hk hn hF (some (i, cs)))) (hj : cs[j]? = some (.sl lo n))
    (ho : objAt BX lo = some (.arr b e k n' F foc)) (hfoc : foc = none) (hnn : n = n') (hf : ∀ i, i < n → (f i).cells = F i) (hB : nfB (setObj (dropObj BX lo) h (.arr hb he hk hn hF (some (i, setAt cs j (.d (.sl k n f)))))) = some BX') : Weak ⟨nt, X, BX⟩ ⟨nt, X, BX'⟩ := by
  rw [nfB_eq hB]
  subst hfoc hnn
  intro g tmps w hr
  obtain ⟨g', u, k1, k2, k3, k4, k5, k6⟩ := freeze_core hr.mem f ho hf
  refine ⟨g', ⟨hr.len, fun i => RepP.mono k2 _ _ (hr.env i), ⟨fun l o hl => ?_, k5, hr.mem.glob.ext k6⟩⟩, k6⟩
  rw [objAt_setObj] at hl
  split at hl
  · rename_i el
    subst el
    cases hd : objAt (dropObj BX lo) h with
    | none => rw [hd] at hl; cases hl
    | some c0 =>
      rw [hd] at hl
      simp only [Option.map_some, Option.some.injEq] at hl
      subst hl
      obtain ⟨hne, hc0⟩ := objAt_dropObj hd
      obtain ⟨u', vs, m1, m2, m3, m4, m5⟩ := k4 h _ hne hh
      refine ⟨u', vs, m1, m2, m3, fun q hq => ⟨fun eq => setAt_rep ((m4 q hq).1 eq) hj (fun v hv => ?_), (m4 q hq).2⟩, m5⟩
      have : v = u := hv.2 u (by rw [k2.ρ]; exact k1)
      subst this
      exact k3
  · obtain ⟨hne, hc0⟩ := objAt_dropObj hl
    exact k4 l o hne hc0
theorem Weak.focusN {nt : Nat} {X : List (Nat × PV)} {BX BX' : List (Loc × Obj)} (lo : Loc) (i : Nat) {b : Bool} {e k n : Nat} {F : Nat → List D} {foc : Option (Nat × List PV)} (ho : objAt BX lo = some (.arr b e k n F foc)) (hfoc : foc = none) (hi : i < n)
    (hb : nfB (setObj BX lo (.arr b e k n F (some (i, (F i).map .d)))) = some BX') : Weak ⟨nt, X, BX⟩ ⟨nt, X, BX'⟩ := by
  rw [nfB_eq hb]
  exact Weak.focus lo i ho hfoc hi
theorem Weak.unfocusN {nt : Nat} {X : List (Nat × PV)} {BX BX' : List (Loc × Obj)} (lo : Loc) {i : Nat} {cs : List PV} {xs : List D} {b : Bool} {e k n : Nat} {F : Nat → List D} {foc : Option (Nat × List PV)} (F' : Nat → List D) (ho : objAt BX lo = some (.arr b e k n F foc)) (hfoc : foc = some (i, cs))
    (hxs : toDs cs = some xs) (hF1 : F' i = xs) (hF2 : ∀ q, q < n → q ≠ i → F' q = F q) (hb : nfB (setObj BX lo (.arr b e k n F' none)) = some BX') : Weak ⟨nt, X, BX⟩ ⟨nt, X, BX'⟩ := by
  rw [nfB_eq hb]
  exact Weak.unfocus lo F' ho hfoc hxs hF1 hF2
/-- A slot that holds an array becomes data. -/
theorem Weak.freezeN {nt : Nat} {X : List (Nat × PV)} {BX BX' : List (Loc × Obj)} (i : Nat) (lo : Loc) {b : Bool} {e k n n' : Nat} {F : Nat → List D} {foc : Option (Nat × List PV)} (f : Nat → D) (hi : envAt X i = .sl lo n) (ho : objAt BX lo = some (.arr b e k n' F foc)) (hfoc : foc = none)
    (hn : n = n') (hf : ∀ i, i < n → (f i).cells = F i) (hb : nfB (dropObj BX lo) = some BX') : Weak ⟨nt, X, BX⟩ ⟨nt, (i, .d (.sl k n f)) :: X, BX'⟩ := by
  rw [nfB_eq hb]
  exact Weak.freeze i lo f hi ho hfoc hn hf
/-- nil is a slice of no elements. -/
theorem Weak.nilSl {nt : Nat} {X : List (Nat × PV)} {BX : List (Loc × Obj)} (i k : Nat) (f : Nat → D) (hi : envAt X i = .d (.lit (.slice none 0 0))) : Weak ⟨nt, X, BX⟩ ⟨nt, (i, .d (.sl k 0 f)) :: X, BX⟩ := by
  intro g tmps w hr
  refine ⟨g, ⟨hr.len, fun j => ?_, hr.mem⟩, Ext.refl g w⟩
  show RepP g (envAt ((i, .d (.sl k 0 f)) :: X) j) _
  simp only [envAt]
  by_cases hij : i = j
  · subst hij
    simp only [Nat.beq_refl, cond_true]
    have h0 := hr.env i
    change RepP g (envAt X i) _ at h0
    rw [hi] at h0
    rw [h0.1]
    exact ⟨none, 0, rfl, Nat.le_refl _, by simp [maxLen], fun h => by omega⟩
  · rw [nbeqF hij, cond_false]
    exact hr.env j
theorem Weak.nilBox {nt : Nat} {X : List (Nat × PV)} {BX BX' : List (Loc × Obj)} (h : Loc) (j k : Nat) {cs : List PV} (f : Nat → D) (hh : objAt BX h = some (.cells cs)) (hj : cs[j]? = some (.d (.lit (.slice none 0 0))))
    (hb : nfB (setObj BX h (.cells (setAt cs j (.d (.sl k 0 f))))) = some BX') : Weak ⟨nt, X, BX⟩ ⟨nt, X, BX'⟩ := by
  rw [nfB_eq hb]
  refine Weak.obj hh ?_
  rintro g w ⟨Ty, vs, m1, m2, m3⟩
  refine ⟨Ty, vs, m1, setAt_rep m2 hj (fun v hv => ?_), m3⟩
  rw [hv.1]
  exact ⟨none, 0, rfl, Nat.le_refl _, by simp [maxLen], fun h => by omega⟩
end Go.Pv
namespace Go.Pv
open Go.RowKit
/-- The elements of an array said in another way. -/
theorem Weak.arrImp {nt : Nat} {X : List (Nat × PV)} {BX BX' : List (Loc × Obj)} (lo : Loc) {b : Bool} {e k n : Nat} {F : Nat → List D} {foc : Option (Nat × List PV)} (n' : Nat) (F' : Nat → List D) (ho : objAt BX lo = some (.arr b e k n F foc)) (hfoc : foc = none) (hn : n = n')
    (hF : ∀ q, q < n → ∀ π vs, RepL π (F q) vs → RepL π (F' q) vs) (hb : nfB (setObj BX lo (.arr b e k n' F' none)) = some BX') : Weak ⟨nt, X, BX⟩ ⟨nt, X, BX'⟩ := by
  rw [nfB_eq hb]
  subst hfoc hn
  refine Weak.obj ho ?_
  rintro g w ⟨u, vs, h1, h2, h3, h4, h5, h6⟩
  exact ⟨u, vs, h1, h2, h3, fun q hq => hF q hq _ _ (h4 q hq), h5, h6⟩
theorem Weak.arrN {nt : Nat} {X : List (Nat × PV)} {BX BX' : List (Loc × Obj)} (lo : Loc) {b : Bool} {e k n : Nat} {F : Nat → List D} {foc : Option (Nat × List PV)} (n' : Nat) (F' : Nat → List D) (ho : objAt BX lo = some (.arr b e k n F foc)) (hn : n = n') (hF : ∀ q, q < n → F' q = F q)
    (hb : nfB (setObj BX lo (.arr b e k n' F' foc)) = some BX') : Weak ⟨nt, X, BX⟩ ⟨nt, X, BX'⟩ := by
  rw [nfB_eq hb]
  exact Weak.arrF lo n' F' ho hn hF
theorem nilSl_rep {π : Prom} {k : Nat} {f : Nat → D} {v : Value} (h : RepD π (.lit (.slice none 0 0)) v) : RepD π (.sl k 0 f) v := by
  rw [h.1]
  exact ⟨none, 0, rfl, Nat.le_refl _, by simp [maxLen], fun h => by omega⟩
/-- At its end, code may forget. -/
def wkQ (Q : AEx → St → Prop) : AEx → St → Prop
  | .normal, s => ∃ s', Weak s s' ∧ Q .normal s'
  | e, s => Q e s
theorem AW.endW {P : Program} {c : Code} {Q : AEx → St → Prop} {st : St} (h : AW P c (wkQ Q) st) : AW P c Q st := by
  intro g tmps ds w hr
  refine wp_mono (h g tmps ds w hr) fun e a w' hl => ?_
  cases e with
  | normal =>
    obtain ⟨s, g1, ⟨s', hw, hq⟩, h2, h3, h4⟩ := hl
    obtain ⟨g2, k1, k2⟩ := hw g1 a.tmps w' h2
    exact ⟨s', g2, hq, k1, h3.trans k2, h4⟩
  | exit id => exact hl
  | ret => exact hl
  | panic ch => exact hl
  | goto l => exact hl.elim
  | outgrown => exact hl.elim
end Go.Pv
