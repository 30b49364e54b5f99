/- Part of the proofs over this seat: Pv14 Pv15 Pv16 Pv17 Pv18 Pv19 Pv20 Pv21 Pv22 Pv23 Pv24 Pv25 Pv26 Pv27 Pv28 Pv29. -/
import Derived.Test.YteohopnpcanfpaaGreatDoorZKa
import Derived.Laws.CopyRow
import Derived.Laws.AppendOwn
import Derived.Great.BuildSlice
import Derived.Laws.Tables
import Derived.Laws.StructEq
set_option maxRecDepth 100000
namespace Go.Pv
open Go.RowKit

/-! ### Boxes are made and written -/
def cellsP : PV → Option (List PV)
  | .d (.agg cs) => some (cs.map .d)
  | .agp ps => some ps
  | .any => none
  | .tup _ => none
  | .cond .. => none
  | p => some [p]
theorem repPL_d {g : Gh} : ∀ {cs : List D} {vs : List Value}, RepL g.π cs vs → RepPL g (cs.map .d) vs ∧ ∀ v ∈ vs, v.oneCell' = true
  | [], _, h => by cases h; exact ⟨rfl, by simp⟩
  | c :: cs, _, h => by
    obtain ⟨v, vs', rfl, h1, h2, h3⟩ := h
    obtain ⟨h4, h5⟩ := repPL_d h3
    exact ⟨⟨v, vs', rfl, h2, h4⟩, by simpa using ⟨h1, h5⟩⟩
theorem one_cells {v : Value} (h : v.oneCell' = true) : v.cells = #[v] := by cases v <;> first | rfl | (simp [Value.oneCell'] at h)
theorem cellsP_rep {g : Gh} {p : PV} {cs : List PV} {v : Value} (h : cellsP p = some cs) (hp : RepP g p v) : RepPL g cs v.cells.toList ∧ ∀ u ∈ v.cells.toList, u.oneCell' = true := by
  have single : ∀ {p : PV}, RepP g p v → v.oneCell' = true → cs = [p] → RepPL g cs v.cells.toList ∧ ∀ u ∈ v.cells.toList, u.oneCell' = true := by
    intro p hp h1 e
    subst e
    rw [one_cells h1]
    exact ⟨⟨v, [], rfl, hp, rfl⟩, by simpa using h1⟩
  cases p with
  | any => simp [cellsP] at h
  | tup xs => simp [cellsP] at h
  | cond c p => simp [cellsP] at h
  | d x =>
    cases x with
    | agg xs =>
      simp only [cellsP, Option.some.injEq] at h
      subst h
      obtain ⟨vs, rfl, hl⟩ := hp
      simpa [Value.cells] using repPL_d hl
    | lit u => simp only [cellsP, Option.some.injEq] at h; exact single hp (RepD.one hp (by simp)) h.symm
    | ifc t x => simp only [cellsP, Option.some.injEq] at h; exact single hp (RepD.one hp (by simp)) h.symm
    | sl k n f => simp only [cellsP, Option.some.injEq] at h; exact single hp (RepD.one hp (by simp)) h.symm
  | ptr l o =>
    simp only [cellsP, Option.some.injEq] at h
    have e : v = _ := hp
    exact single hp (by rw [e]; rfl) h.symm
  | ea x o =>
    simp only [cellsP, Option.some.injEq] at h
    obtain ⟨b, o', u, e, _⟩ := id hp
    exact single hp (by rw [e]; rfl) h.symm
  | fn f first caps =>
    simp only [cellsP, Option.some.injEq] at h
    obtain ⟨vs, us, e, _⟩ := id hp
    exact single hp (by rw [e]; rfl) h.symm
  | sl l n =>
    simp only [cellsP, Option.some.injEq] at h
    exact single hp hp.1 h.symm
  | pe l k i j =>
    simp only [cellsP, Option.some.injEq] at h
    have e : v = _ := hp
    exact single hp (by rw [e]; rfl) h.symm
  | agp ps =>
    simp only [cellsP, Option.some.injEq] at h
    subst h
    obtain ⟨vs, rfl, hl, ho⟩ := hp
    exact ⟨by simpa [Value.cells] using hl, by simpa [Value.cells] using ho⟩

def isLoc (d : Nat) : Loc → Bool
  | .loc e => Nat.beq e d
  | .par _ => false
mutual
def clean (d : Nat) : PV → Bool
  | .ptr l _ => !(isLoc d l)
  | .pe l _ _ _ => !(isLoc d l)
  | .sl l _ => !(isLoc d l)
  | .agp ps => cleanL d ps
  | .fn _ first caps => cleanL d first && cleanL d caps
  | .tup xs => cleanL d xs
  | .cond _ p => clean d p
  | _ => true
def cleanL (d : Nat) : List PV → Bool
  | [] => true
  | p :: ps => clean d p && cleanL d ps
end
def cleanE (d : Nat) : List (Nat × PV) → Bool
  | [] => true
  | (_, p) :: r => clean d p && cleanE d r
def cleanO (d : Nat) : Obj → Bool
  | .cells cs => cleanL d cs
  | .arr _ _ _ _ _ foc => match foc with
    | some (_, cs) => cleanL d cs
    | none => true
  | .gone _ _ => true
  | .nest _ _ _ _ _ _ foc => match foc with
    | some (_, cs) => cleanL d cs
    | none => true
def cleanB (d : Nat) : List (Loc × Obj) → Bool
  | [] => true
  | (_, c) :: r => cleanO d c && cleanB d r
theorem cleanE_at {d : Nat} : ∀ {env : List (Nat × PV)}, cleanE d env = true → ∀ i, clean d (envAt env i) = true
  | [], _, i => rfl
  | (j, p) :: r, h, i => by
    simp only [cleanE, Bool.and_eq_true] at h
    simp only [envAt]
    cases hb : Nat.beq j i with
    | true => exact h.1
    | false => exact cleanE_at h.2 i
theorem cleanB_at {d : Nat} : ∀ {bs : List (Loc × Obj)}, cleanB d bs = true → ∀ {l : Loc} {c : Obj}, objAt bs l = some c → cleanO d c = true
  | [], _, l, c, hc => by simp [objAt] at hc
  | (m, a) :: r, h, l, c, hc => by
    simp only [cleanB, Bool.and_eq_true] at h
    simp only [objAt] at hc
    cases hb : Loc.eqb m l with
    | true => rw [hb] at hc; simp at hc; subst hc; exact h.1
    | false => rw [hb] at hc; exact cleanB_at h.2 hc
theorem isLoc_ne {d : Nat} {l : Loc} (h : (!(isLoc d l)) = true) : l ≠ .loc d := by
  intro e; subst e; simp [isLoc] at h

section
variable {g g' : Gh} {d : Nat}
mutual
theorem RepP.agree (hπ : Prom.le g.π g'.π) (hag : ∀ l, l ≠ .loc d → g'.β l = g.β l ∧ g'.ρ l = g.ρ l) : ∀ (p : PV) (v : Value), clean d p = true → RepP g p v → RepP g' p v
  | .any, _, _, _ => trivial
  | .d x, v, _, h => RepD.mono hπ x v h
  | .ptr l off, v, hc, h => by
    have h' : v = .pointer (some ⟨g.β l, off, none⟩) := h
    rw [h', ← (hag l (isLoc_ne hc)).1]
    rfl
  | .pe l k x o, v, hc, h => by
    have h' : v = .pointer (some ⟨g.β l, x * k + o, none⟩) := h
    rw [h', ← (hag l (isLoc_ne hc)).1]
    rfl
  | .sl l n, v, hc, h => ⟨h.1, fun u hu => h.2 u (by rw [← (hag l (isLoc_ne hc)).2]; exact hu)⟩
  | .agp ps, v, hc, h => by
    obtain ⟨vs, e, h1, h2⟩ := h
    exact ⟨vs, e, RepPL.agree hπ hag ps vs (by simpa only [clean] using hc) h1, h2⟩
  | .ea x off, v, _, h => by
    obtain ⟨b, o, u, e, h1, h2⟩ := h
    exact ⟨b, o, u, e, RepD.mono hπ x u h1, fun j c hc => hπ _ _ _ (h2 j c hc)⟩
  | .fn f first caps, v, hc, h => by
    simp only [clean, Bool.and_eq_true] at hc
    obtain ⟨vs, us, e, h1, h2⟩ := h
    exact ⟨vs, us, e, RepPL.agree hπ hag first vs hc.1 h1, RepPL.agree hπ hag caps us hc.2 h2⟩
  | .tup xs, v, hc, h => by
    obtain ⟨vs, e, h1⟩ := h
    exact ⟨vs, e, RepPL.agree hπ hag xs vs (by simpa only [clean] using hc) h1⟩
  | .cond c p, v, hc, h => ⟨fun k => RepP.agree hπ hag p v (by simpa only [clean] using hc) (h.1 k), h.2⟩
theorem RepPL.agree (hπ : Prom.le g.π g'.π) (hag : ∀ l, l ≠ .loc d → g'.β l = g.β l ∧ g'.ρ l = g.ρ l) : ∀ (ps : List PV) (vs : List Value), cleanL d ps = true → RepPL g ps vs → RepPL g' ps vs
  | [], _, _, h => h
  | p :: ps, vs, hc, h => by
    simp only [cleanL, Bool.and_eq_true] at hc
    obtain ⟨v, vs', e, h1, h2⟩ := h
    exact ⟨v, vs', e, RepP.agree hπ hag p v hc.1 h1, RepPL.agree hπ hag ps vs' hc.2 h2⟩
end
end

/-- An object is carried over, under its name, into a ghost that is the same but for 'loc d'. -/
theorem ObjOK.agree {g g' : Gh} {w w' : World} {d : Nat} {l : Loc} {o : Obj} (h : ObjOK g w l o) (hl : l ≠ .loc d) (hc : cleanO d o = true) (hπ : Prom.le g.π g'.π) (hag : ∀ l, l ≠ .loc d → g'.β l = g.β l ∧ g'.ρ l = g.ρ l)
    (hf : g'.fx l = g.fx l) (hb : ∀ b, g.ω b = .box l → b < w.heap.size → w'.heap[b]? = w.heap[b]? ∧ g'.ω b = .box l ∧ ∀ o, g'.π b o = g.π b o) : ObjOK g' w' l o := by
  cases o with
  | cells cs =>
    obtain ⟨T, vs, h1, h2, h3, h4, h5, h6⟩ := h
    obtain ⟨k1, k2, k3⟩ := hb _ h5 (Array.getElem?_eq_some_iff.1 h1).1
    have hβ := (hag l hl).1
    exact ⟨T, vs, by rw [hβ, k1]; exact h1, RepPL.agree hπ hag _ _ hc h2, h3, by rw [hf]; exact h4, by rw [hβ]; exact k2, fun o => by rw [hβ, k3 o]; exact h6 o⟩
  | arr b e k n F foc =>
    obtain ⟨u, cs, h1, h2, h3, h4, h5, h6⟩ := h
    refine ⟨u, cs, by rw [(hag l hl).2]; exact h1, ownsRow_block h2 (fun c hc => ?_), h3, fun i hi => ?_, by rw [hf]; exact h5, fun c hc => ?_⟩
    · exact (hb c (h6 c hc).2.1 (ownsRow_lt h2 hc)).1
    · have := h4 i hi
      cases foc with
      | none => exact RepL.mono hπ _ _ this
      | some ic =>
        obtain ⟨i', ps⟩ := ic
        exact ⟨fun e => RepPL.agree hπ hag _ _ hc (this.1 e), fun e => RepL.mono hπ _ _ (this.2 e)⟩
    · obtain ⟨k1, k2, k3⟩ := hb c (h6 c hc).2.1 (ownsRow_lt h2 hc)
      exact ⟨by rw [(hag l hl).1]; exact (h6 c hc).1, k2, fun o => by rw [k3 o]; exact (h6 c hc).2.2 o⟩
  | gone b n => exact ⟨hf.trans h.1, fun m hm => by rw [(hag l hl).2]; exact h.2 m hm⟩
  | nest e n e1 k1 N F foc =>
    refine nest_tr h hπ (hag l hl).1 (hag l hl).2 hf hb ?_
    cases foc with
    | none => exact .inl ⟨rfl, rfl⟩
    | some ic => exact .inr ⟨_, _, _, rfl, rfl, fun vs h => RepPL.agree hπ hag _ _ hc h⟩

theorem prom_fresh {g : Gh} {bs : List (Loc × Obj)} {w : World} (h : Mem g bs w) {b : Nat} (hb : w.heap.size ≤ b) (o : Nat) : g.π b o = none := by
  cases hp : g.π b o with
  | none => rfl
  | some v =>
    have := World.block_lt_of_cell? w _ (h.prom b o v hp)
    simp at this
    omega
theorem cell_heap {w w' : World} {b : Nat} (h : w'.heap[b]? = w.heap[b]?) (o : Nat) : w'.cell? ⟨b, o, none⟩ = w.cell? ⟨b, o, none⟩ := by
  unfold World.cell?
  rw [h]

/-- A new object, by the name 'loc d'. -/
theorem Rel.newObj {g g' : Gh} {nt : Nat} {env : List (Nat × PV)} {bs : List (Loc × Obj)} {tmps : Array Value} {w w' : World} (hr : Rel g ⟨nt, env, bs⟩ tmps w) {d : Nat} {o : Obj}
    (hcl : (cleanE d env && cleanB d bs) = true) (hπ : g'.π = g.π) (hag : ∀ l, l ≠ .loc d → g'.β l = g.β l ∧ g'.ρ l = g.ρ l ∧ g'.fx l = g.fx l) (hω : ∀ c, c < w.heap.size → g'.ω c = g.ω c)
    (hw : ∀ c, c < w.heap.size → w'.heap[c]? = w.heap[c]?) (hs : w.heap.size ≤ w'.heap.size) (hos : w'.os = w.os) (htape : w'.tape = w.tape) (hout : w'.output = w.output)
    (ho : ObjOK g' w' (.loc d) o) : Rel g' ⟨nt, env, (.loc d, o) :: bs⟩ tmps w' ∧ Ext g w g' w' := by
  simp only [Bool.and_eq_true] at hcl
  have hple : Prom.le g.π g'.π := by rw [hπ]; exact Prom.le_refl _
  have hag' : ∀ l, l ≠ .loc d → g'.β l = g.β l ∧ g'.ρ l = g.ρ l := fun l hl => ⟨(hag l hl).1, (hag l hl).2.1⟩
  refine ⟨⟨hr.len, fun i => RepP.agree hple hag' _ _ (cleanE_at hcl.1 i) (hr.env i), ⟨fun l q hq => ?_, fun b o v hp => ?_, hr.mem.glob.to (fun b hb ho => ⟨hw b hb, by rw [hω b hb]; exact ho⟩)⟩⟩, ⟨hple, hs, hos, htape, hout, fun i hi => ?_, fun b hb ho => ⟨hw b hb, by rw [hω b hb]; exact ho, fun o => by rw [hπ]⟩⟩⟩
  · simp only [objAt] at hq
    by_cases hl : Loc.eqb (.loc d) l = true
    · have := Loc.eqb_iff.1 hl
      subst this
      rw [hl] at hq
      simp only [cond_true, Option.some.injEq] at hq
      subst hq
      exact ho
    · have hn : Loc.eqb (.loc d) l = false := by simpa using hl
      rw [hn, cond_false] at hq
      have hne : l ≠ .loc d := fun e => hl (Loc.eqb_iff.2 e.symm)
      exact (hr.mem.box l q hq).agree hne (cleanB_at hcl.2 hq) hple hag' (hag l hne).2.2 (fun b hb hlt => ⟨hw b hlt, by rw [hω b hlt]; exact hb, fun o => by rw [hπ]⟩)
  · rw [hπ] at hp
    have h2 := hr.mem.prom b o v hp
    have hlt := World.block_lt_of_cell? w _ h2
    rw [cell_heap (hw b hlt)]
    exact h2
  · obtain ⟨h1, h2, h3⟩ := hag (.par i) (by simp)
    exact ⟨h1, h2, by rw [h3]; exact hi⟩

def Gh.new (g : Gh) (d b : Nat) (u : Option (Value × Nat)) (f : Bool) : Gh where
  π := g.π
  β := fun l => if l = .loc d then b else g.β l
  ρ := fun l => if l = .loc d then u else g.ρ l
  ω := fun c => if c = b then .box (.loc d) else g.ω c
  fx := fun l => if l = .loc d then f else g.fx l

/-- A new box at slot d. -/
theorem Rel.newBox {g : Gh} {nt : Nat} {env : List (Nat × PV)} {bs : List (Loc × Obj)} {tmps : Array Value} {w : World} (hr : Rel g ⟨nt, env, bs⟩ tmps w) {d : Nat} {cs : List PV} {vs : List Value} (T : TypeId)
    (hcl : (cleanE d env && cleanB d bs) = true) (hcs : cleanL d cs = true) (hv : RepPL g cs vs) (h1 : ∀ v ∈ vs, v.oneCell' = true) :
    ∃ g', Rel g' ⟨nt, env, (.loc d, .cells cs) :: bs⟩ tmps (w.alloc (.cells vs.toArray T)) ∧ Ext g w g' (w.alloc (.cells vs.toArray T)) ∧ g'.β (.loc d) = w.heap.size := by
  have key := hr.newObj (g' := g.new d w.heap.size none true) (w' := w.alloc (.cells vs.toArray T)) (o := .cells cs) hcl rfl (fun l hl => by simp [Gh.new, hl]) (fun c hc => by simp [Gh.new, Nat.ne_of_lt hc])
    (fun c hc => heap_alloc_old w _ hc) (by simp) rfl rfl rfl ⟨T, vs, by simpa [Gh.new] using heap_alloc_new w (.cells vs.toArray T), RepPL.agree (g := g) (g' := g.new d w.heap.size none true) (d := d) (Prom.le_refl g.π) (fun l hl => by simp [Gh.new, hl]) _ _ hcs hv, h1, by simp [Gh.new], by simp [Gh.new], fun o => ?_⟩
  · exact ⟨_, key.1, key.2, by simp [Gh.new]⟩
  · simpa [Gh.new] using prom_fresh hr.mem (Nat.le_refl w.heap.size) o

/-- What a new box holds. -/
def newCells (T : Tab) (env : List (Nat × PV)) : Op → Option (TypeId × List PV)
  | .box e x => match cellsP (opnd env x) with
    | some cs => some (e, cs)
    | none => none
  | .alloc e => match tyAt T e with
    | some i => match cellsP (constD i.zero) with
      | some cs => some (e, cs)
      | none => none
    | none => none
  | _ => none

section
variable {P : Program} {Q : AEx → St → Prop} {st : St} {l rest : List Oper} {o : Oper}
theorem AL.box {T : Tab} (hT : TabOK P T) {nt : Nat} {env : List (Nat × PV)} {bs : List (Loc × Obj)} {d : Nat} {e : TypeId} {cs : List PV} (hg : guardV l env o.guard = some true) (hdst : o.dst = some d) (hc : newCells T env o.op = some (e, cs))
    (hd : Nat.blt d nt = true) (hcl : (cleanE d env && cleanB d bs && cleanL d cs) = true)
    (h : AL P l.toArray rest Q ⟨nt, (d, .ptr (.loc d) 0) :: env, (.loc d, .cells cs) :: bs⟩) : AL P l.toArray (o :: rest) Q ⟨nt, env, bs⟩ := by
  intro g tmps ds w hr
  rw [Bool.and_eq_true] at hcl
  have key : ∃ v : Value, (execOp ((⟨tmps, ds⟩ : Act).eval) o).run P w = .ok (.value (.pointer (some ⟨w.heap.size, 0, none⟩))) (w.alloc (.cells v.cells e)) ∧ RepPL g cs v.cells.toList ∧ ∀ u ∈ v.cells.toList, u.oneCell' = true := by
    unfold newCells at hc
    split at hc
    · rename_i e' x hx
      split at hc
      · rename_i cs' hcs
        simp only [Option.some.injEq, Prod.mk.injEq] at hc
        obtain ⟨rfl, rfl⟩ := hc
        obtain ⟨h1, h2⟩ := cellsP_rep hcs (opnd_rep hr ds x)
        exact ⟨(⟨tmps, ds⟩ : Act).eval x, by simp [execOp, hx, Instr.box, newVar, newRow], h1, h2⟩
      · cases hc
    · rename_i e' hx
      split at hc
      · rename_i i hi
        split at hc
        · rename_i cs' hcs
          simp only [Option.some.injEq, Prod.mk.injEq] at hc
          obtain ⟨rfl, rfl⟩ := hc
          obtain ⟨h1, h2⟩ := cellsP_rep hcs (constD_rep g i.zero)
          exact ⟨i.zero, by simp [execOp, hx, Instr.alloc, hT.run_zero hi, newVar, newRow], h1, h2⟩
        · cases hc
      · cases hc
    · cases hc
  obtain ⟨v, h1, h2, h3⟩ := key
  simp only [wpList]
  rw [if_pos (guardV_wanted hr hg)]
  refine .inl ?_
  unfold Oper.wp
  rw [h1]
  simp only [Oper.upon]
  rw [put_eta]
  obtain ⟨g', k1, k2, k3⟩ := hr.newBox e hcl.1 hcl.2 h2 h3
  simp only [Array.toArray_toList] at k1 k2
  have k4 := k1.put o.dst (by rw [hdst]; exact hd) (.ptr (.loc d) 0) (.pointer (some ⟨w.heap.size, 0, none⟩)) (by simp [RepP, k3]) ds
  rw [hdst] at k4 ⊢
  exact wpList_mono (fun _ _ _ hl => lift_from k2 hl) _ _ _ (h g' _ ds _ k4)
end
end Go.Pv
namespace Go.Pv
open Go.RowKit

/-! ### Forgetting -/
def keepEnv (env : List (Nat × PV)) : List Nat → List (Nat × PV)
  | [] => []
  | i :: r => (i, envAt env i) :: keepEnv env r
def keepBoxes (bs : List (Loc × Obj)) : List Loc → List (Loc × Obj)
  | [] => []
  | l :: r => match objAt bs l with
    | some c => (l, c) :: keepBoxes bs r
    | none => keepBoxes bs r
def St.only (s : St) (e : List Nat) (b : List Loc) : St := ⟨s.nt, keepEnv s.env e, keepBoxes s.boxes b⟩

theorem keepEnv_at (env : List (Nat × PV)) : ∀ (l : List Nat) (i : Nat), envAt (keepEnv env l) i = .any ∨ envAt (keepEnv env l) i = envAt env i
  | [], i => .inl rfl
  | j :: r, i => by
    simp only [keepEnv, envAt]
    cases hb : Nat.beq j i with
    | true => have := Nat.eq_of_beq_eq_true hb; subst this; exact .inr rfl
    | false => exact keepEnv_at env r i
theorem keepBoxes_at (bs : List (Loc × Obj)) : ∀ (l : List Loc) {m : Loc} {c : Obj}, objAt (keepBoxes bs l) m = some c → objAt bs m = some c
  | [], m, c, h => by simp [keepBoxes, objAt] at h
  | j :: r, m, c, h => by
    simp only [keepBoxes] at h
    split at h
    · rename_i a ha
      simp only [objAt] at h
      cases hb : Loc.eqb j m with
      | true =>
        have e := Loc.eqb_iff.1 hb
        subst e
        rw [hb] at h
        simp at h
        subst h
        exact ha
      | false => rw [hb] at h; exact keepBoxes_at bs r h
    · exact keepBoxes_at bs r h
theorem Weak.only {nt : Nat} {env : List (Nat × PV)} {bs : List (Loc × Obj)} (e : List Nat) (b : List Loc) : Weak ⟨nt, env, bs⟩ ⟨nt, keepEnv env e, keepBoxes bs b⟩ := fun g tmps w h =>
  ⟨g, ⟨h.len, fun i => by
      rcases keepEnv_at env e i with h1 | h1
      · show RepP g (envAt (keepEnv env e) i) _
        rw [h1]; trivial
      · show RepP g (envAt (keepEnv env e) i) _
        rw [h1]; exact h.env i,
    ⟨fun l c hl => h.mem.box l c (keepBoxes_at _ _ hl), h.mem.prom, h.mem.glob⟩⟩, Ext.refl g w⟩
theorem Weak.of_eq {s s' : St} (h : s = s') : Weak s s' := h ▸ Weak.refl s
end Go.Pv
namespace Go.Pv
open Go.RowKit

/-! ### A region that draws its order: if each operation yields one abstract value, whatever the order -/
structure RelF (g : Gh) (nt : Nat) (E : Nat → PV) (bs : List (Loc × Obj)) (tmps : Array Value) (w : World) : Prop where
  len : tmps.size = nt
  env : ∀ i, RepP g (E i) (tmps.getD i undef)
  mem : Mem g bs w

/-- The slots that an operation looks at. -/
def looks (l : List Oper) (o : Oper) : List Nat :=
  (o.op.operands.toList.filterMap fun | .tmp t => some t | _ => none) ++
  (match o.guard with
   | some (j, _) => (dstAt l j).toList
   | none => [])

/-- Whatever else is known: with these at the slots that it looks at, the operation (wanted or not) leaves p in its slot, and all else as it is. -/
def VOK (P : Program) (l : List Oper) (nt : Nat) (bs : List (Loc × Obj)) (o : Oper) (X : List (Nat × PV)) (p : PV) : Prop :=
  ∀ (E : Nat → PV), (∀ t ∈ looks l o, E t = envAt X t) → ∀ g tmps ds w, RelF g nt E bs tmps w → ∀ (K : Act → World → Prop) (Q' : Exit → Act → World → Prop),
    (∀ v g' w', RepP g' p v → RelF g' nt E bs tmps w' → Ext g w g' w' → K ((⟨tmps, ds⟩ : Act).put o.dst v) w') →
    (if Region.wanted o (yielded l.toArray tmps) = true then o.wp P ⟨tmps, ds⟩ w K Q' else K ((⟨tmps, ds⟩ : Act).put o.dst undef) w)

theorem RelF.keep {g : Gh} {nt : Nat} {E : Nat → PV} {bs : List (Loc × Obj)} {tmps : Array Value} {w : World} (h : RelF g nt E bs tmps w) {X : List (Nat × PV)} {L : List Nat} (hE : ∀ t ∈ L, E t = envAt X t) :
    Rel g ⟨nt, keepEnv X L, bs⟩ tmps w := by
  refine ⟨h.len, fun i => ?_, h.mem⟩
  show RepP g (envAt (keepEnv X L) i) _
  have : ∀ (L : List Nat), (∀ t ∈ L, E t = envAt X t) → envAt (keepEnv X L) i = .any ∨ envAt (keepEnv X L) i = E i := by
    intro L
    induction L with
    | nil => intro _; exact .inl rfl
    | cons j r ih =>
      intro hL
      simp only [keepEnv, envAt]
      cases hb : Nat.beq j i with
      | true => have := Nat.eq_of_beq_eq_true hb; subst this; exact .inr (hL j (by simp)).symm
      | false => exact ih (fun t ht => hL t (by simp [ht]))
  rcases this L hE with h1 | h1
  · rw [h1]; trivial
  · rw [h1]; exact h.env i

section
variable {P : Program} {l : List Oper} {nt : Nat} {bs : List (Loc × Obj)} {o : Oper} {X : List (Nat × PV)}
theorem VOK.val {T : Tab} (hT : TabOK P T) {p : PV} {φ : Prop} (hg : guardV l (keepEnv X (looks l o)) o.guard = some true) (he : evV T (keepEnv X (looks l o)) bs o.op = some (p, φ)) (hφ : φ) : VOK P l nt bs o X p := by
  intro E hE g tmps ds w hr K Q' hK
  have hk := hr.keep hE
  rw [if_pos (guardV_wanted hk hg)]
  obtain ⟨v, h1, h2⟩ := evV_sound hT (opnd_rep hk ds) hk.mem o he hφ
  unfold Oper.wp
  rw [h1]
  exact hK v g w h2 hr (Ext.refl g w)
theorem VOK.off (hg : guardV l (keepEnv X (looks l o)) o.guard = some false) : VOK P l nt bs o X .any := by
  intro E hE g tmps ds w hr K Q' hK
  rw [if_neg (by rw [guardV_wanted (hr.keep hE) hg]; simp)]
  exact hK undef g w trivial hr (Ext.refl g w)
/-- A call that needs no objects. -/
theorem VOK.call {f : FuncId} {ps : List PV} {q : PV} (hg : guardV l (keepEnv X (looks l o)) o.guard = some true) (hc : callOf (keepEnv X (looks l o)) o.op = some (f, ps))
    (h : AF P f (renL [] ps) [] (fun out par' => out = .ret q ∧ par' = [])) : VOK P l nt bs o X (unren [] q) := by
  intro E hE g tmps ds w hr K Q' hK
  have hk := hr.keep hE
  rw [if_pos (guardV_wanted hk hg)]
  obtain ⟨vs, h1, h2⟩ := callOf_run (P := P) (opnd_rep hk ds) hc h.enters w
  unfold Oper.wp
  rw [h1]
  simp only [Oper.upon]
  refine (h.calls (g.win []) w vs (fun i _ => by simp [Gh.win]) (renL_rep _ _ h2) (hk.mem.win (js := []) rfl rfl)).mono ?_
  rintro e w' ⟨out, par', g', hlen, hp⟩
  obtain ⟨hO', rfl⟩ := hp.holds
  obtain ⟨hrel, hx, hun⟩ := call_back (st := ⟨nt, keepEnv X (looks l o), bs⟩) (js := []) (ex := []) hk rfl rfl rfl rfl hp
  have hO := hp.outs
  subst hO'
  obtain ⟨v, rfl, hv⟩ := hO
  have hle : Gh.le g (g.back g' w.heap.size ([] ++ [])) := ⟨hx.π, fun _ => rfl, fun _ => rfl⟩
  exact hK v _ w' (hun _ _ hv) ⟨hr.len, fun i => RepP.mono hle _ _ (hr.env i), hrel.mem⟩ hx
end

/-! The check of the order -/
def binding (o : Oper) : List Nat := o.after.toList.filterMap fun e => if Region.binds .any e then some e.on else none
/-- Of each operation, as a number's bits, those that surely come before it. -/
def maskOf (ms : List Nat) (o : Oper) : Nat := (binding o).foldl (fun m j => m ||| (2 ^ j) ||| ms.getD j 0) 0
def masks : List Nat → List Oper → List Nat
  | ms, [] => ms
  | ms, o :: r => masks (ms ++ [maskOf ms o]) r
def dstIdx : List Oper → Nat → Nat → Option Nat   -- which operation writes slot t
  | [], _, _ => none
  | o :: r, i, t => match o.dst with
    | some d => bif Nat.beq d t then some i else dstIdx r (i + 1) t
    | none => dstIdx r (i + 1) t
/-- Each operation has a slot of its own; edges lead back; and of a slot that it looks at and another writes, the order is settled. -/
def orderOk (l : List Oper) : Bool :=
  let ms := masks [] l
  (List.range l.length).all fun i => match l[i]? with
    | none => false
    | some o => (match o.dst with
        | some d => (match dstIdx l 0 d with | some j => Nat.beq j i | none => false)
        | none => false) &&
      (binding o).all (fun j => Nat.blt j i) &&
      (looks l o).all fun t => match dstIdx l 0 t with
        | none => true
        | some j => (Nat.blt j i && (ms.getD i 0).testBit j) || (Nat.blt i j && (ms.getD j 0).testBit i)
end Go.Pv
namespace Go.Pv
open Go.RowKit

def Closed (l : List Oper) (S : Nat → Bool) : Prop := ∀ i o, l[i]? = some o → S i = true → ∀ j ∈ binding o, S j = true

theorem foldl_mask_spec (ms : List Nat) (b : Nat) : ∀ (js : List Nat) (m : Nat), (js.foldl (fun m j => m ||| (2 ^ j) ||| ms.getD j 0) m).testBit b = true → m.testBit b = true ∨ ∃ j ∈ js, b = j ∨ (ms.getD j 0).testBit b = true
  | [], m, h => .inl h
  | j :: js, m, h => by
    rcases foldl_mask_spec ms b js _ h with h1 | ⟨k, hk, h2⟩
    · simp only [Nat.testBit_or, Bool.or_eq_true] at h1
      rcases h1 with (h1 | h1) | h1
      · exact .inl h1
      · rw [Nat.testBit_two_pow] at h1
        exact .inr ⟨j, by simp, .inl ((of_decide_eq_true h1).symm)⟩
      · exact .inr ⟨j, by simp, .inr h1⟩
    · exact .inr ⟨k, by simp [hk], h2⟩

theorem masks_spec (l : List Oper) : ∀ (r : List Oper) (ms : List Nat), (∀ k, l[ms.length + k]? = r[k]?) →
    (∀ i b, (ms.getD i 0).testBit b = true → ∀ S, Closed l S → S i = true → S b = true) →
    ∀ i b, ((masks ms r).getD i 0).testBit b = true → ∀ S, Closed l S → S i = true → S b = true
  | [], ms, _, h => h
  | o :: r, ms, hl, h => by
    refine masks_spec l r (ms ++ [maskOf ms o]) (fun k => ?_) (fun i b hb S hS hi => ?_)
    · have := hl (k + 1)
      simpa [Nat.add_assoc, Nat.add_comm 1 k] using this
    · by_cases hlt : i < ms.length
      · exact h i b (by simpa [List.getD_eq_getElem?_getD, List.getElem?_append_left hlt] using hb) S hS hi
      · by_cases he : i = ms.length
        · subst he
          have hm : (maskOf ms o).testBit b = true := by simpa [List.getD_eq_getElem?_getD] using hb
          rcases foldl_mask_spec ms b (binding o) 0 hm with h1 | ⟨j, hj, h1⟩
          · simp at h1
          · have hSj := hS ms.length o (by simpa using hl 0) hi j hj
            rcases h1 with rfl | h1
            · exact hSj
            · exact h j b h1 S hS hSj
        · have : (ms ++ [maskOf ms o]).getD i 0 = 0 := by
            rw [List.getD_eq_getElem?_getD, List.getElem?_eq_none (by simp; omega)]; rfl
          rw [this] at hb
          simp at hb

inductive Chain (P : Program) (l : List Oper) (nt : Nat) (bs : List (Loc × Obj)) (env0 : List (Nat × PV)) : Nat → List (Nat × PV) → (Nat → PV) → Prop
  | nil : Chain P l nt bs env0 0 env0 (fun _ => .any)
  | snoc {i : Nat} {X : List (Nat × PV)} {r : Nat → PV} {o : Oper} {d : Nat} {p : PV} : Chain P l nt bs env0 i X r → l[i]? = some o → o.dst = some d → Nat.blt d nt = true → VOK P l nt bs o X p →
      Chain P l nt bs env0 (i + 1) ((d, p) :: X) (fun k => if k = i then p else r k)

theorem dstIdx_spec : ∀ {l : List Oper} {i t j : Nat}, dstIdx l i t = some j → ∃ k o, j = i + k ∧ l[k]? = some o ∧ o.dst = some t
  | [], i, t, j, h => by simp [dstIdx] at h
  | o :: r, i, t, j, h => by
    simp only [dstIdx] at h
    split at h
    · rename_i d hd
      cases hb : Nat.beq d t with
      | true =>
        rw [hb] at h
        simp at h
        have := Nat.eq_of_beq_eq_true hb
        subst this
        exact ⟨0, o, by omega, rfl, hd⟩
      | false =>
        rw [hb] at h
        obtain ⟨k, o', h1, h2, h3⟩ := dstIdx_spec (l := r) h
        exact ⟨k + 1, o', by omega, by simpa using h2, h3⟩
    · obtain ⟨k, o', h1, h2, h3⟩ := dstIdx_spec (l := r) h
      exact ⟨k + 1, o', by omega, by simpa using h2, h3⟩

structure OrderOK (l : List Oper) : Prop where
  dst : ∀ i o, l[i]? = some o → ∃ d, o.dst = some d ∧ dstIdx l 0 d = some i
  back : ∀ i o, l[i]? = some o → ∀ j ∈ binding o, j < i
  settled : ∀ i o, l[i]? = some o → ∀ t ∈ looks l o, ∀ j, dstIdx l 0 t = some j → (j < i ∧ ∀ S, Closed l S → S i = true → S j = true) ∨ (i < j ∧ ∀ S, Closed l S → S j = true → S i = true)

theorem orderOk_spec {l : List Oper} (h : orderOk l = true) : OrderOK l := by
  unfold orderOk at h
  have hm := masks_spec l l [] (fun k => by simp) (fun i b hb => by simp at hb)
  have key : ∀ i o, l[i]? = some o → ((∃ d, o.dst = some d ∧ dstIdx l 0 d = some i) ∧ (∀ j ∈ binding o, j < i) ∧
      (∀ t ∈ looks l o, ∀ j, dstIdx l 0 t = some j → (j < i ∧ ((masks [] l).getD i 0).testBit j = true) ∨ (i < j ∧ ((masks [] l).getD j 0).testBit i = true))) := by
    intro i o hi
    have hlt : i < l.length := (List.getElem?_eq_some_iff.1 hi).1
    have h1 := List.all_eq_true.1 h i (List.mem_range.2 hlt)
    simp only [hi, Bool.and_eq_true, List.all_eq_true] at h1
    obtain ⟨⟨h2, h3⟩, h4⟩ := h1
    refine ⟨?_, fun j hj => by simpa [Nat.blt_eq] using h3 j hj, fun t ht j hj => ?_⟩
    · split at h2
      · rename_i d hd
        split at h2
        · rename_i j hj
          have := Nat.eq_of_beq_eq_true h2
          subst this
          exact ⟨d, hd, hj⟩
        · cases h2
      · cases h2
    · have h5 := h4 t ht
      rw [hj] at h5
      simp only [Bool.or_eq_true, Bool.and_eq_true, Nat.blt_eq] at h5
      exact h5
  refine ⟨fun i o hi => (key i o hi).1, fun i o hi => (key i o hi).2.1, fun i o hi t ht j hj => ?_⟩
  rcases (key i o hi).2.2 t ht j hj with ⟨h1, h2⟩ | ⟨h1, h2⟩
  · exact .inl ⟨h1, fun S hS hi' => hm i j h2 S hS hi'⟩
  · exact .inr ⟨h1, fun S hS hj' => hm j i h2 S hS hj'⟩

section
variable {P : Program} {l : List Oper} {nt : Nat} {bs : List (Loc × Obj)} {env0 : List (Nat × PV)}

/-- What the slots hold when the operations of S are done. -/
def EnvS (l : List Oper) (env0 : List (Nat × PV)) (r : Nat → PV) (S : Nat → Bool) (t : Nat) : PV :=
  match dstIdx l 0 t with
  | some j => if S j = true then r j else envAt env0 t
  | none => envAt env0 t

theorem Chain.spec (hO : OrderOK l) : ∀ {i : Nat} {X : List (Nat × PV)} {r : Nat → PV}, Chain P l nt bs env0 i X r → i ≤ l.length ∧
    (∀ t, envAt X t = EnvS l env0 r (fun j => decide (j < i)) t) ∧
    (∀ k, k < i → ∃ o d, l[k]? = some o ∧ o.dst = some d ∧ Nat.blt d nt = true ∧ ∃ Y, VOK P l nt bs o Y (r k) ∧ ∀ t, envAt Y t = EnvS l env0 r (fun j => decide (j < k)) t) := by
  intro i X r h
  induction h with
  | nil =>
    refine ⟨Nat.zero_le _, fun t => ?_, fun k hk => by omega⟩
    unfold EnvS
    cases dstIdx l 0 t <;> simp
  | @snoc i X r o d p hc hi hd hb hv ih =>
    obtain ⟨h1, h2, h3⟩ := ih
    have hlt : i < l.length := (List.getElem?_eq_some_iff.1 hi).1
    have hidx : dstIdx l 0 d = some i := by
      obtain ⟨d', e1, e2⟩ := hO.dst i o hi
      rw [hd] at e1
      cases e1
      exact e2
    have other : ∀ t, t ≠ d → dstIdx l 0 t ≠ some i := by
      intro t ht e
      obtain ⟨k, o', e1, e2, e3⟩ := dstIdx_spec e
      have : k = i := by omega
      subst this
      rw [hi] at e2
      cases e2
      rw [hd] at e3
      cases e3
      exact ht rfl
    refine ⟨hlt, fun t => ?_, fun k hk => ?_⟩
    · simp only [envAt]
      cases hbt : Nat.beq d t with
      | true =>
        have := Nat.eq_of_beq_eq_true hbt
        subst this
        simp [EnvS, hidx]
      | false =>
        have htd : t ≠ d := fun e => by subst e; simp at hbt
        show envAt X t = _
        rw [h2 t]
        unfold EnvS
        cases hj : dstIdx l 0 t with
        | none => rfl
        | some j =>
          have hji : j ≠ i := fun e => other t htd (by rw [hj, e])
          have : (decide (j < i) = true) ↔ (decide (j < i + 1) = true) := by simp; omega
          by_cases hq : j < i
          · simp [hq, show j < i + 1 by omega, hji]
          · simp [hq, show ¬ j < i + 1 by omega]
    · have upd : ∀ m, m ≤ i → ∀ t, EnvS l env0 r (fun j => decide (j < m)) t = EnvS l env0 (fun k => if k = i then p else r k) (fun j => decide (j < m)) t := by
        intro m hm t
        unfold EnvS
        cases dstIdx l 0 t with
        | none => rfl
        | some j =>
          by_cases hq : j < m
          · simp [hq, show j ≠ i by omega]
          · simp [hq]
      by_cases hki : k = i
      · subst hki
        refine ⟨o, d, hi, hd, hb, X, by simpa using hv, fun t => ?_⟩
        rw [h2 t, upd k (Nat.le_refl _) t]
      · obtain ⟨o', d', e1, e2, e3, Y, e4, e5⟩ := h3 k (by omega)
        refine ⟨o', d', e1, e2, e3, Y, by simpa [hki] using e4, fun t => ?_⟩
        rw [e5 t, upd k (by omega) t]

theorem EnvS_looks (hO : OrderOK l) {i : Nat} {o : Oper} (hi : l[i]? = some o) {S : Nat → Bool} (hS : Closed l S) (hni : S i = false) (hready : ∀ j ∈ binding o, S j = true) {r : Nat → PV} {t : Nat} (ht : t ∈ looks l o) :
    EnvS l env0 r S t = EnvS l env0 r (fun j => decide (j < i)) t := by
  unfold EnvS
  cases hj : dstIdx l 0 t with
  | none => rfl
  | some j =>
    rcases hO.settled i o hi t ht j hj with ⟨h1, h2⟩ | ⟨h1, h2⟩
    · have hc : Closed l (fun k => S k || decide (k = i)) := by
        intro k o' hk hSk q hq
        simp only [Bool.or_eq_true, decide_eq_true_eq] at hSk ⊢
        rcases hSk with hSk | rfl
        · exact .inl (hS k o' hk hSk q hq)
        · rw [hi] at hk
          cases hk
          exact .inl (hready q hq)
      have h3 := h2 _ hc (by simp)
      simp only [Bool.or_eq_true, decide_eq_true_eq] at h3
      have h4 : S j = true := h3.resolve_right (by omega)
      simp [h4, h1]
    · have h3 : S j = false := by
        cases hSj : S j with
        | false => rfl
        | true =>
          have := h2 S hS hSj
          rw [hni] at this
          cases this
      simp [h3, show ¬ j < i by omega]
end
end Go.Pv
namespace Go.Pv
open Go.RowKit
section
variable {P : Program} {l : List Oper} {nt : Nat} {bs : List (Loc × Obj)} {env0 : List (Nat × PV)}

theorem RelF.putF {g' : Gh} {E E' : Nat → PV} {tmps : Array Value} {w' : World} (h' : RelF g' nt E bs tmps w') {d : Nat} {v : Value} {p : PV} (hd : d < nt) (hv : RepP g' p v)
    (hE : ∀ t, E' t = if t = d then p else E t) : RelF g' nt E' bs (tmps.setIfInBounds d v) w' := by
  refine ⟨by simpa using h'.len, fun t => ?_, h'.mem⟩
  rw [hE t]
  by_cases ht : t = d
  · subst ht
    rw [if_pos rfl, Array.getD_eq_getD_getElem?, Array.getElem?_setIfInBounds_self_of_lt (by rw [h'.len]; exact hd)]
    exact hv
  · rw [if_neg ht, Array.getD_eq_getD_getElem?, Array.getElem?_setIfInBounds_ne (fun e => ht e.symm), ← Array.getD_eq_getD_getElem?]
    exact h'.env t

theorem wpAny_chain (hO : OrderOK l) {X : List (Nat × PV)} {r : Nat → PV} (hC : Chain P l nt bs env0 l.length X r) {Q : Exit → Act → World → Prop} {ds : List Deferred} :
    ∀ (fuel : Nat) (listed : Array Bool) (g : Gh) (tmps : Array Value) (w : World), listed.size = l.length → listed.toList.countP (fun b => !b) ≤ fuel → Closed l (fun k => listed.getD k false) →
      RelF g nt (EnvS l env0 r (fun k => listed.getD k false)) bs tmps w →
      (∀ g' tmps' w', Rel g' ⟨nt, X, bs⟩ tmps' w' → Ext g w g' w' → Q .normal ⟨tmps', ds⟩ w') → wpAny P .any l.toArray Q fuel listed ⟨tmps, ds⟩ w := by
  intro fuel
  have fin : ∀ (listed : Array Bool) (g : Gh) (tmps : Array Value) (w : World), listed.size = l.length → Closed l (fun k => listed.getD k false) →
      RelF g nt (EnvS l env0 r (fun k => listed.getD k false)) bs tmps w →
      (∀ g' tmps' w', Rel g' ⟨nt, X, bs⟩ tmps' w' → Ext g w g' w' → Q .normal ⟨tmps', ds⟩ w') → (∀ k, k < l.length → listed.getD k false = true) → Q .normal ⟨tmps, ds⟩ w := by
    intro listed g tmps w hs hcl hr hQ hall
    refine hQ g tmps w ⟨hr.len, fun t => ?_, hr.mem⟩ (Ext.refl g w)
    show RepP g (envAt X t) _
    rw [(hC.spec hO).2.1 t]
    have := hr.env t
    have he : EnvS l env0 r (fun k => listed.getD k false) t = EnvS l env0 r (fun j => decide (j < l.length)) t := by
      unfold EnvS
      cases hj : dstIdx l 0 t with
      | none => rfl
      | some j =>
        obtain ⟨k, o, e1, e2, e3⟩ := dstIdx_spec hj
        have hlt : j < l.length := by
          have := (List.getElem?_eq_some_iff.1 e2).1
          omega
        simp [hall j hlt, hlt]
    rw [← he]
    exact this
  have notready : ∀ (listed : Array Bool), listed.size = l.length → Region.ready .any l.toArray listed = [] → ∀ k, k < l.length → listed.getD k false = true := by
    intro listed hs hr k
    induction k using Nat.strongRecOn with
    | _ k ih =>
      intro hk
      cases hb : listed.getD k false with
      | true => rfl
      | false =>
        exfalso
        have hm : k ∈ Region.ready .any l.toArray listed := by
          refine mem_ready.2 ⟨?_, l[k], by simp [hk], fun e he hbd => ?_⟩
          · have hk' : k < listed.size := by omega
            simpa [Array.getD_eq_getD_getElem?, hk'] using hb
          · have hjb : e.on ∈ binding l[k] := by
              unfold binding
              exact List.mem_filterMap.2 ⟨e, by simpa using he, by simp [hbd]⟩
            have := hO.back k l[k] (by simp [hk]) _ hjb
            exact ih e.on this (by omega)
        rw [hr] at hm
        cases hm
  induction fuel with
  | zero =>
    intro listed g tmps w hs hc hcl hr hQ
    have hall : ∀ k, k < l.length → listed.getD k false = true := by
      intro k hk
      have h0 : listed.toList.countP (fun b => !b) = 0 := by omega
      rw [List.countP_eq_zero] at h0
      have hk' : k < listed.size := by omega
      have := h0 listed[k] (by simp)
      simpa [Array.getD_eq_getD_getElem?, hk'] using this
    refine ⟨?_, fin listed g tmps w hs hcl hr hQ hall⟩
    apply List.eq_nil_iff_forall_not_mem.2
    intro i hi
    obtain ⟨h1, o, h2, h3⟩ := mem_ready.1 hi
    have hil : i < l.length := by
      have := (Array.getElem?_eq_some_iff.1 h2).1
      simpa using this
    have hk' : i < listed.size := by omega
    have := hall i hil
    simp [Array.getD_eq_getD_getElem?, hk'] at this h1
    rw [this] at h1
    cases h1
  | succ fuel ih =>
    intro listed g tmps w hs hc hcl hr hQ
    refine ⟨fun h0 => fin listed g tmps w hs hcl hr hQ (notready listed hs h0), fun i hi => ?_⟩
    obtain ⟨h1, o, h2, h3⟩ := mem_ready.1 hi
    have hil : i < l.length := by
      have := (Array.getElem?_eq_some_iff.1 h2).1
      simpa using this
    have hi' : i < listed.size := by omega
    have h2' : l[i]? = some o := by simpa using h2
    have hf : listed[i] = false := by simpa [Array.getD_eq_getD_getElem?, hi'] using h1
    have hni : listed.getD i false = false := by simp [Array.getD_eq_getD_getElem?, hi', hf]
    obtain ⟨o', d, e1, e2, e3, Y, hV, hY⟩ := (hC.spec hO).2.2 i hil
    rw [h2'] at e1
    cases e1
    have hready : ∀ j ∈ binding o, listed.getD j false = true := by
      intro j hj
      unfold binding at hj
      obtain ⟨e, he, hee⟩ := List.mem_filterMap.1 hj
      split at hee
      · rename_i hb
        cases hee
        exact h3 e (by simpa using he) hb
      · cases hee
    have hidx : dstIdx l 0 d = some i := by
      obtain ⟨d', q1, q2⟩ := hO.dst i o h2'
      rw [e2] at q1
      cases q1
      exact q2
    have hd : d < nt := Nat.blt_eq.mp e3
    have key := hV (EnvS l env0 r (fun k => listed.getD k false)) (fun t ht => by
      rw [hY t]
      exact EnvS_looks hO h2' hcl hni hready ht) g tmps ds w hr (wpAny P .any l.toArray Q fuel (listed.setIfInBounds i true)) Q (fun v g' w' hv hr' hx => by
        rw [e2]
        refine ih _ g' _ w' (by simpa using hs) ?_ ?_ ?_ (fun g2 t2 w2 hR hX => hQ g2 t2 w2 hR (hx.trans hX))
        · have : (listed.setIfInBounds i true).toList = listed.toList.set i true := by simp
          rw [this, List.countP_set (by simpa using hi')]
          have : listed.toList[i]'(by simpa using hi') = false := by simpa using hf
          rw [this]
          have : 0 < listed.toList.countP (fun b => !b) := List.countP_pos_iff.2 ⟨false, by rw [← hf]; simp, rfl⟩
          simp only [Bool.not_false, Bool.not_true, if_true, Bool.false_eq_true, if_false]
          omega
        · intro k o2 hk hSk q hq
          by_cases hik : i = k
          · subst hik
            rw [h2'] at hk
            cases hk
            have := hready q hq
            by_cases hiq : i = q
            · subst hiq; rw [hni] at this; cases this
            · simpa [getD_set_ne false hiq] using this
          · have hSk' : listed.getD k false = true := by simpa [getD_set_ne false hik] using hSk
            have := hcl k o2 hk hSk' q hq
            by_cases hiq : i = q
            · subst hiq; simp [Array.getD_eq_getD_getElem?, hi']
            · simpa [getD_set_ne false hiq] using this
        · refine RelF.putF hr' hd hv (fun t => ?_)
          unfold EnvS
          by_cases ht : t = d
          · subst ht
            rw [hidx, if_pos rfl]
            simp [Array.getD_eq_getD_getElem?, hi']
          · rw [if_neg ht]
            cases hj : dstIdx l 0 t with
            | none => rfl
            | some j =>
              have hij : i ≠ j := by
                rintro rfl
                obtain ⟨k, o3, q1, q2, q3⟩ := dstIdx_spec hj
                have : k = i := by omega
                subst this
                rw [h2'] at q2
                cases q2
                rw [e2] at q3
                cases q3
                exact ht rfl
              simp only [getD_set_ne false hij])
    unfold wpOp
    rw [h2]
    show if _ then _ else _
    split
    · rename_i hw
      rw [if_pos hw] at key
      exact .inl key
    · rename_i hw
      rw [if_neg hw] at key
      exact key

/-- The state before operation i of a region that draws its order: X, with the operations before it done. -/
def DL (P : Program) (l : List Oper) (Q : AEx → St → Prop) (nt : Nat) (bs : List (Loc × Obj)) (env0 : List (Nat × PV)) (i : Nat) (rest : List Oper) (X : List (Nat × PV)) : Prop :=
  (∀ k, rest[k]? = l[i + k]?) → (∃ r, Chain P l nt bs env0 i X r) → ∃ Y r, Chain P l nt bs env0 l.length Y r ∧ Q .normal ⟨nt, Y, bs⟩

theorem AW.drawn {id : Nat} {Q : AEx → St → Prop} (hm : P.follows .mixedOrders = true) (hO : orderOk l = true) (h : DL P l Q nt bs env0 0 l env0) : AW P (.region id l.toArray true) Q ⟨nt, env0, bs⟩ := by
  intro g tmps ds w hr
  obtain ⟨Y, r, hC, hQ⟩ := h (fun k => by simp) ⟨_, .nil⟩
  refine wp_region_any hm ?_
  have hr' : Rel g ⟨nt, env0, bs⟩ tmps w.drew := ⟨hr.len, hr.env, hr.mem.drew⟩
  refine wpAny_chain (orderOk_spec hO) hC _ _ g tmps w.drew (by simp) ?_ ?_ ⟨hr.len, fun t => ?_, hr.mem.drew⟩ (fun g' tmps' w' hR hX => ⟨_, g', hQ, hR, (Ext.drew g w).trans hX, rfl⟩)
  · refine Nat.le_trans List.countP_le_length (by simp)
  · intro k o hk hS
    exfalso
    by_cases hk : k < l.length
    · simp [Array.getD_eq_getD_getElem?, hk] at hS
    · simp [Array.getD_eq_getD_getElem?, hk] at hS
  · have : EnvS l env0 r (fun k => (Array.replicate l.toArray.size false).getD k false) t = envAt env0 t := by
      unfold EnvS
      cases dstIdx l 0 t with
      | none => rfl
      | some j =>
        by_cases hk : j < l.length
        · simp [Array.getD_eq_getD_getElem?, hk]
        · simp [Array.getD_eq_getD_getElem?, hk]
    rw [this]
    exact hr.env t

theorem DL.nil {Q : AEx → St → Prop} {i : Nat} {X : List (Nat × PV)} (h : Q .normal ⟨nt, X, bs⟩) : DL P l Q nt bs env0 i [] X := by
  intro hl ⟨r, hc⟩
  have hi : l.length ≤ i := by
    have := hl 0
    simpa using this.symm
  have hb : i ≤ l.length := by
    clear h hl hi
    induction hc with
    | nil => exact Nat.zero_le _
    | snoc _ hi _ _ _ _ => exact (List.getElem?_eq_some_iff.1 hi).1
  have : i = l.length := by omega
  subst this
  exact ⟨X, r, hc, h⟩

theorem DL.snoc {Q : AEx → St → Prop} {i : Nat} {o : Oper} {rest : List Oper} {X : List (Nat × PV)} {d : Nat} {p : PV} (hd : o.dst = some d) (hb : Nat.blt d nt = true) (hv : VOK P l nt bs o X p)
    (h : DL P l Q nt bs env0 (i + 1) rest ((d, p) :: X)) : DL P l Q nt bs env0 i (o :: rest) X := by
  intro hl ⟨r, hc⟩
  refine h (fun k => ?_) ⟨_, hc.snoc (by simpa using (hl 0).symm) hd hb hv⟩
  have := hl (k + 1)
  simpa [Nat.add_assoc, Nat.add_comm 1 k] using this

theorem DL.val {T : Tab} (hT : TabOK P T) {Q : AEx → St → Prop} {i : Nat} {o : Oper} {rest : List Oper} {X : List (Nat × PV)} {d : Nat} {p : PV} {φ : Prop} (hg : guardV l (keepEnv X (looks l o)) o.guard = some true)
    (he : evV T (keepEnv X (looks l o)) bs o.op = some (p, φ)) (hφ : φ) (hd : o.dst = some d) (hb : Nat.blt d nt = true) (h : DL P l Q nt bs env0 (i + 1) rest ((d, p) :: X)) : DL P l Q nt bs env0 i (o :: rest) X :=
  DL.snoc hd hb (VOK.val hT hg he hφ) h
theorem DL.off {Q : AEx → St → Prop} {i : Nat} {o : Oper} {rest : List Oper} {X : List (Nat × PV)} {d : Nat} (hg : guardV l (keepEnv X (looks l o)) o.guard = some false) (hd : o.dst = some d) (hb : Nat.blt d nt = true)
    (h : DL P l Q nt bs env0 (i + 1) rest ((d, .any) :: X)) : DL P l Q nt bs env0 i (o :: rest) X :=
  DL.snoc hd hb (VOK.off hg) h
theorem DL.call {Q : AEx → St → Prop} {i : Nat} {o : Oper} {rest : List Oper} {X : List (Nat × PV)} {d : Nat} {f : FuncId} {ps : List PV} {q : PV} (hg : guardV l (keepEnv X (looks l o)) o.guard = some true)
    (hc : callOf (keepEnv X (looks l o)) o.op = some (f, ps)) (hA : AF P f (renL [] ps) [] (fun out par' => out = .ret q ∧ par' = [])) (hd : o.dst = some d) (hb : Nat.blt d nt = true)
    (h : DL P l Q nt bs env0 (i + 1) rest ((d, unren [] q) :: X)) : DL P l Q nt bs env0 i (o :: rest) X :=
  DL.snoc hd hb (VOK.call hg hc hA) h
end
end Go.Pv
namespace Go.Pv
open Go.RowKit

/-! ### An object's cells are written -/
theorem Rel.setBox {g : Gh} {nt : Nat} {env : List (Nat × PV)} {bs : List (Loc × Obj)} {tmps : Array Value} {w : World} (hr : Rel g ⟨nt, env, bs⟩ tmps w) {lo : Loc} {o o' : Obj} {cells : Array Value} {cells' : Array Value} {Ty : TypeId} (ho : objAt bs lo = some o)
    (hω : g.ω (g.β lo) = .box lo) (hπ : ∀ q, g.π (g.β lo) q = none) (m1 : w.heap[g.β lo]? = some (.cells cells Ty (0, 0)))
    (hnew : (w.setRow (g.β lo) cells').heap[g.β lo]? = some (.cells cells' Ty (0, 0)) → ObjOK g (w.setRow (g.β lo) cells') lo o') :
    Rel g ⟨nt, env, Pv.setObj bs lo o'⟩ tmps (w.setRow (g.β lo) cells') ∧ Ext g w g (w.setRow (g.β lo) cells') := by
  have far : ∀ b, g.ω b ≠ .box lo → (w.setRow (g.β lo) cells').heap[b]? = w.heap[b]? := fun b hb =>
    setRow_other w (g.β lo) b cells' (fun e => hb (by rw [e]; exact hω))
  refine ⟨⟨hr.len, hr.env, ⟨fun l c hl => ?_, fun b o v hp => ?_, hr.mem.glob.to (fun b _ ho => ⟨far b (by rw [ho]; simp), ho⟩)⟩⟩, ⟨Prom.le_refl _, by simp, rfl, rfl, rfl, fun i hi => ⟨rfl, rfl, hi⟩, fun b _ ho => ⟨far b (by rw [ho]; simp), ho, fun _ => rfl⟩⟩⟩
  · rw [objAt_setObj] at hl
    split at hl
    · rename_i e
      subst e
      simp only [ho, Option.map_some, Option.some.injEq] at hl
      subst hl
      exact hnew (setRow_heap w _ _ _ Ty (0, 0) m1)
    · rename_i hne
      have := (hr.mem.box l c hl).tr (g' := g) (w' := w.setRow (g.β lo) cells') (l' := l) id (fun _ _ h => h) (Prom.le_refl _) rfl rfl rfl (fun b hb _ => ⟨far b (by rw [hb]; simpa using fun e => hne e.symm), hb, fun _ => rfl⟩)
      rwa [Obj.map_id] at this
  · have h2 := hr.mem.prom b o v hp
    have hne : b ≠ g.β lo := by
      intro e
      subst e
      rw [hπ o] at hp
      cases hp
    rw [cell_setRow_other w (g.β lo) cells' ⟨b, o, none⟩ hne]
    exact h2

def splice (cs : List PV) (off : Nat) (xs : List PV) : List PV := cs.take off ++ xs ++ cs.drop (off + xs.length)
theorem RepPL.splice {g : Gh} {cs xs : List PV} {vs us : List Value} (h : RepPL g cs vs) (k : RepPL g xs us) (off : Nat) : RepPL g (splice cs off xs) (vs.take off ++ us ++ vs.drop (off + us.length)) := by
  rw [k.length]
  exact ((h.take off).append k).append (h.drop _)

/-- A store into a box. -/
def evStore (T : Tab) (env : List (Nat × PV)) (bs : List (Loc × Obj)) : Op → Option (List (Loc × Obj))
  | .store t a x => match tyAt T t, opnd env a, cellsP (opnd env x) with
    | some j, .ptr l off, some xs => match objAt bs l with
      | some (.cells cs) => bif Nat.beq xs.length j.size && Nat.ble (off + xs.length) cs.length then some (setObj bs l (.cells (splice cs off xs))) else none
      | _ => none
    | _, _, _ => none
  | _ => none

section
variable {P : Program} {Q : AEx → St → Prop} {st : St} {l rest : List Oper} {o : Oper}
theorem AL.store {T : Tab} (hT : TabOK P T) {nt : Nat} {env : List (Nat × PV)} {bs : List (Loc × Obj)} {bs' : List (Loc × Obj)} (hg : guardV l env o.guard = some true) (he : evStore T env bs o.op = some bs') (hf : fits nt o.dst = true)
    (h : AL P l.toArray rest Q ⟨nt, put env o.dst .any, bs'⟩) : AL P l.toArray (o :: rest) Q ⟨nt, env, bs⟩ := by
  intro g tmps ds w hr
  unfold evStore at he
  split at he
  · rename_i t a x hop
    split at he
    · rename_i j lo off xs hj ha hx
      split at he
      · rename_i cs hcs
        cases hb : Nat.beq xs.length j.size && Nat.ble (off + xs.length) cs.length with
        | false => simp [hb] at he
        | true =>
          simp only [hb, cond_true, Option.some.injEq] at he
          subst he
          simp only [Bool.and_eq_true] at hb
          have hlen := Nat.eq_of_beq_eq_true hb.1
          have hle := Nat.le_of_ble_eq_true hb.2
          have hpa := opnd_rep hr ds a
          rw [ha] at hpa
          have hea : (⟨tmps, ds⟩ : Act).eval a = _ := hpa
          obtain ⟨h1, h2⟩ := cellsP_rep hx (opnd_rep hr ds x)
          generalize hv : (⟨tmps, ds⟩ : Act).eval x = v at h1 h2
          obtain ⟨Ty, vs, m1, m2, m3, m3', m4, m5⟩ := hr.mem.box lo _ hcs
          have hvl := h1.length
          have hcl := m2.length
          have hst := run_storeCells_at (P := P) (g.β lo) off Ty v.cells.toList 0 vs.toArray w m1 (by simp only [List.size_toArray, Nat.add_zero]; omega) h2
          simp only [Nat.add_zero] at hst
          have hrun : (execOp ((⟨tmps, ds⟩ : Act).eval) o).run P w = .ok .skip (w.setRow (g.β lo) (vs.take off ++ v.cells.toList ++ vs.drop (off + v.cells.toList.length)).toArray) := by
            have hsz : v.cells.size = j.size := by rw [← Array.length_toList]; omega
            simp only [execOp, hop, Instr.storeAt, hea, Instr.sureAddr, storeVar, hv, Sem.run_bind, Sem.run_pure, Result.andThen_ok, hT.run_size hj, hsz, ne_eq, not_true_eq_false, if_false]
            rw [hst]
            rfl
          have hspl := (m2.splice h1 off)
          simp only [wpList]
          rw [if_pos (guardV_wanted hr hg)]
          refine .inl ?_
          unfold Oper.wp
          rw [hrun]
          simp only [Oper.upon]
          rw [put_eta]
          have hone : ∀ u ∈ (vs.take off ++ v.cells.toList ++ vs.drop (off + v.cells.toList.length)), u.oneCell' = true := by
            intro u hu
            simp only [List.mem_append] at hu
            rcases hu with (hu | hu) | hu
            · exact m3 u (List.mem_of_mem_take hu)
            · exact h2 u hu
            · exact m3 u (List.mem_of_mem_drop hu)
          obtain ⟨k1, k2⟩ := hr.setBox hcs m4 m5 m1 (o' := .cells (splice cs off xs)) (fun hh => ⟨Ty, _, hh, hspl, hone, m3', m4, m5⟩)
          exact wpList_mono (fun _ _ _ hl => lift_from k2 hl) _ _ _ (h _ _ ds _ (k1.put o.dst hf .any undef trivial ds))
      · cases he
    · cases he
  · cases he
end
end Go.Pv
namespace Go.Pv
open Go.RowKit

/-! ### Appending to an array that one owns -/
theorem run_append_at {P : Program} (w : World) (t ty e : TypeId) (i : TypeInfo) (z : Value) (ht : P.underlying t = some (.slice e)) (hi : P.info? e = some i) (hz : i.zero = some z)
    (hzs : z.cells.size = i.size) (hsz : 0 < i.size) (v : Value) (n : Nat) (xs : List Value) (hown : w.ownsRow 0 e i.size v n xs)
    (a : Addr) (m c : Nat) (news : List Value) (hl : news.length = m * i.size) (hnews : ∀ j u, news[j]? = some u → w.cell? (a.add j) = some u) (h1 : ∀ u ∈ news, u.oneCell' = true)
    (h63 : n + m ≤ maxLen) (hbytes : (n + m) * i.bytes ≤ 140737488355328) :
    ∃ v' w', (Builtin.append_ #[t, t] ty #[v, .slice (some a) m c]).run P w = .ok v' w' ∧ w'.ownsRow 0 e i.size v' (n + m) (xs ++ news) ∧ w.grownBy w' v.ownBlock ∧
      ∀ b, v'.ownBlock = some b → v.ownBlock = some b ∨ w.heap.size ≤ b := by
  obtain ⟨v', w', hr, h2, h3, h4⟩ := run_append_own w 0 t ty e i z i.size i.bytes ht hi hz rfl rfl hzs hsz v n xs hown a m c news hl hnews h1 h63 hbytes (Nat.zero_le _)
  refine ⟨v', w', hr, h2, h3, fun b hb => ?_⟩
  rcases hown.2 with ⟨rfl, rfl⟩ | ⟨g, cap, cur, rfl, _, hg, hnc, hcm, hcs, htake⟩
  · have hx : xs = [] := List.eq_nil_of_length_eq_zero (by simpa using hown.1)
    subst hx
    obtain ⟨v2, w2, hr2, k2, _⟩ := run_append_own w w.heap.size t ty e i z i.size i.bytes ht hi hz rfl rfl hzs hsz (.slice none 0 0) 0 [] (World.ownsRow_nil w _ e i.size) a m c news hl hnews h1 h63 hbytes (Nat.le_refl _)
    rw [hr] at hr2
    simp only [Result.ok.injEq] at hr2
    obtain ⟨rfl, rfl⟩ := hr2
    exact .inr (k2.lt b hb).1
  · by_cases hroom : n + m ≤ cap
    · have hfit : n * i.size + news.length ≤ cur.size := by rw [hl, hcs, ← Nat.add_mul]; exact Nat.mul_le_mul_right _ hroom
      have hr2 := run_append_room (P := P) w t ty e i ht hi g n cap cur hg a m c news hl hnews h1 hroom hfit
      rw [hr] at hr2
      simp only [Result.ok.injEq] at hr2
      obtain ⟨rfl, rfl⟩ := hr2
      exact .inl hb
    · have holds : ∀ j u, xs[j]? = some u → w.cell? ((⟨g, 0, none⟩ : Addr).add j) = some u := hown.cells (g := g) rfl
      have hsmall : n + m ≤ 9223372036854775807 := by simp only [maxLen] at h63; omega
      have hr2 := run_append_grow (P := P) w t ty e i z ht hi hz ⟨g, 0, none⟩ n cap xs hown.1 holds a m c news hl hnews (by omega) (by omega) (growslice_fits (by omega) hbytes)
      rw [hr] at hr2
      simp only [Result.ok.injEq] at hr2
      obtain ⟨rfl, rfl⟩ := hr2
      simp only [Value.ownBlock, Option.some.injEq] at hb
      exact .inr (by omega)

/-- The cells of a data slice, one after the other. -/
theorem sl_cells {π : Prom} {k n : Nat} {f : Nat → D} {b o : Nat} (hE : ∀ i, i < n → ∃ u, RepD π (f i) u ∧ u.cells.size = k ∧ ∀ j c, u.cells[j]? = some c → π b (o + i * k + j) = some c) : ∀ m, m ≤ n →
    ∃ news : List Value, news.length = m * k ∧ (∀ j u, news[j]? = some u → π b (o + j) = some u) ∧ (∀ u ∈ news, u.oneCell' = true) ∧ ∀ i, i < m → RepL π (f i).cells ((news.drop (i * k)).take k)
  | 0, _ => ⟨[], by simp, by simp, by simp, by simp⟩
  | m + 1, hm => by
    obtain ⟨news, h1, h2, h3, h4⟩ := sl_cells hE m (by omega)
    obtain ⟨u, k1, k2, k3⟩ := hE m (by omega)
    have hc := k1.cells
    have hul : u.cells.toList.length = k := by simpa using k2
    refine ⟨news ++ u.cells.toList, by rw [List.length_append, h1, hul, Nat.succ_mul], fun j c hj => ?_, fun c hc' => ?_, fun i hi => ?_⟩
    · by_cases hlt : j < news.length
      · rw [List.getElem?_append_left hlt] at hj
        exact h2 j c hj
      · rw [List.getElem?_append_right (by omega)] at hj
        have := k3 (j - news.length) c (by simpa using hj)
        rw [h1] at this hlt
        rw [show o + j = o + m * k + (j - m * k) by omega]
        exact this
    · rcases List.mem_append.1 hc' with h | h
      · exact h3 c h
      · exact hc.one c h
    · by_cases hlt : i < m
      · have hik : i * k + k ≤ m * k := by rw [← Nat.succ_mul]; exact Nat.mul_le_mul_right k hlt
        have : ((news ++ u.cells.toList).drop (i * k)).take k = (news.drop (i * k)).take k := by
          rw [List.drop_append_of_le_length (by omega), List.take_append_of_le_length (by rw [List.length_drop]; omega)]
        rw [this]
        exact h4 i hlt
      · have : i = m := by omega
        subst this
        have : ((news ++ u.cells.toList).drop (i * k)).take k = u.cells.toList := by
          rw [← h1, List.drop_left, List.take_of_length_le (by omega)]
        rw [this]
        exact hc
end Go.Pv
namespace Go.Pv
open Go.RowKit

theorem objAt_sanB_some {ms : List Loc} {bs : List (Loc × Obj)} {l : Loc} {o0 : Obj} (h : objAt bs l = some o0) : ∃ o, objAt (sanB ms bs) l = some o := by
  unfold sanB
  cases ms with
  | nil => exact ⟨o0, h⟩
  | cons a b =>
    show ∃ o, objAt (sanB0 (a :: b) bs) l = some o
    induction bs with
    | nil => simp [objAt] at h
    | cons x r ih =>
      obtain ⟨m, q⟩ := x
      simp only [sanB0, objAt] at h ⊢
      cases hb : Loc.eqb m l with
      | true => exact ⟨_, rfl⟩
      | false => rw [hb] at h; exact ih h

/-- An array that one owns is another from now on (grown, shrunk, turned), in its place or at a new one. -/
theorem Rel.move {g : Gh} {nt : Nat} {env : List (Nat × PV)} {bs : List (Loc × Obj)} {tmps : Array Value} {w w' : World} (hr : Rel g ⟨nt, env, bs⟩ tmps w) {lo : Loc} {e k n n1 : Nat} {F F' : Nat → List D} {foc : Option (Nat × List PV)}
    (ho : objAt bs lo = some (.arr false e k n F foc)) {u v' : Value} (hu : g.ρ lo = some (u, n)) {cs' : List Value} (hown : w'.ownsRow 0 e k v' n1 cs') (hgr : w.grownBy w' u.ownBlock)
    (hblk : ∀ b, v'.ownBlock = some b → u.ownBlock = some b ∨ w.heap.size ≤ b) (h1 : ∀ c ∈ cs', c.oneCell' = true) (hF : ∀ i, i < n1 → RepL g.π (F' i) ((cs'.drop (i * k)).take k)) :
    ∃ g', Rel g' ⟨nt, sanE [lo] env, setObj (sanB [lo] bs) lo (.arr false e k n1 F' none)⟩ tmps w' ∧ Ext g w g' w' ∧ RepP g' (.sl lo n1) v' := by
  obtain ⟨u0, cs, m1, m2, m3, m4, m5, m6⟩ := hr.mem.box lo _ ho
  rw [hu] at m1
  simp only [Option.some.injEq, Prod.mk.injEq, and_true] at m1
  subst m1
  let g' : Gh := { π := g.π, β := fun l => if l = lo then v'.ownBlock.getD 0 else g.β l, ρ := fun l => if l = lo then some (v', n1) else g.ρ l, ω := fun b => if v'.ownBlock = some b then .box lo else g.ω b, fx := g.fx }
  have hone : v'.oneCell' = true := by
    rcases hown.2 with ⟨rfl, _⟩ | ⟨_, _, _, rfl, _⟩ <;> rfl
  have hag : ∀ l, locIdx [lo] 0 l = none → g'.β l = g.β l ∧ g'.ρ l = g.ρ l := by
    intro l hl
    have : l ≠ lo := by
      have := locIdx_mem.1 hl
      simpa using this
    simp [g', this]
  have hωold : ∀ b, b < w.heap.size → u.ownBlock ≠ some b → g'.ω b = g.ω b := by
    intro b hb hne
    have : v'.ownBlock ≠ some b := by
      intro h
      rcases hblk b h with h | h
      · exact hne h
      · omega
    simp [g', this]
  have hheap : ∀ b, b < w.heap.size → g.ω b ≠ .box lo → w'.heap[b]? = w.heap[b]? ∧ g'.ω b = g.ω b := by
    intro b hb hne
    have hnu : u.ownBlock ≠ some b := fun h => hne (m6 b h).2.1
    exact ⟨hgr.block b hb (fun h => hnu h.symm), hωold b hb hnu⟩
  have hprom : ∀ b, (∃ o, g.π b o ≠ none) → b < w.heap.size ∧ u.ownBlock ≠ some b := by
    rintro b ⟨o, hb⟩
    cases hp : g.π b o with
    | none => exact absurd hp hb
    | some x => exact ⟨World.block_lt_of_cell? w _ (hr.mem.prom b o x hp), fun h => hb ((m6 b h).2.2 o)⟩
  refine ⟨g', ⟨⟨hr.len, fun i => sanE_rep (g2 := g') (Prom.le_refl g.π) hag _ _ _ (hr.env i), ⟨fun l o hl => ?_, fun b o x hp => ?_, hr.mem.glob.to (fun b hb hn => by
      obtain ⟨k1, k2⟩ := hheap b hb (by rw [hn]; simp)
      exact ⟨k1, by rw [k2]; exact hn⟩)⟩⟩, ⟨Prom.le_refl _, hgr.size, hgr.os, hgr.tape, hgr.output, fun i hi => ?_, fun b hb hn => ?_⟩, hone, fun u' hu' => ?_⟩⟩
  · rw [objAt_setObj] at hl
    split at hl
    · rename_i he
      subst he
      obtain ⟨o2, ho2⟩ := objAt_sanB_some (ms := [lo]) ho
      rw [ho2] at hl
      simp only [Option.map_some, Option.some.injEq] at hl
      subst hl
      refine ⟨v', cs', by simp [g'], hown, h1, hF, m5, fun c hc => ⟨by simp [g', hc], by simp [g', hc], fun o => ?_⟩⟩
      show g.π c o = none
      rcases hblk c hc with h | h
      · exact (m6 c h).2.2 o
      · exact prom_fresh hr.mem h o
    · rename_i hne
      obtain ⟨o0, h2, h3⟩ := objAt_sanB hl
      rcases h3 with rfl | ⟨h3, _⟩
      · have hl' : locIdx [lo] 0 l = none := locIdx_mem.2 (by simpa using fun e => hne e.symm)
        refine (hr.mem.box l o0 h2).tr _ (fun ps vs h => sanL_rep (g2 := g') (Prom.le_refl g.π) hag ps vs h) (Prom.le_refl _) (hag l hl').1 (hag l hl').2 rfl (fun b hb hlt => ?_)
        obtain ⟨k1, k2⟩ := hheap b hlt (by rw [hb]; simpa using fun e => hne e.symm)
        exact ⟨k1, by rw [k2]; exact hb, fun _ => rfl⟩
      · cases h3
  · obtain ⟨k1, k2⟩ := hprom b ⟨o, by rw [show g.π b o = some x from hp]; simp⟩
    rw [cell_heap (hgr.block b k1 (fun h => k2 h.symm))]
    exact hr.mem.prom b o x hp
  · have hne : Loc.par i ≠ lo := by
      rintro rfl
      have m5' : g.fx (Loc.par i) = false := m5
      rw [m5'] at hi
      cases hi
    exact ⟨by simp [g', hne], by simp [g', hne], hi⟩
  · obtain ⟨k1, k2⟩ := hheap b hb (by rw [hn]; simp)
    exact ⟨k1, by rw [k2]; exact hn, fun _ => rfl⟩
  · have : g'.ρ lo = some (v', n1) := by simp [g']
    rw [this] at hu'
    simp only [Option.some.injEq, Prod.mk.injEq, and_true] at hu'
    exact hu'

theorem run_append_none {P : Program} (w : World) (t ty e : TypeId) (i : TypeInfo) (ht : P.underlying t = some (.slice e)) (hi : P.info? e = some i) (v : Value) (n : Nat) (xs : List Value) (hown : w.ownsRow 0 e i.size v n xs) (c : Nat) :
    (Builtin.append_ #[t, t] ty #[v, .slice none 0 c]).run P w = .ok v w := by
  rcases hown.2 with ⟨rfl, rfl⟩ | ⟨g, cap, cur, rfl, _, hg, hnc, hcm, hcs, htake⟩
  · simp [Builtin.append_, run_underlying ht, sizeOf, typeInfo, hi, Builtin.lenOf, Builtin.firstCells]
  · simp [Builtin.append_, run_underlying ht, sizeOf, typeInfo, hi, Builtin.lenOf, Builtin.firstCells, hnc, storeCells]

section
variable {P : Program} {Q : AEx → St → Prop} {st : St} {l rest : List Oper} {o : Oper}
theorem AL.append {T : Tab} (hT : TabOK P T) {nt : Nat} {env : List (Nat × PV)} {bs : List (Loc × Obj)} {d : Nat} {s x : Operand} {t : TypeId} {lo : Loc} {n n' e k m : Nat} {f : Nat → D} {F : Nat → List D} {foc : Option (Nat × List PV)} {j : TI}
    (F' : Nat → List D) (hg : guardV l env o.guard = some true) (hop : o.op = .call { callee := .builtin .append, args := #[s, x], argTypes := #[t, t] }) (hs : opnd env s = .sl lo n) (hx : opnd env x = .d (.sl k m f))
    (ho : objAt bs lo = some (.arr false e k n' F foc)) (hfoc : foc = none) (hel : elemOfT T t = some (e, j)) (hk : (Nat.beq j.size k && Nat.blt 0 k && Nat.beq j.zero.cells.size k) = true)
    (hφ : n = n' ∧ n + m ≤ maxLen ∧ (n + m) * j.bytes ≤ 140737488355328) (hF1 : ∀ i, i < n → F' i = F i) (hF2 : ∀ i, i < m → F' (n + i) = (f i).cells) (hdst : o.dst = some d) (hd : Nat.blt d nt = true)
    (h : AL P l.toArray rest Q ⟨nt, (d, .sl lo (n + m)) :: sanE [lo] env, setObj (sanB [lo] bs) lo (.arr false e k (n + m) F' none)⟩) : AL P l.toArray (o :: rest) Q ⟨nt, env, bs⟩ := by
  intro g tmps ds w hr
  subst hfoc
  obtain ⟨rfl, hmax, hby⟩ := hφ
  simp only [Bool.and_eq_true] at hk
  have hk1 := Nat.eq_of_beq_eq_true hk.1.1
  have hk2 : 0 < k := Nat.blt_eq.mp hk.1.2
  have hk3 := Nat.eq_of_beq_eq_true hk.2
  obtain ⟨hu, htj⟩ := elemOfT_spec hT hel
  obtain ⟨i, hi, hi1, hi2, hi3⟩ := hT.inf htj
  have hik : i.size = k := by rw [hi1, hk1]
  obtain ⟨u, cs, m1, m2, m3, m4, m5, m6⟩ := hr.mem.box lo _ ho
  have hps := opnd_rep hr ds s
  rw [hs] at hps
  have hsv := hps.2 u m1
  have hpx := opnd_rep hr ds x
  rw [hx] at hpx
  obtain ⟨a, c, hxv, _, _, hE⟩ := hpx
  have key : ∃ v' w' cs', (Builtin.append_ #[t, t] o.type #[u, .slice a m c]).run P w = .ok v' w' ∧ w'.ownsRow 0 e k v' (n + m) cs' ∧ w.grownBy w' u.ownBlock ∧ (∀ b, v'.ownBlock = some b → u.ownBlock = some b ∨ w.heap.size ≤ b) ∧
      (∀ c ∈ cs', c.oneCell' = true) ∧ ∀ i, i < n + m → RepL g.π (F' i) ((cs'.drop (i * k)).take k) := by
    have hold : ∀ news : List Value, ∀ i, i < n → RepL g.π (F' i) (((cs ++ news).drop (i * k)).take k) := by
      intro news q hq
      have hqk : q * k + k ≤ cs.length := by rw [m2.1, ← Nat.succ_mul]; exact Nat.mul_le_mul_right k hq
      rw [List.drop_append_of_le_length (by omega), List.take_append_of_le_length (by rw [List.length_drop]; omega), hF1 q hq]
      exact m4 q hq
    rcases Nat.eq_zero_or_pos m with h0 | hpos
    · subst h0
      cases a with
      | none =>
        exact ⟨u, w, cs, run_append_none w t o.type e i hu hi u n cs (by rw [hik]; exact m2) c, m2, ⟨rfl, rfl, rfl, Nat.le_refl _, fun _ _ _ => rfl⟩, fun b hb => .inl hb, m3, fun q hq => by simpa using hold [] q hq⟩
      | some ad =>
        obtain ⟨v', w', r1, r2, r3, r4⟩ := run_append_at (P := P) w t o.type e i j.zero hu hi hi3 (by rw [hk3, hik]) (by rw [hik]; exact hk2) u n cs (by rw [hik]; exact m2) ad 0 c [] (by simp) (by simp) (by simp) hmax (by rw [hi2]; exact hby)
        rw [hik] at r2
        exact ⟨v', w', _, r1, r2, r3, r4, by simpa using m3, fun q hq => hold [] q hq⟩
    · obtain ⟨b, q0, rfl, hE'⟩ := hE hpos
      obtain ⟨news, n1, n2, n3, n4⟩ := sl_cells hE' m (Nat.le_refl _)
      obtain ⟨v', w', r1, r2, r3, r4⟩ := run_append_at (P := P) w t o.type e i j.zero hu hi hi3 (by rw [hk3, hik]) (by rw [hik]; exact hk2) u n cs (by rw [hik]; exact m2) ⟨b, q0, none⟩ m c news (by rw [n1, hik])
        (fun q x hq => by rw [add_pl]; exact hr.mem.prom _ _ _ (n2 q x hq)) n3 hmax (by rw [hi2]; exact hby)
      rw [hik] at r2
      refine ⟨v', w', _, r1, r2, r3, r4, fun c hc => ?_, fun q hq => ?_⟩
      · rcases List.mem_append.1 hc with h | h
        · exact m3 c h
        · exact n3 c h
      · by_cases hqn : q < n
        · exact hold news q hqn
        · have hq2 := hF2 (q - n) (by omega)
          rw [show n + (q - n) = q by omega] at hq2
          rw [hq2]
          have : ((cs ++ news).drop (q * k)).take k = (news.drop ((q - n) * k)).take k := by
            have hle : n * k ≤ q * k := Nat.mul_le_mul_right k (by omega)
            rw [List.drop_append, List.drop_eq_nil_of_le (by rw [m2.1]; exact hle), List.nil_append, m2.1, Nat.sub_mul]
          rw [this]
          exact n4 (q - n) (by omega)
  obtain ⟨v', w', cs', r1, r2, r3, r4, r5, r6⟩ := key
  obtain ⟨g', k1, k2, k3⟩ := hr.move ho m1 r2 r3 r4 r5 r6
  simp only [wpList]
  rw [if_pos (guardV_wanted hr hg)]
  refine .inl ?_
  unfold Oper.wp
  have hrun : (execOp ((⟨tmps, ds⟩ : Act).eval) o).run P w = .ok (.value v') w' := by
    simp only [execOp, hop, resolve, invoke, builtin, Sem.run_bind, Sem.run_pure, Result.andThen_ok, List.map_toArray, List.map_cons, List.map_nil, hsv, hxv, r1]
  rw [hrun]
  simp only [Oper.upon]
  rw [put_eta]
  have k4 := k1.put o.dst (by rw [hdst]; exact hd) (.sl lo (n + m)) v' k3 ds
  rw [hdst] at k4 ⊢
  exact wpList_mono (fun _ _ _ hl => lift_from k2 hl) _ _ _ (h g' _ ds _ k4)
end
end Go.Pv
namespace Go.Pv
open Go.RowKit

/-! ### A nil slice becomes an owned array; an owned array becomes data -/
theorem Weak.seed {nt : Nat} {env : List (Nat × PV)} {bs : List (Loc × Obj)} (i d : Nat) (e k : Nat) (F : Nat → List D) (hi : envAt env i = .d (.lit (.slice none 0 0))) (hcl : (cleanE d env && cleanB d bs) = true) :
    Weak ⟨nt, env, bs⟩ ⟨nt, (i, .sl (.loc d) 0) :: env, (.loc d, .arr false e k 0 F none) :: bs⟩ := by
  intro g tmps w hr
  have key := hr.newObj (g' := g.new d w.heap.size (some (.slice none 0 0, 0)) false) (w' := w) (o := .arr false e k 0 F none) hcl rfl (fun l hl => by simp [Gh.new, hl]) (fun c hc => by simp [Gh.new, Nat.ne_of_lt hc])
    (fun c hc => rfl) (Nat.le_refl _) rfl rfl rfl
    ⟨.slice none 0 0, [], by simp [Gh.new], World.ownsRow_nil w 0 e k, by simp, fun i hi => by omega, by simp [Gh.new], fun c hc => by simp [Value.ownBlock] at hc⟩
  refine ⟨_, ⟨key.1.len, fun j => ?_, key.1.mem⟩, key.2⟩
  show RepP _ (envAt ((i, .sl (.loc d) 0) :: env) j) _
  simp only [envAt]
  by_cases hij : i = j
  · subst hij
    simp only [Nat.beq_refl, cond_true]
    have h0 := hr.env i
    rw [show envAt (St.mk nt env bs).env i = envAt env i from rfl, hi] at h0
    obtain ⟨h1, _⟩ := h0
    rw [h1]
    refine ⟨rfl, fun u hu => ?_⟩
    simp only [Gh.new, if_true, Option.some.injEq, Prod.mk.injEq, and_true] at hu
    exact hu
  · rw [nbeqF hij, cond_false]
    exact key.1.env j

def dropObj : List (Loc × Obj) → Loc → List (Loc × Obj)
  | [], _ => []
  | (l, o) :: r, l' => bif Loc.eqb l l' then dropObj r l' else (l, o) :: dropObj r l'
theorem objAt_dropObj : ∀ {bs : List (Loc × Obj)} {l l' : Loc} {o : Obj}, objAt (dropObj bs l) l' = some o → l' ≠ l ∧ objAt bs l' = some o
  | [], l, l', o, h => by simp [dropObj, objAt] at h
  | (m, q) :: r, l, l', o, h => by
    simp only [dropObj] at h
    by_cases hb : Loc.eqb m l = true
    · have := Loc.eqb_iff.1 hb
      subst this
      rw [hb, cond_true] at h
      obtain ⟨h1, h2⟩ := objAt_dropObj h
      refine ⟨h1, ?_⟩
      simp only [objAt]
      have : Loc.eqb m l' = false := by
        cases hc : Loc.eqb m l' with
        | false => rfl
        | true => exact absurd (Loc.eqb_iff.1 hc).symm h1
      rw [this]
      exact h2
    · have hn : Loc.eqb m l = false := by simpa using hb
      rw [hn, cond_false] at h
      simp only [objAt] at h ⊢
      cases hc : Loc.eqb m l' with
      | true =>
        rw [hc] at h
        refine ⟨fun e => ?_, h⟩
        subst e
        exact hb hc
      | false =>
        rw [hc] at h
        exact objAt_dropObj h

theorem repD_of_cells {π : Prom} {x : D} {vs : List Value} (h : RepL π x.cells vs) : ∃ v : Value, RepD π x v ∧ v.cells.toList = vs := by
  cases x with
  | agg cs => exact ⟨.agg vs.toArray, ⟨vs, rfl, h⟩, by simp [Value.cells]⟩
  | lit u =>
    obtain ⟨v, vs', rfl, h1, h2, h3⟩ := h
    cases h3
    exact ⟨v, h2, by rw [one_cells h1]⟩
  | ifc t y =>
    obtain ⟨v, vs', rfl, h1, h2, h3⟩ := h
    cases h3
    exact ⟨v, h2, by rw [one_cells h1]⟩
  | sl k n f =>
    obtain ⟨v, vs', rfl, h1, h2, h3⟩ := h
    cases h3
    exact ⟨v, h2, by rw [one_cells h1]⟩

/-- What is promised when an array is given up. -/
def Gh.freeze (g : Gh) (u : Value) (cs : List Value) : Gh := { g with
  π := fun b o => if u.ownBlock = some b then cs[o]? else g.π b o
  ω := fun b => if u.ownBlock = some b then .none else g.ω b }

theorem Weak.freeze {nt : Nat} {env : List (Nat × PV)} {bs : List (Loc × Obj)} (i : Nat) (lo : Loc) {b : Bool} {e k n n' : Nat} {F : Nat → List D} {foc : Option (Nat × List PV)} (f : Nat → D) (hi : envAt env i = .sl lo n) (ho : objAt bs lo = some (.arr b e k n' F foc)) (hfoc : foc = none)
    (hn : n = n') (hf : ∀ i, i < n → (f i).cells = F i) :
    Weak ⟨nt, env, bs⟩ ⟨nt, (i, .d (.sl k n f)) :: env, dropObj bs lo⟩ := by
  subst hfoc hn
  intro g tmps w hr
  obtain ⟨u, cs, m1, m2, m3, m4, m5, m6⟩ := hr.mem.box lo _ ho
  have hle : Prom.le g.π (g.freeze u cs).π := by
    intro c o v hv
    have hne : u.ownBlock ≠ some c := fun h => by rw [(m6 c h).2.2 o] at hv; cases hv
    simp [Gh.freeze, hne, hv]
  have hgle : Gh.le g (g.freeze u cs) := ⟨hle, fun _ => rfl, fun _ => rfl⟩
  refine ⟨g.freeze u cs, ⟨hr.len, fun j => ?_, ⟨fun l o hl => ?_, fun c o v hv => ?_, hr.mem.glob.to (fun c _ hn => by
      have hne : u.ownBlock ≠ some c := fun h => by rw [(m6 c h).2.1] at hn; cases hn
      exact ⟨rfl, by simp [Gh.freeze, hne, hn]⟩)⟩⟩, ⟨hle, Nat.le_refl _, rfl, rfl, rfl, fun i hi => ⟨rfl, rfl, hi⟩, fun c hc hn => ?_⟩⟩
  · show RepP _ (envAt ((i, .d (.sl k n f)) :: env) j) _
    simp only [envAt]
    by_cases hij : i = j
    · subst hij
      simp only [Nat.beq_refl, cond_true]
      have h0 := hr.env i
      rw [show envAt (St.mk nt env bs).env i = envAt env i from rfl, hi] at h0
      rw [h0.2 u m1]
      rcases m2.2 with ⟨rfl, rfl⟩ | ⟨c, cap, cur, rfl, _, q1, q2, q3, q4, q5⟩
      · exact ⟨none, 0, rfl, Nat.le_refl _, by simp [maxLen], fun h => by omega⟩
      · refine ⟨_, cap, rfl, q2, q3, fun _ => ⟨c, 0, rfl, fun q hq => ?_⟩⟩
        have hm := m4 q hq
        have hm' : RepL (g.freeze (Value.slice (some ⟨c, 0, none⟩) n cap) cs).π (f q).cells ((cs.drop (q * k)).take k) := by
          rw [hf q hq]
          exact RepL.mono hle _ _ hm
        obtain ⟨v, hv1, hv2⟩ := repD_of_cells hm'
        have hqk : q * k + k ≤ cs.length := by rw [m2.1, ← Nat.succ_mul]; exact Nat.mul_le_mul_right k hq
        refine ⟨v, hv1, ?_, fun j x hx => ?_⟩
        · rw [← Array.length_toList, hv2, List.length_take, List.length_drop]; omega
        · have hx' : v.cells.toList[j]? = some x := by simpa using hx
          rw [hv2, List.getElem?_take] at hx'
          split at hx'
          · rw [List.getElem?_drop] at hx'
            simp [Gh.freeze, Value.ownBlock, hx']
          · cases hx'
    · rw [nbeqF hij, cond_false]
      exact RepP.mono hgle _ _ (hr.env j)
  · obtain ⟨h1, h2⟩ := objAt_dropObj hl
    have := (hr.mem.box l o h2).tr (g' := g.freeze u cs) (w' := w) (l' := l) id (fun ps vs h => RepPL.mono hgle ps vs h) hle rfl rfl rfl (fun c hc _ => by
      have hne : u.ownBlock ≠ some c := fun h => by
        have := (m6 c h).2.1
        rw [hc] at this
        injection this with this
        exact h1 this
      exact ⟨rfl, by simp [Gh.freeze, hne, hc], fun o => by simp [Gh.freeze, hne]⟩)
    rwa [Obj.map_id] at this
  · by_cases hne : u.ownBlock = some c
    · have hv' : cs[o]? = some v := by simpa [Gh.freeze, hne] using hv
      have := World.ownsRow.cells m2 hne o v hv'
      rwa [add_pl, Nat.zero_add] at this
    · have hv' : g.π c o = some v := by simpa [Gh.freeze, hne] using hv
      exact hr.mem.prom c o v hv'
  · have hne : u.ownBlock ≠ some c := fun h => by rw [(m6 c h).2.1] at hn; cases hn
    exact ⟨rfl, by simp [Gh.freeze, hne, hn], fun o => by simp [Gh.freeze, hne]⟩
end Go.Pv
namespace Go.Pv
open Go.RowKit

/-! ### Structs and slices built of parts -/
theorem foldl_set (off : Nat) : ∀ (xs : List Value) (j0 : Nat) (cs : Array Value), off + j0 + xs.length ≤ cs.size →
    ((xs.zipIdx j0).foldl (fun cs (x : Value × Nat) => cs.setIfInBounds (off + x.2) x.1) cs).toList = cs.toList.take (off + j0) ++ xs ++ cs.toList.drop (off + j0 + xs.length)
  | [], j0, cs, _ => by simp
  | x :: xs, j0, cs, h => by
    simp only [List.length_cons] at h
    simp only [List.zipIdx_cons, List.foldl_cons]
    rw [foldl_set off xs (j0 + 1) _ (by simp; omega)]
    have hlt : off + j0 < cs.toList.length := by simp; omega
    have e1 : (cs.setIfInBounds (off + j0) x).toList = cs.toList.take (off + j0) ++ x :: cs.toList.drop (off + j0 + 1) := by
      rw [Array.toList_setIfInBounds, List.set_eq_take_append_cons_drop, if_pos hlt]
    rw [e1]
    have hl : (cs.toList.take (off + j0)).length = off + j0 := by rw [List.length_take]; omega
    have e2 : (cs.toList.take (off + j0) ++ x :: cs.toList.drop (off + j0 + 1)).take (off + (j0 + 1)) = cs.toList.take (off + j0) ++ [x] := by
      rw [List.take_append, hl, List.take_of_length_le (by omega), show off + (j0 + 1) - (off + j0) = 1 by omega]
      rfl
    have e3 : (cs.toList.take (off + j0) ++ x :: cs.toList.drop (off + j0 + 1)).drop (off + (j0 + 1) + xs.length) = cs.toList.drop (off + j0 + (xs.length + 1)) := by
      rw [List.drop_append, hl, List.drop_eq_nil_of_le (by omega), List.nil_append, show off + (j0 + 1) + xs.length - (off + j0) = xs.length + 1 by omega, List.drop_succ_cons, List.drop_drop]
      congr 1
      omega
    rw [e2, e3]
    simp

def fillP (place : Nat → Option (Nat × Nat)) : List PV → List (Nat × PV) → Option (List PV)
  | cs, [] => some cs
  | cs, (i, p) :: r => match place i, cellsP p with
    | some (off, sz), some xs => bif Nat.beq xs.length sz && Nat.ble (off + xs.length) cs.length then fillP place (splice cs off xs) r else none
    | _, _ => none
theorem fillP_sound {g : Gh} {place : Nat → Option (Nat × Nat)} : ∀ {parts : List (Nat × PV)} {vals : List (Nat × Value)} {cs cs' : List PV} {vs : Array Value}, fillP place cs parts = some cs' → RepPL g cs vs.toList → (∀ v ∈ vs.toList, v.oneCell' = true) →
    vals.map (·.1) = parts.map (·.1) → RepPL g (parts.map (·.2)) (vals.map (·.2)) → ∃ vs', Instr.fill place vs vals = some vs' ∧ RepPL g cs' vs'.toList ∧ ∀ v ∈ vs'.toList, v.oneCell' = true
  | [], vals, cs, cs', vs, h, hc, h1, he, hp => by
    simp only [fillP, Option.some.injEq] at h
    subst h
    cases vals with
    | nil => exact ⟨vs, rfl, hc, h1⟩
    | cons a b => simp at he
  | (i, p) :: r, vals, cs, cs', vs, h, hc, h1, he, hp => by
    cases vals with
    | nil => simp at he
    | cons a b =>
      obtain ⟨i', v⟩ := a
      simp only [List.map_cons, List.cons.injEq] at he
      obtain ⟨rfl, he⟩ := he
      obtain ⟨v', vs2, e, hv, hp'⟩ := hp
      simp only [List.map_cons, List.cons.injEq] at e
      obtain ⟨rfl, rfl⟩ := e
      simp only [fillP] at h
      split at h
      · rename_i off sz xs hpl hxs
        cases hb : Nat.beq xs.length sz && Nat.ble (off + xs.length) cs.length with
        | false => simp [hb] at h
        | true =>
          rw [hb, cond_true] at h
          simp only [Bool.and_eq_true] at hb
          have hsz := Nat.eq_of_beq_eq_true hb.1
          have hle := Nat.le_of_ble_eq_true hb.2
          obtain ⟨k1, k2⟩ := cellsP_rep hxs hv
          have hl1 := k1.length
          have hl2 := hc.length
          have hvs : v.cells.size = xs.length := by simpa using hl1
          have hcs : vs.size = cs.length := by simpa using hl2
          have hfold : (v.cells.zipIdx.foldl (fun cs (x : Value × Nat) => cs.setIfInBounds (off + x.2) x.1) vs).toList = vs.toList.take off ++ v.cells.toList ++ vs.toList.drop (off + v.cells.toList.length) := by
            rw [← Array.foldl_toList, Array.toList_zipIdx]
            have := foldl_set off v.cells.toList 0 vs (by simp; omega)
            simpa using this
          have hone : ∀ u ∈ (v.cells.zipIdx.foldl (fun cs (x : Value × Nat) => cs.setIfInBounds (off + x.2) x.1) vs).toList, u.oneCell' = true := by
            rw [hfold]
            intro u hu
            simp only [List.mem_append] at hu
            rcases hu with (hu | hu) | hu
            · exact h1 u (List.mem_of_mem_take hu)
            · exact k2 u hu
            · exact h1 u (List.mem_of_mem_drop hu)
          obtain ⟨vs', m1, m2, m3⟩ := fillP_sound (vs := v.cells.zipIdx.foldl (fun cs (x : Value × Nat) => cs.setIfInBounds (off + x.2) x.1) vs) h (by rw [hfold]; exact hc.splice k1 off) hone he hp'
          refine ⟨vs', ?_, m2, m3⟩
          simp only [Instr.fill, hpl]
          rw [if_neg (by simp; omega)]
          exact m1
      · cases h

def placesT (T : Tab) : List (Nat × Nat) → Option (List (Nat × Nat))
  | [] => some []
  | (off, ty) :: r => match tyAt T ty, placesT T r with
    | some i, some ps => some ((off, i.size) :: ps)
    | _, _ => none
theorem placesT_sound {P : Program} {T : Tab} (hT : TabOK P T) : ∀ {fs : List Field} {ps : List (Nat × Nat)}, placesT T (fs.map fun f => (f.offset, f.type)) = some ps → fs.mapM (fun f => (P.info? f.type).map fun i => (f.offset, i.size)) = some ps
  | [], ps, h => by simp only [List.map_nil, placesT, Option.some.injEq] at h; subst h; rfl
  | f :: fs, ps, h => by
    simp only [List.map_cons, placesT] at h
    split at h
    · rename_i i qs hi hq
      simp only [Option.some.injEq] at h
      subst h
      obtain ⟨x, hx, h1, _⟩ := hT.inf hi
      simp [List.mapM_cons, hx, h1, placesT_sound hT hq]
    · cases h

def evBuild (T : Tab) (t : Nat) (parts : List (Nat × PV)) : Option (PV × Prop) :=
  match tyAt T t with
  | some i => match cellsP (constD i.zero) with
    | some zs => match i.tk with
      | .st fs => match placesT T fs with
        | some ps => match fillP (fun i => ps.toArray[i]?) zs parts with
          | some cs => some (mkAg cs, True)
          | none => none
        | none => none
      | .arr _ e => match tyAt T e with
        | some j => match fillP (fun i => some (i * j.size, j.size)) zs parts with
          | some cs => some (mkAg cs, True)
          | none => none
        | none => none
      | _ => none
    | none => none
  | none => none

theorem evBuild_sound {P : Program} {T : Tab} (hT : TabOK P T) {g : Gh} {w : World} {t : Nat} {parts : List (Nat × PV)} {vals : List (Nat × Value)} {p : PV} {φ : Prop} (h : evBuild T t parts = some (p, φ))
    (he : vals.map (·.1) = parts.map (·.1)) (hp : RepPL g (parts.map (·.2)) (vals.map (·.2))) : ∃ v, (Instr.build t vals.toArray).run P w = .ok v w ∧ RepP g p v := by
  unfold evBuild at h
  split at h
  · rename_i i hi
    obtain ⟨d, hd, ed⟩ := hT.und hi
    obtain ⟨x, hx, hx1, hx2, hx3⟩ := hT.inf hi
    split at h
    · rename_i zs hzs
      obtain ⟨z1, z2⟩ := cellsP_rep hzs (constD_rep g i.zero)
      split at h
      · rename_i fs hk
        split at h
        · rename_i ps hps
          split at h
          · rename_i cs hcs
            simp only [Option.some.injEq, Prod.mk.injEq] at h
            obtain ⟨rfl, _⟩ := h
            obtain ⟨vs', m1, m2, m3⟩ := fillP_sound hcs z1 z2 he hp
            rw [hk] at ed
            cases d <;> simp only [tkOf, TK.st.injEq, reduceCtorEq] at ed
            subst ed
            refine ⟨.agg vs', run_build w t vals.toArray vs' ?_, ?_⟩
            · simp only [Program.built, hx, hd, hx3, placesT_sound hT hps]
              exact m1
            · have := mkAg_rep m2 m3
              simpa using this
          · cases h
        · cases h
      · rename_i n e hk
        split at h
        · rename_i j hj
          split at h
          · rename_i cs hcs
            simp only [Option.some.injEq, Prod.mk.injEq] at h
            obtain ⟨rfl, _⟩ := h
            obtain ⟨vs', m1, m2, m3⟩ := fillP_sound hcs z1 z2 he hp
            rw [hk] at ed
            cases d <;> simp only [tkOf, TK.arr.injEq, reduceCtorEq] at ed
            obtain ⟨rfl, rfl⟩ := ed
            obtain ⟨y, hy, hy1, hy2, hy3⟩ := hT.inf hj
            refine ⟨.agg vs', run_build w t vals.toArray vs' ?_, ?_⟩
            · simp only [Program.built, hx, hd, hx3, hy, hy1]
              exact m1
            · have := mkAg_rep m2 m3
              simpa using this
          · cases h
        · cases h
      · cases h
    · cases h
  · cases h
end Go.Pv
namespace Go.Pv
open Go.RowKit

theorem repPL_any {g : Gh} : ∀ (vs : List Value), RepPL g (List.replicate vs.length .any) vs
  | [] => rfl
  | v :: vs => ⟨v, vs, rfl, trivial, repPL_any vs⟩

theorem run_bslice {P : Program} (w : World) (t e : TypeId) (len : Nat) (parts : Array (Nat × Value)) (cells : Array Value) (ie : TypeInfo) (z : Value)
    (hu : P.underlying t = some (.slice e)) (hie : P.info? e = some ie) (hz : ie.zero = some z) (hsmall : len * ie.size ≤ 2 ^ 24)
    (h : Instr.fill (fun i => some (i * ie.size, ie.size)) (if len * ie.size = 0 then #[] else ((Array.range (len * ie.size)).map (z.cells[· % z.cells.size]!))) parts.toList = some cells) :
    (Instr.buildSlice t len parts).run P w = .ok (.slice (some ⟨w.heap.size, 0, none⟩) len len) (w.alloc (.cells cells e)) := by
  have hs : ¬ len * ie.size > 2 ^ 24 := by omega
  by_cases h0 : len * ie.size = 0
  · rw [if_pos h0] at h
    have hr : Array.range 0 = #[] := by apply Array.ext'; simp
    simp [Instr.buildSlice, run_underlying hu, sizeOf, typeInfo, hie, h0, hr, h, newRow]
  · rw [if_neg h0] at h
    exact run_buildSlice w t e len parts cells ie z hu hie hz hs h0 h

section
variable {P : Program} {Q : AEx → St → Prop} {st : St} {l rest : List Oper} {o : Oper}
theorem AL.bslice {T : Tab} (hT : TabOK P T) {nt : Nat} {env : List (Nat × PV)} {bs : List (Loc × Obj)} {d t e len k : Nat} {parts : Array (Nat × Operand)} {j : TI} {cs : List PV} {xs : List D}
    (F : Nat → List D) (hg : guardV l env o.guard = some true) (hop : o.op = .buildSlice t len parts) (hel : elemOfT T t = some (e, j)) (hk : j.size = k)
    (hz : (j.zero.cells.toList.all Value.oneCell' && Nat.beq j.zero.cells.size j.size && Nat.blt 0 j.size && Nat.ble (len * j.size) 16777216) = true)
    (hfill : fillP (fun i => some (i * j.size, j.size)) (List.replicate (len * j.size) .any) (parts.toList.map fun x => (x.1, opnd env x.2)) = some cs) (hxs : toDs cs = some xs)
    (hF : ∀ i, i < len → F i = (xs.drop (i * k)).take k) (hdst : o.dst = some d) (hd : Nat.blt d nt = true) (hcl : (cleanE d env && cleanB d bs) = true)
    (h : AL P l.toArray rest Q ⟨nt, (d, .sl (.loc d) len) :: env, (.loc d, .arr false e k len F none) :: bs⟩) : AL P l.toArray (o :: rest) Q ⟨nt, env, bs⟩ := by
  intro g tmps ds w hr
  subst hk
  simp only [Bool.and_eq_true] at hz
  have hz1 : ∀ v ∈ j.zero.cells.toList, v.oneCell' = true := fun v hv => List.all_eq_true.1 hz.1.1.1 v hv
  have hz2 := Nat.eq_of_beq_eq_true hz.1.1.2
  have hz3 : 0 < j.size := Nat.blt_eq.mp hz.1.2
  have hz4 := Nat.le_of_ble_eq_true hz.2
  obtain ⟨hu, htj⟩ := elemOfT_spec hT hel
  obtain ⟨i, hi, hi1, hi2, hi3⟩ := hT.inf htj
  let c0 : Array Value := if len * j.size = 0 then #[] else ((Array.range (len * j.size)).map (j.zero.cells[· % j.zero.cells.size]!))
  have hc0 : c0.toList.length = len * j.size := by
    simp only [c0]
    split <;> simp_all
  have hc1 : ∀ v ∈ c0.toList, v.oneCell' = true := by
    intro v hv
    simp only [c0] at hv
    split at hv
    · simp at hv
    · simp only [Array.toList_map, List.mem_map] at hv
      obtain ⟨q, _, rfl⟩ := hv
      have hlt : q % j.zero.cells.size < j.zero.cells.size := Nat.mod_lt _ (by omega)
      have hq : j.zero.cells[q % j.zero.cells.size]! = j.zero.cells[q % j.zero.cells.size]'hlt := getElem!_pos j.zero.cells _ hlt
      rw [hq]
      exact hz1 _ (by simp)
  have hany : RepPL g (List.replicate (len * j.size) .any) c0.toList := by rw [← hc0]; exact repPL_any _
  obtain ⟨vs', m1, m2, m3⟩ := fillP_sound (vals := parts.toList.map fun x => (x.1, (⟨tmps, ds⟩ : Act).eval x.2)) hfill hany hc1 (by simp) (by
    have := repPL_map (opnd_rep hr ds) (parts.toList.map (·.2))
    simpa [List.map_map, Function.comp_def] using this)
  have hlen : vs'.toList.length = len * j.size := by
    have h1 : cs.length = len * j.size := by
      have : ∀ (ps : List (Nat × PV)) (a b : List PV), fillP (fun i => some (i * j.size, j.size)) a ps = some b → b.length = a.length := by
        intro ps
        induction ps with
        | nil => intro a b h; simp only [fillP, Option.some.injEq] at h; rw [h]
        | cons p r ih =>
          intro a b h
          obtain ⟨q, p⟩ := p
          simp only [fillP] at h
          split at h
          · rename_i off sz ys _ _
            cases hb : Nat.beq ys.length sz && Nat.ble (off + ys.length) a.length with
            | false => simp [hb] at h
            | true =>
              rw [hb, cond_true] at h
              simp only [Bool.and_eq_true] at hb
              have := Nat.le_of_ble_eq_true hb.2
              rw [ih _ _ h]
              simp [splice]
              omega
          · cases h
      have := this _ _ _ hfill
      simpa using this
    rw [m2.length, h1]
  have hD := toDs_rep hxs m2 m3
  have hrun : (execOp ((⟨tmps, ds⟩ : Act).eval) o).run P w = .ok (.value (.slice (some ⟨w.heap.size, 0, none⟩) len len)) (w.alloc (.cells vs' e)) := by
    have hb := run_bslice (P := P) w t e len ((parts.toList.map fun x => (x.1, (⟨tmps, ds⟩ : Act).eval x.2)).toArray) vs' i j.zero hu hi hi3 (by rw [hi1]; omega) (by rw [hi1]; simpa [c0] using m1)
    have ha : (parts.map fun x => (x.1, (⟨tmps, ds⟩ : Act).eval x.2)) = (parts.toList.map fun x => (x.1, (⟨tmps, ds⟩ : Act).eval x.2)).toArray := by apply Array.ext'; simp
    simp only [execOp, hop, Sem.run_bind]
    rw [ha, hb]
    rfl
  have key := hr.newObj (g' := g.new d w.heap.size (some (.slice (some ⟨w.heap.size, 0, none⟩) len len, len)) false) (w' := w.alloc (.cells vs' e)) (o := .arr false e j.size len F none) hcl rfl (fun l hl => by simp [Gh.new, hl]) (fun c hc => by simp [Gh.new, Nat.ne_of_lt hc])
    (fun c hc => heap_alloc_old w _ hc) (by simp) rfl rfl rfl
    ⟨.slice (some ⟨w.heap.size, 0, none⟩) len len, vs'.toList, by simp [Gh.new], ⟨hlen, .inr ⟨w.heap.size, len, vs', rfl, Nat.zero_le _, heap_alloc_new w _, Nat.le_refl _, by
        have : len * 1 ≤ len * j.size := Nat.mul_le_mul_left len hz3
        simp only [maxLen]; omega, by simpa using hlen, by rw [List.take_of_length_le (by omega)]⟩⟩, m3, fun q hq => by
        show RepL g.π (F q) _
        rw [hF q hq]
        exact (hD.drop _).take _, by simp [Gh.new], fun c hc => by
        simp only [Value.ownBlock, Option.some.injEq] at hc
        subst hc
        exact ⟨by simp [Gh.new], by simp [Gh.new], fun o => prom_fresh hr.mem (Nat.le_refl _) o⟩⟩
  simp only [wpList]
  rw [if_pos (guardV_wanted hr hg)]
  refine .inl ?_
  unfold Oper.wp
  rw [hrun]
  simp only [Oper.upon]
  rw [put_eta]
  have k4 := key.1.put o.dst (by rw [hdst]; exact hd) (.sl (.loc d) len) (.slice (some ⟨w.heap.size, 0, none⟩) len len) ⟨rfl, fun u hu => by
    simp only [Gh.new, if_true, Option.some.injEq, Prod.mk.injEq, and_true] at hu
    exact hu⟩ ds
  rw [hdst] at k4 ⊢
  exact wpList_mono (fun _ _ _ hl => lift_from key.2 hl) _ _ _ (h _ _ ds _ k4)
end
end Go.Pv
namespace Go.Pv
open Go.RowKit

/-! ### The value operations, with structs built of parts -/
def evW (T : Tab) (env : List (Nat × PV)) (bs : List (Loc × Obj)) (o : Op) : Option (PV × Prop) :=
  match o with
  | .build t parts => evBuild T t (parts.toList.map fun x => (x.1, opnd env x.2))
  | o => evV T env bs o
theorem evW_sound {P : Program} {T : Tab} (hT : TabOK P T) {g : Gh} {w : World} {env : List (Nat × PV)} {bs : List (Loc × Obj)} {ρ : Operand → Value} (hρ : ∀ x, RepP g (opnd env x) (ρ x)) (hm : Mem g bs w)
    (o : Oper) {p : PV} {φ : Prop} (h : evW T env bs o.op = some (p, φ)) (hφ : φ) : ∃ v, (execOp ρ o).run P w = .ok (.value v) w ∧ RepP g p v := by
  unfold evW at h
  split at h
  · rename_i t parts hop
    obtain ⟨v, h1, h2⟩ := evBuild_sound hT (w := w) (vals := parts.toList.map fun x => (x.1, ρ x.2)) h (by simp) (by
      have := repPL_map hρ (parts.toList.map (·.2))
      simpa [List.map_map, Function.comp_def] using this)
    refine ⟨v, ?_, h2⟩
    have ha : (parts.map fun x => (x.1, ρ x.2)) = (parts.toList.map fun x => (x.1, ρ x.2)).toArray := by apply Array.ext'; simp
    simp only [execOp, hop, Sem.run_bind]
    rw [ha, h1]
    rfl
  · exact evV_sound hT hρ hm o h hφ

section
variable {P : Program} {Q : AEx → St → Prop} {l rest : List Oper} {o : Oper}
theorem AL.ev {T : Tab} (hT : TabOK P T) {nt : Nat} {env : List (Nat × PV)} {bs : List (Loc × Obj)} {p : PV} {φ : Prop} (hg : guardV l env o.guard = some true)
    (he : evW T env bs o.op = some (p, φ)) (hφ : φ) {d : Nat} (hdst : o.dst = some d) (hd : Nat.blt d nt = true)
    (h : AL P l.toArray rest Q ⟨nt, (d, p) :: env, bs⟩) : AL P l.toArray (o :: rest) Q ⟨nt, env, bs⟩ := by
  intro g tmps ds w hr
  obtain ⟨v, h1, h2⟩ := evW_sound hT (opnd_rep hr ds) hr.mem o he hφ
  simp only [wpList]
  rw [if_pos (guardV_wanted hr hg)]
  refine .inl ?_
  unfold Oper.wp
  rw [h1]
  simp only [Oper.upon]
  rw [put_eta]
  have := hr.put o.dst (by rw [hdst]; exact hd) p v h2 ds
  rw [hdst] at this ⊢
  exact h g _ ds w this
end
end Go.Pv
namespace Go.Pv
open Go.RowKit

/-! ### Stores into an element of an array -/
theorem spl_get {α : Type} (l vs : List α) (p x : Nat) (h : p + vs.length ≤ l.length) : (l.take p ++ vs ++ l.drop (p + vs.length))[x]? = if x < p then l[x]? else if x < p + vs.length then vs[x - p]? else l[x]? := by
  have hl : (l.take p).length = p := by rw [List.length_take]; omega
  by_cases h1 : x < p
  · rw [if_pos h1, List.append_assoc, List.getElem?_append_left (by omega), List.getElem?_take, if_pos h1]
  · rw [if_neg h1]
    by_cases h2 : x < p + vs.length
    · rw [if_pos h2, List.append_assoc, List.getElem?_append_right (by omega), List.getElem?_append_left (by omega), hl]
    · rw [if_neg h2, List.getElem?_append_right (by rw [List.length_append]; omega), List.length_append, hl, List.getElem?_drop]
      congr 1
      omega
theorem spl_len {α : Type} (l vs : List α) (p : Nat) (h : p + vs.length ≤ l.length) : (l.take p ++ vs ++ l.drop (p + vs.length)).length = l.length := by
  simp
  omega
/-- Element q of rows of k cells behind a change within element i. -/
theorem spl_elem {α : Type} (l vs : List α) {k n i o q : Nat} (hl : l.length = n * k) (hi : i < n) (hq : q < n) (ho : o + vs.length ≤ k) :
    ((l.take (i * k + o) ++ vs ++ l.drop (i * k + o + vs.length)).drop (q * k)).take k =
      if q = i then ((l.drop (i * k)).take k).take o ++ vs ++ ((l.drop (i * k)).take k).drop (o + vs.length) else (l.drop (q * k)).take k := by
  have hik : i * k + k ≤ n * k := by rw [← Nat.succ_mul]; exact Nat.mul_le_mul_right k hi
  have hqk : q * k + k ≤ n * k := by rw [← Nat.succ_mul]; exact Nat.mul_le_mul_right k hq
  have hlen : ((l.drop (i * k)).take k).length = k := by rw [List.length_take, List.length_drop]; omega
  apply List.ext_getElem?
  intro x
  rw [List.getElem?_take]
  by_cases hx : x < k
  · rw [if_pos hx, List.getElem?_drop, spl_get _ _ _ _ (by omega)]
    by_cases hqi : q = i
    · subst hqi
      rw [if_pos rfl, spl_get _ _ _ _ (by omega)]
      by_cases h1 : x < o
      · rw [if_pos (by omega), if_pos h1, List.getElem?_take, if_pos hx, List.getElem?_drop]
      · rw [if_neg (by omega), if_neg h1]
        by_cases h2 : x < o + vs.length
        · rw [if_pos (by omega), if_pos h2]
          congr 1
          omega
        · rw [if_neg (by omega), if_neg h2, List.getElem?_take, if_pos hx, List.getElem?_drop]
    · rw [if_neg hqi, List.getElem?_take, if_pos hx, List.getElem?_drop]
      rcases Nat.lt_or_gt_of_ne hqi with h | h
      · have : q * k + k ≤ i * k := by rw [← Nat.succ_mul]; exact Nat.mul_le_mul_right k h
        rw [if_pos (by omega)]
      · have : i * k + k ≤ q * k := by rw [← Nat.succ_mul]; exact Nat.mul_le_mul_right k h
        rw [if_neg (by omega), if_neg (by omega)]
  · rw [if_neg hx]
    by_cases hqi : q = i
    · subst hqi
      rw [if_pos rfl, List.getElem?_eq_none (by rw [spl_len _ _ _ (by omega)]; omega)]
    · rw [if_neg hqi, List.getElem?_eq_none (by rw [List.length_take, List.length_drop]; omega)]
end Go.Pv
namespace Go.Pv
open Go.RowKit

theorem RepL.append {π : Prom} : ∀ {xs ys : List D} {vs us : List Value}, RepL π xs vs → RepL π ys us → RepL π (xs ++ ys) (vs ++ us)
  | [], _, _, _, h, k => by cases h; exact k
  | _ :: _, _, _, us, h, k => by obtain ⟨v, vs', rfl, h1, h2, h3⟩ := h; exact ⟨v, vs' ++ us, rfl, h1, h2, h3.append k⟩

section
variable {P : Program} {Q : AEx → St → Prop} {st : St} {l rest : List Oper} {o : Oper}
/-- A store of data into element i of an array. -/
theorem AL.storeE {T : Tab} (hT : TabOK P T) {nt : Nat} {env : List (Nat × PV)} {bs : List (Loc × Obj)} {t e k n i off : Nat} {a x : Operand} {lo : Loc} {b : Bool} {j : TI} {F : Nat → List D} {foc : Option (Nat × List PV)} {xs : List PV} {ds' : List D}
    (F' : Nat → List D) (hg : guardV l env o.guard = some true) (hop : o.op = .store t a x) (htj : tyAt T t = some j) (ha : opnd env a = .pe lo k i off) (hx : cellsP (opnd env x) = some xs) (hds : toDs xs = some ds')
    (ho : objAt bs lo = some (.arr b e k n F foc)) (hfoc : foc = none) (hk : (Nat.beq xs.length j.size && Nat.ble (off + xs.length) k) = true) (hi : i < n)
    (hF1 : F' i = (F i).take off ++ ds' ++ (F i).drop (off + ds'.length)) (hF2 : ∀ q, q < n → q ≠ i → F' q = F q) (hf : fits nt o.dst = true)
    (h : AL P l.toArray rest Q ⟨nt, put env o.dst .any, setObj bs lo (.arr b e k n F' none)⟩) : AL P l.toArray (o :: rest) Q ⟨nt, env, bs⟩ := by
  intro g tmps ds w hr
  subst hfoc
  simp only [Bool.and_eq_true] at hk
  have hlen := Nat.eq_of_beq_eq_true hk.1
  have hle := Nat.le_of_ble_eq_true hk.2
  obtain ⟨u, cs, m1, m2, m3, m4, m5, m6⟩ := hr.mem.box lo _ ho
  obtain ⟨hcl, m2'⟩ := m2
  rcases m2' with ⟨_, h0⟩ | ⟨c, cap, cur, rfl, _, q1, q2, q3, q4, q5⟩
  · omega
  have hc := m6 c rfl
  have hpa := opnd_rep hr ds a
  rw [ha] at hpa
  have hea : (⟨tmps, ds⟩ : Act).eval a = .pointer (some ⟨g.β lo, i * k + off, none⟩) := hpa
  obtain ⟨h1, h2⟩ := cellsP_rep hx (opnd_rep hr ds x)
  generalize hv : (⟨tmps, ds⟩ : Act).eval x = v at h1 h2
  have hvl := h1.length
  have hD := toDs_rep hds h1 h2
  have hDl : ds'.length = xs.length := by rw [← hvl, hD.length]
  have hik : i * k + k ≤ n * k := by rw [← Nat.succ_mul]; exact Nat.mul_le_mul_right k hi
  have hnk : n * k ≤ cap * k := Nat.mul_le_mul_right k q2
  rw [hc.1] at q1
  have hcurl : cur.toList.length = cap * k := by simpa using q4
  have hst := run_storeCells_at (P := P) (g.β lo) (i * k + off) e v.cells.toList 0 cur w q1 (by omega) h2
  simp only [Nat.add_zero] at hst
  have hrun : (execOp ((⟨tmps, ds⟩ : Act).eval) o).run P w = .ok .skip (w.setRow (g.β lo) (cur.toList.take (i * k + off) ++ v.cells.toList ++ cur.toList.drop (i * k + off + v.cells.toList.length)).toArray) := by
    have hsz : v.cells.size = j.size := by rw [← Array.length_toList]; omega
    simp only [execOp, hop, Instr.storeAt, hea, Instr.sureAddr, storeVar, hv, Sem.run_bind, Sem.run_pure, Result.andThen_ok, hT.run_size htj, hsz, ne_eq, not_true_eq_false, if_false]
    rw [hst]
    rfl
  have hcut : (cur.toList.take (i * k + off) ++ v.cells.toList ++ cur.toList.drop (i * k + off + v.cells.toList.length)).take (n * k) = cs.take (i * k + off) ++ v.cells.toList ++ cs.drop (i * k + off + v.cells.toList.length) := by
    apply List.ext_getElem?
    intro x
    rw [List.getElem?_take, spl_get _ _ _ _ (by omega), spl_get _ _ _ _ (by omega), ← q5, List.getElem?_take]
    by_cases hx : x < n * k
    · simp only [hx, if_true]
    · rw [if_neg hx, if_neg (by omega), if_neg (by omega), if_neg hx]
  obtain ⟨k1, k2⟩ := hr.setBox (Ty := e) (cells := cur) (cells' := (cur.toList.take (i * k + off) ++ v.cells.toList ++ cur.toList.drop (i * k + off + v.cells.toList.length)).toArray) (o' := .arr b e k n F' none) ho (by rw [← hc.1]; exact hc.2.1) (by rw [← hc.1]; exact hc.2.2) q1 (fun hh => by
    refine ⟨_, cs.take (i * k + off) ++ v.cells.toList ++ cs.drop (i * k + off + v.cells.toList.length), m1, ⟨by rw [spl_len _ _ _ (by omega)]; exact hcl, .inr ⟨c, cap, _, rfl, Nat.zero_le _, by rw [hc.1]; exact hh, q2, q3, ?_, ?_⟩⟩, ?_, ?_, m5, m6⟩
    · simp only [List.size_toArray]
      rw [spl_len _ _ _ (by omega)]
      simpa using q4
    · simpa using hcut
    · intro y hy
      simp only [List.mem_append] at hy
      rcases hy with (hy | hy) | hy
      · exact m3 y (List.mem_of_mem_take hy)
      · exact h2 y hy
      · exact m3 y (List.mem_of_mem_drop hy)
    · intro q hq
      show RepL g.π (F' q) _
      rw [spl_elem cs v.cells.toList hcl hi hq (by omega)]
      by_cases hqi : q = i
      · subst hqi
        rw [if_pos rfl, hF1, hvl, hDl]
        have hm : RepL g.π (F q) ((cs.drop (q * k)).take k) := m4 q hq
        exact ((hm.take off).append hD).append (hm.drop _)
      · rw [if_neg hqi, hF2 q hq hqi]
        exact m4 q hq)
  simp only [wpList]
  rw [if_pos (guardV_wanted hr hg)]
  refine .inl ?_
  unfold Oper.wp
  rw [hrun]
  simp only [Oper.upon]
  rw [put_eta]
  exact wpList_mono (fun _ _ _ hl => lift_from k2 hl) _ _ _ (h _ _ ds _ (k1.put o.dst hf .any undef trivial ds))
end
end Go.Pv
namespace Go.Pv
open Go.RowKit

/-! ### Comparisons by a table of one's own -/
abbrev EqTab := Nat → D → D → Option Bool
def EqOK (P : Program) (E : EqTab) : Prop := ∀ t x y b, E t x y = some b → ∀ π v u, RepD π x v → RepD π y u → ∀ w xo yo,
  (do eqGuard .eql t xo yo v u; binOp .eql t v u : Sem Value).run P w = .ok (.bool b) w ∧ (do eqGuard .neq t xo yo v u; binOp .neq t v u : Sem Value).run P w = .ok (.bool (!b)) w
def evEq (E : EqTab) (op : BinOp) (t : Nat) (a b : PV) : Option (PV × Prop) :=
  match op, toD a, toD b with
  | .eql, some x, some y => match E t x y with
    | some c => some (.d (.lit (.bool c)), True)
    | none => none
  | .neq, some x, some y => match E t x y with
    | some c => some (.d (.lit (.bool (!c))), True)
    | none => none
  | _, _, _ => none
/-- A pointer against nil. -/
def ptrNil : PV → Option Bool
  | .ptr _ _ => some false
  | .pe _ _ _ _ => some false
  | .ea _ _ => some false
  | .d (.lit (.pointer none)) => some true
  | _ => none
def evPtr (T : Tab) (op : BinOp) (t : Nat) (a b : PV) : Option (PV × Prop) :=
  match tyAt T t with
  | some i => match i.tk with
    | .ptr _ => match op, ptrNil a, ptrNil b with
      | .eql, some x, some true => some (.d (.lit (.bool x)), True)
      | .neq, some x, some true => some (.d (.lit (.bool (!x))), True)
      | _, _, _ => none
    | _ => none
  | none => none
theorem ptrNil_rep {g : Gh} {p : PV} {b : Bool} {v : Value} (h : ptrNil p = some b) (hp : RepP g p v) : ∃ a : Option Addr, v = .pointer a ∧ a.isNone = b := by
  unfold ptrNil at h
  split at h <;> simp only [Option.some.injEq, reduceCtorEq] at h <;> subst h
  · exact ⟨_, hp, rfl⟩
  · exact ⟨_, hp, rfl⟩
  · obtain ⟨b, o, u, e, _⟩ := hp
    exact ⟨_, e, rfl⟩
  · exact ⟨_, hp.1, rfl⟩
theorem run_eqIn_ptr {P : Program} (w : World) (d : Nat) (t e : TypeId) (a : Option Addr) (h : P.underlying t = some (.pointer e)) : (Op.equalIn (d + 1) t (.pointer a) (.pointer none)).run P w = .ok a.isNone w := by
  cases a <;> simp [Op.equalIn, run_underlying h]
theorem run_eq_ptr {P : Program} (w : World) (t e : TypeId) (a : Option Addr) (h : P.underlying t = some (.pointer e)) : (Op.equal t (.pointer a) (.pointer none)).run P w = .ok a.isNone w := run_eqIn_ptr w 9999 t e a h
theorem run_eql_ptr {P : Program} (w : World) (t e : TypeId) (a : Option Addr) (h : P.underlying t = some (.pointer e)) (x y : Operand) : (do eqGuard .eql t x y (.pointer a) (.pointer none); binOp .eql t (.pointer a) (.pointer none) : Sem Value).run P w = .ok (.bool a.isNone) w := by
  simp only [eqGuard, binOp]
  simp [run_eq_ptr w t e a h]
theorem run_neq_ptr {P : Program} (w : World) (t e : TypeId) (a : Option Addr) (h : P.underlying t = some (.pointer e)) (x y : Operand) : (do eqGuard .neq t x y (.pointer a) (.pointer none); binOp .neq t (.pointer a) (.pointer none) : Sem Value).run P w = .ok (.bool (!a.isNone)) w := by
  simp only [eqGuard, binOp]
  simp [run_eq_ptr w t e a h]
theorem evPtr_sound {P : Program} {T : Tab} (hT : TabOK P T) {g : Gh} {w : World} {op : BinOp} {t : Nat} {a b p : PV} {φ : Prop} {va vb : Value} (ha : RepP g a va) (hb : RepP g b vb) (h : evPtr T op t a b = some (p, φ)) (x y : Operand) :
    ∃ v, (do eqGuard op t x y va vb; binOp op t va vb : Sem Value).run P w = .ok v w ∧ RepP g p v := by
  unfold evPtr at h
  split at h
  · rename_i j hj
    obtain ⟨d, hd, e⟩ := hT.und hj
    split at h
    · rename_i el hk
      rw [hk] at e
      cases d <;> simp only [tkOf, reduceCtorEq] at e
      split at h
      · rename_i q na nb
        simp only [Option.some.injEq, Prod.mk.injEq] at h
        obtain ⟨rfl, _⟩ := h
        obtain ⟨q, rfl, hq⟩ := ptrNil_rep na ha
        obtain ⟨r, rfl, hr⟩ := ptrNil_rep nb hb
        cases r with
        | some _ => cases hr
        | none => exact ⟨_, run_eql_ptr w _ _ q hd x y, by rw [hq]; exact ⟨rfl, rfl⟩⟩
      · rename_i q na nb
        simp only [Option.some.injEq, Prod.mk.injEq] at h
        obtain ⟨rfl, _⟩ := h
        obtain ⟨q, rfl, hq⟩ := ptrNil_rep na ha
        obtain ⟨r, rfl, hr⟩ := ptrNil_rep nb hb
        cases r with
        | some _ => cases hr
        | none => exact ⟨_, run_neq_ptr w _ _ q hd x y, by rw [hq]; exact ⟨rfl, rfl⟩⟩
      · cases h
    · cases h
  · cases h
theorem evEq_sound {P : Program} {E : EqTab} (hE : EqOK P E) {g : Gh} {w : World} {op : BinOp} {t : Nat} {a b p : PV} {φ : Prop} {va vb : Value} (ha : RepP g a va) (hb : RepP g b vb) (h : evEq E op t a b = some (p, φ)) (x y : Operand) :
    ∃ v, (do eqGuard op t x y va vb; binOp op t va vb : Sem Value).run P w = .ok v w ∧ RepP g p v := by
  unfold evEq at h
  split at h
  · rename_i a b ha' hb'
    split at h
    · rename_i c hc
      simp only [Option.some.injEq, Prod.mk.injEq] at h
      obtain ⟨rfl, _⟩ := h
      exact ⟨.bool c, (hE t a b c hc g.π _ _ (toD_rep ha' ha) (toD_rep hb' hb) w x y).1, rfl, rfl⟩
    · cases h
  · rename_i a b ha' hb'
    split at h
    · rename_i c hc
      simp only [Option.some.injEq, Prod.mk.injEq] at h
      obtain ⟨rfl, _⟩ := h
      exact ⟨.bool (!c), (hE t a b c hc g.π _ _ (toD_rep ha' ha) (toD_rep hb' hb) w x y).2, rfl, rfl⟩
    · cases h
  · cases h
def evX (T : Tab) (E : EqTab) (env : List (Nat × PV)) (bs : List (Loc × Obj)) (o : Op) : Option (PV × Prop) :=
  match o with
  | .binOp op t x y _ => match evBin op (opnd env x) (opnd env y) with
    | some r => some r
    | none => match evEq E op t (opnd env x) (opnd env y) with
      | some r => some r
      | none => evPtr T op t (opnd env x) (opnd env y)
  | o => evW T env bs o
theorem evX_sound {P : Program} {T : Tab} {E : EqTab} (hT : TabOK P T) (hE : EqOK P E) {g : Gh} {w : World} {env : List (Nat × PV)} {bs : List (Loc × Obj)} {ρ : Operand → Value} (hρ : ∀ x, RepP g (opnd env x) (ρ x)) (hm : Mem g bs w)
    (o : Oper) {p : PV} {φ : Prop} (h : evX T E env bs o.op = some (p, φ)) (hφ : φ) : ∃ v, (execOp ρ o).run P w = .ok (.value v) w ∧ RepP g p v := by
  unfold evX at h
  split at h
  · rename_i op t x y _ hop
    split at h
    · rename_i r hr
      simp only [Option.some.injEq] at h
      subst h
      obtain ⟨v, h1, h2⟩ := evBin_sound (P := P) (w := w) (hρ x) (hρ y) hr hφ t x y
      exact ⟨v, by simp only [execOp, hop]; rw [Sem.run_bind, h1]; rfl, h2⟩
    · split at h
      · rename_i r hr
        simp only [Option.some.injEq] at h
        subst h
        obtain ⟨v, h1, h2⟩ := evEq_sound hE (w := w) (hρ x) (hρ y) hr x y
        exact ⟨v, by simp only [execOp, hop]; rw [Sem.run_bind, h1]; rfl, h2⟩
      · obtain ⟨v, h1, h2⟩ := evPtr_sound hT (w := w) (hρ x) (hρ y) h x y
        exact ⟨v, by simp only [execOp, hop]; rw [Sem.run_bind, h1]; rfl, h2⟩
  · exact evW_sound hT hρ hm o h hφ

section
variable {P : Program} {Q : AEx → St → Prop} {l rest : List Oper} {o : Oper}
theorem AL.ex {T : Tab} {E : EqTab} (hT : TabOK P T) (hE : EqOK P E) {nt : Nat} {env : List (Nat × PV)} {bs : List (Loc × Obj)} {p : PV} {φ : Prop} (hg : guardV l env o.guard = some true)
    (he : evX T E env bs o.op = some (p, φ)) (hφ : φ) {d : Nat} (hdst : o.dst = some d) (hd : Nat.blt d nt = true)
    (h : AL P l.toArray rest Q ⟨nt, (d, p) :: env, bs⟩) : AL P l.toArray (o :: rest) Q ⟨nt, env, bs⟩ := by
  intro g tmps ds w hr
  obtain ⟨v, h1, h2⟩ := evX_sound hT hE (opnd_rep hr ds) hr.mem o he hφ
  simp only [wpList]
  rw [if_pos (guardV_wanted hr hg)]
  refine .inl ?_
  unfold Oper.wp
  rw [h1]
  simp only [Oper.upon]
  rw [put_eta]
  have := hr.put o.dst (by rw [hdst]; exact hd) p v h2 ds
  rw [hdst] at this ⊢
  exact h g _ ds w this
end
end Go.Pv
namespace Go.Pv
open Go.RowKit

/-! ### Cases by a slot's truth value; a state to meet at -/
theorem Weak.bool {nt : Nat} {env : List (Nat × PV)} {bs : List (Loc × Obj)} {j : Nat} {b : Bool} (h : litOf (envAt env j) = some (.bool b)) : Weak ⟨nt, env, bs⟩ ⟨nt, (j, .d (.lit (.bool b))) :: env, bs⟩ := by
  intro g tmps w hr
  refine ⟨g, ⟨hr.len, fun i => ?_, hr.mem⟩, Ext.refl g w⟩
  show RepP g (envAt ((j, .d (.lit (.bool b))) :: env) i) _
  simp only [envAt]
  by_cases hij : j = i
  · subst hij
    simp only [Nat.beq_refl, cond_true]
    exact litOf_rep h (hr.env j)
  · rw [nbeqF hij, cond_false]
    exact hr.env i
section
variable {P : Program} {Q : AEx → St → Prop} {rest : List Oper} {ops : Array Oper}
theorem AL.split {nt : Nat} {env : List (Nat × PV)} {bs : List (Loc × Obj)} (j : Nat) {b : Bool} (h : litOf (envAt env j) = some (.bool b))
    (ht : b = true → AL P ops rest Q ⟨nt, (j, .d (.lit (.bool true))) :: env, bs⟩) (hf : b = false → AL P ops rest Q ⟨nt, (j, .d (.lit (.bool false))) :: env, bs⟩) : AL P ops rest Q ⟨nt, env, bs⟩ := by
  refine AL.weak (Weak.bool h) ?_
  cases b
  · exact hf rfl
  · exact ht rfl
/-- All ways out of x lead to one state. -/
def toQ (target : St) : AEx → St → Prop
  | .normal, s => Weak s target
  | _, _ => False
theorem AW.via {x y : Code} {st : St} (target : St) (h1 : AW P x (toQ target) st) (h2 : AW P y Q target) : AW P (.seq x y) Q st := by
  refine AW.seq (AW.mono h1 (fun e s h => ?_))
  cases e with
  | normal => exact AW.weak h h2
  | exit id => exact h.elim
  | ret => exact h.elim
  | panic x => exact h.elim
end
end Go.Pv
