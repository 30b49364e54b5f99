/- Part of the proofs over this seat: Pv30 Pv31 Pv32 Pv33 Pv34 Pv35 Pv36. -/
import Derived.Test.YteohopnpcanfpaaGreatDoorZKb
set_option maxRecDepth 100000
namespace Go.Pv
open Go.RowKit

/-! ### Names within contents -/
mutual
def namesOK (A : Loc → Bool) : PV → Bool
  | .ptr l _ => A l
  | .pe l _ _ _ => A l
  | .sl l _ => A l
  | .agp ps => namesOKL A ps
  | .fn _ first caps => namesOKL A first && namesOKL A caps
  | .tup xs => namesOKL A xs
  | .cond _ p => namesOK A p
  | _ => true
def namesOKL (A : Loc → Bool) : List PV → Bool
  | [] => true
  | p :: ps => namesOK A p && namesOKL A ps
end
def namesO (A : Loc → Bool) : Obj → Bool
  | .cells cs => namesOKL A cs
  | .arr _ _ _ _ _ foc => match foc with
    | some (_, cs) => namesOKL A cs
    | none => true
  | .gone _ _ => true
  | .nest _ _ _ _ _ _ foc => match foc with
    | some (_, cs) => namesOKL A cs
    | none => true
section
variable {g g' : Gh} {A : Loc → Bool}
mutual
theorem RepP.agreeA (hπ : Prom.le g.π g'.π) (hag : ∀ l, A l = true → g'.β l = g.β l ∧ g'.ρ l = g.ρ l) : ∀ (p : PV) (v : Value), namesOK A p = true → RepP g p v → RepP g' p v
  | .any, _, _, _ => trivial
  | .d x, v, _, h => RepD.mono hπ x v h
  | .ptr l off, v, hc, h => by
    have h' : v = .pointer (some ⟨g.β l, off, none⟩) := h
    rw [h', ← (hag l hc).1]
    rfl
  | .pe l k x o, v, hc, h => by
    have h' : v = .pointer (some ⟨g.β l, x * k + o, none⟩) := h
    rw [h', ← (hag l hc).1]
    rfl
  | .sl l n, v, hc, h => ⟨h.1, fun u hu => h.2 u (by rw [← (hag l hc).2]; exact hu)⟩
  | .agp ps, v, hc, h => by
    obtain ⟨vs, e, h1, h2⟩ := h
    exact ⟨vs, e, RepPL.agreeA hπ hag ps vs (by simpa only [namesOK] using hc) h1, h2⟩
  | .ea x off, v, _, h => by
    obtain ⟨b, o, u, e, h1, h2⟩ := h
    exact ⟨b, o, u, e, RepD.mono hπ x u h1, fun j c hc => hπ _ _ _ (h2 j c hc)⟩
  | .fn f first caps, v, hc, h => by
    simp only [namesOK, Bool.and_eq_true] at hc
    obtain ⟨vs, us, e, h1, h2⟩ := h
    exact ⟨vs, us, e, RepPL.agreeA hπ hag first vs hc.1 h1, RepPL.agreeA hπ hag caps us hc.2 h2⟩
  | .tup xs, v, hc, h => by
    obtain ⟨vs, e, h1⟩ := h
    exact ⟨vs, e, RepPL.agreeA hπ hag xs vs (by simpa only [namesOK] using hc) h1⟩
  | .cond c p, v, hc, h => ⟨fun k => RepP.agreeA hπ hag p v (by simpa only [namesOK] using hc) (h.1 k), h.2⟩
theorem RepPL.agreeA (hπ : Prom.le g.π g'.π) (hag : ∀ l, A l = true → g'.β l = g.β l ∧ g'.ρ l = g.ρ l) : ∀ (ps : List PV) (vs : List Value), namesOKL A ps = true → RepPL g ps vs → RepPL g' ps vs
  | [], _, _, h => h
  | p :: ps, vs, hc, h => by
    simp only [namesOKL, Bool.and_eq_true] at hc
    obtain ⟨v, vs', e, h1, h2⟩ := h
    exact ⟨v, vs', e, RepP.agreeA hπ hag p v hc.1 h1, RepPL.agreeA hπ hag ps vs' hc.2 h2⟩
end
end
mutual
theorem namesOK_true {A : Loc → Bool} (h : ∀ l, A l = true) : ∀ p : PV, namesOK A p = true
  | .any | .d _ | .ea _ _ => rfl
  | .ptr l _ => h l
  | .pe l _ _ _ => h l
  | .sl l _ => h l
  | .agp ps => by simpa only [namesOK] using namesOKL_true h ps
  | .fn _ a b => by simp only [namesOK, namesOKL_true h a, namesOKL_true h b, Bool.and_self]
  | .tup xs => by simpa only [namesOK] using namesOKL_true h xs
  | .cond _ p => by simpa only [namesOK] using namesOK_true h p
theorem namesOKL_true {A : Loc → Bool} (h : ∀ l, A l = true) : ∀ ps : List PV, namesOKL A ps = true
  | [] => rfl
  | p :: ps => by simp only [namesOKL, namesOK_true h p, namesOKL_true h ps, Bool.and_self]
end
theorem namesO_true {A : Loc → Bool} (h : ∀ l, A l = true) : ∀ o : Obj, namesO A o = true
  | .cells cs => namesOKL_true h cs
  | .arr _ _ _ _ _ none => rfl
  | .arr _ _ _ _ _ (some (_, cs)) => namesOKL_true h cs
  | .gone _ _ => rfl
  | .nest _ _ _ _ _ _ none => rfl
  | .nest _ _ _ _ _ _ (some (_, cs)) => namesOKL_true h cs

/-! ### The relation, with contents as functions -/
structure RelG (g : Gh) (nt : Nat) (E : Nat → PV) (B : Loc → Option Obj) (tmps : Array Value) (w : World) : Prop where
  len : tmps.size = nt
  env : ∀ i, RepP g (E i) (tmps.getD i undef)
  box : ∀ l o, B l = some o → ObjOK g w l o
  prom : ∀ b o v, g.π b o = some v → w.cell? ⟨b, o, none⟩ = some v
  glob : GlobM g w
theorem Rel.toG {g : Gh} {nt : Nat} {env : List (Nat × PV)} {bs : List (Loc × Obj)} {tmps : Array Value} {w : World} (h : Rel g ⟨nt, env, bs⟩ tmps w) : RelG g nt (envAt env) (objAt bs) tmps w :=
  ⟨h.len, h.env, h.mem.box, h.mem.prom, h.mem.glob⟩
theorem RelG.toRel {g : Gh} {nt : Nat} {env : List (Nat × PV)} {bs : List (Loc × Obj)} {tmps : Array Value} {w : World} (h : RelG g nt (envAt env) (objAt bs) tmps w) : Rel g ⟨nt, env, bs⟩ tmps w :=
  ⟨h.len, h.env, ⟨h.box, h.prom, h.glob⟩⟩

theorem ObjOK.agreeA {g g' : Gh} {w w' : World} {A : Loc → Bool} {l : Loc} {o : Obj} (h : ObjOK g w l o) (hl : A l = true) (hc : namesO A o = true) (hπ : Prom.le g.π g'.π) (hag : ∀ l, A l = true → g'.β l = g.β l ∧ g'.ρ l = g.ρ l)
    (hf : g'.fx l = g.fx l) (hb : ∀ b, g.ω b = .box l → b < w.heap.size → w'.heap[b]? = w.heap[b]? ∧ g'.ω b = .box l ∧ ∀ o, g'.π b o = g.π b o) : ObjOK g' w' l o := by
  cases o with
  | cells cs =>
    obtain ⟨T, vs, h1, h2, h3, h4, h5, h6⟩ := h
    obtain ⟨k1, k2, k3⟩ := hb _ h5 (Array.getElem?_eq_some_iff.1 h1).1
    have hβ := (hag l hl).1
    exact ⟨T, vs, by rw [hβ, k1]; exact h1, RepPL.agreeA hπ hag _ _ hc h2, h3, by rw [hf]; exact h4, by rw [hβ]; exact k2, fun o => by rw [hβ, k3 o]; exact h6 o⟩
  | arr b e k n F foc =>
    obtain ⟨u, cs, h1, h2, h3, h4, h5, h6⟩ := h
    refine ⟨u, cs, by rw [(hag l hl).2]; exact h1, ownsRow_block h2 (fun c hc => ?_), h3, fun i hi => ?_, by rw [hf]; exact h5, fun c hc => ?_⟩
    · exact (hb c (h6 c hc).2.1 (ownsRow_lt h2 hc)).1
    · have := h4 i hi
      cases foc with
      | none => exact RepL.mono hπ _ _ this
      | some ic =>
        obtain ⟨i', ps⟩ := ic
        exact ⟨fun e => RepPL.agreeA hπ hag _ _ hc (this.1 e), fun e => RepL.mono hπ _ _ (this.2 e)⟩
    · obtain ⟨k1, k2, k3⟩ := hb c (h6 c hc).2.1 (ownsRow_lt h2 hc)
      exact ⟨by rw [(hag l hl).1]; exact (h6 c hc).1, k2, fun o => by rw [k3 o]; exact (h6 c hc).2.2 o⟩
  | gone b n => exact ⟨hf.trans h.1, fun m hm => by rw [(hag l hl).2]; exact h.2 m hm⟩
  | nest e n e1 k1 N F foc =>
    refine nest_tr h hπ (hag l hl).1 (hag l hl).2 hf hb ?_
    cases foc with
    | none => exact .inl ⟨rfl, rfl⟩
    | some ic => exact .inr ⟨_, _, _, rfl, rfl, fun vs h => RepPL.agreeA hπ hag _ _ hc h⟩

/-- All is carried over to another ghost and world; each object either anew or as it was. -/
theorem RelG.carry {g g' : Gh} {nt : Nat} {E : Nat → PV} {B B' : Loc → Option Obj} {tmps : Array Value} {w w' : World} (hr : RelG g nt E B tmps w) (A : Loc → Bool)
    (hE : ∀ t, namesOK A (E t) = true) (hB : ∀ q c, B q = some c → namesO A c = true) (hπ : Prom.le g.π g'.π) (hag : ∀ l, A l = true → g'.β l = g.β l ∧ g'.ρ l = g.ρ l)
    (hobj : ∀ q c, B' q = some c → ObjOK g' w' q c ∨ (B q = some c ∧ A q = true ∧ g'.fx q = g.fx q ∧ ∀ b, g.ω b = .box q → b < w.heap.size → w'.heap[b]? = w.heap[b]? ∧ g'.ω b = .box q ∧ ∀ o, g'.π b o = g.π b o))
    (hprom : ∀ b o v, g'.π b o = some v → w'.cell? ⟨b, o, none⟩ = some v)
    (hglob : ∀ b, b < w.heap.size → g.ω b = .none → w'.heap[b]? = w.heap[b]? ∧ g'.ω b = .none) : RelG g' nt E B' tmps w' := by
  refine ⟨hr.len, fun i => RepP.agreeA hπ hag _ _ (hE i) (hr.env i), fun q c hq => ?_, hprom, hr.glob.to hglob⟩
  rcases hobj q c hq with h | ⟨h1, h2, h3, h4⟩
  · exact h
  · exact (hr.box q c h1).agreeA h2 (hB q c h1) hπ hag h3 h4

def upd1 (B : Loc → Option Obj) (m : Loc) (o : Option Obj) : Loc → Option Obj := fun q => if m = q then o else B q
def updB (B : Loc → Option Obj) : List (Loc × Option Obj) → Loc → Option Obj
  | [] => B
  | (m, o) :: r => updB (upd1 B m o) r
def set1 (bs : List (Loc × Obj)) (m : Loc) : Option Obj → List (Loc × Obj)
  | none => dropObj bs m
  | some o => (m, o) :: dropObj bs m
def setB (bs : List (Loc × Obj)) : List (Loc × Option Obj) → List (Loc × Obj)
  | [] => bs
  | (m, o) :: r => setB (set1 bs m o) r
theorem objAt_drop (bs : List (Loc × Obj)) (m q : Loc) : objAt (dropObj bs m) q = if m = q then none else objAt bs q := by
  induction bs with
  | nil => simp [dropObj, objAt]
  | cons x r ih =>
    obtain ⟨a, c⟩ := x
    simp only [dropObj]
    by_cases h : Loc.eqb a m = true
    · have := Loc.eqb_iff.1 h
      subst this
      rw [h, cond_true, ih]
      by_cases hq : a = q
      · simp [hq]
      · have : Loc.eqb a q = false := by
          cases hc : Loc.eqb a q with
          | false => rfl
          | true => exact absurd (Loc.eqb_iff.1 hc) hq
        simp [hq, objAt, this]
    · have hn : Loc.eqb a m = false := by simpa using h
      rw [hn, cond_false]
      simp only [objAt]
      by_cases hc : Loc.eqb a q = true
      · have := Loc.eqb_iff.1 hc
        subst this
        have : ¬ m = a := fun e => h (Loc.eqb_iff.2 e.symm)
        simp [hc, this]
      · have hcn : Loc.eqb a q = false := by simpa using hc
        simp [hcn, ih]
theorem objAt_set1 (bs : List (Loc × Obj)) (m : Loc) (o : Option Obj) : objAt (set1 bs m o) = upd1 (objAt bs) m o := by
  funext q
  cases o with
  | none => simp only [set1, upd1, objAt_drop]
  | some c =>
    simp only [set1, objAt, upd1, objAt_drop]
    by_cases h : m = q
    · subst h
      simp [Loc.eqb_iff.2]
    · have : Loc.eqb m q = false := by
        cases hc : Loc.eqb m q with
        | false => rfl
        | true => exact absurd (Loc.eqb_iff.1 hc) h
      simp [h, this]
theorem objAt_setB : ∀ (ws : List (Loc × Option Obj)) (bs : List (Loc × Obj)), objAt (setB bs ws) = updB (objAt bs) ws
  | [], bs => rfl
  | (m, o) :: r, bs => by rw [setB, updB, objAt_setB r, objAt_set1]

/-- Names that get a new meaning. -/
def An (new : List Nat) (l : Loc) : Bool := new.all fun d => !(isLoc d l)
theorem An_nil (l : Loc) : An [] l = true := rfl
def cleanN (new : List Nat) (env : List (Nat × PV)) (bs : List (Loc × Obj)) : Bool := env.all (fun x => namesOK (An new) x.2) && bs.all (fun x => namesO (An new) x.2)
theorem cleanN_env {new : List Nat} {env : List (Nat × PV)} {bs : List (Loc × Obj)} (h : cleanN new env bs = true) (t : Nat) : namesOK (An new) (envAt env t) = true := by
  simp only [cleanN, Bool.and_eq_true, List.all_eq_true] at h
  have h1 := h.1
  clear h
  induction env with
  | nil => rfl
  | cons x r ih =>
    obtain ⟨a, p⟩ := x
    simp only [envAt]
    cases Nat.beq a t with
    | true => exact h1 (a, p) (by simp)
    | false => exact ih (fun x hx => h1 x (by simp [hx]))
theorem cleanN_obj {new : List Nat} {env : List (Nat × PV)} {bs : List (Loc × Obj)} (h : cleanN new env bs = true) {q : Loc} {c : Obj} (hq : objAt bs q = some c) : namesO (An new) c = true := by
  simp only [cleanN, Bool.and_eq_true, List.all_eq_true] at h
  have h1 := h.2
  clear h
  induction bs with
  | nil => simp [objAt] at hq
  | cons x r ih =>
    obtain ⟨a, p⟩ := x
    simp only [objAt] at hq
    cases hb : Loc.eqb a q with
    | true => rw [hb] at hq; simp at hq; subst hq; exact h1 (a, p) (by simp)
    | false => rw [hb] at hq; exact ih hq (fun x hx => h1 x (by simp [hx]))

/-- What an operation does: what its slot holds, the objects that it touches, what becomes of them, the names that get a new meaning. -/
structure Eff where
  p : PV
  ls : List Loc
  ws : List (Loc × Option Obj)
  new : List Nat
instance : Inhabited Eff := ⟨⟨.any, [], [], []⟩⟩

/-- Whatever else is known: with these at the slots and objects that it looks at, the operation (wanted or not) does this. -/
def VE (P : Program) (l : List Oper) (nt : Nat) (o : Oper) (X : List (Nat × PV)) (BX : List (Loc × Obj)) (e : Eff) : Prop :=
  ∀ (E : Nat → PV) (B : Loc → Option Obj), (∀ t ∈ looks l o, E t = envAt X t) → (∀ m ∈ e.ls, B m = objAt BX m) →
    (∀ t, namesOK (An e.new) (E t) = true) → (∀ q c, B q = some c → namesO (An e.new) c = true) →
    ∀ g tmps ds w, RelG g nt E B tmps w → ∀ (K : Act → World → Prop) (Q' : Exit → Act → World → Prop),
    (∀ v g' w', RepP g' e.p v → RelG g' nt E (updB B e.ws) tmps w' → Ext g w g' w' → K ((⟨tmps, ds⟩ : Act).put o.dst v) w') →
    (if Region.wanted o (yielded l.toArray tmps) = true then o.wp P ⟨tmps, ds⟩ w K Q' else K ((⟨tmps, ds⟩ : Act).put o.dst undef) w)

section
variable {P : Program} {Q : AEx → St → Prop} {l rest : List Oper} {o : Oper}
theorem Oper.wp_mono {K K' : Act → World → Prop} {Q1 Q2 : Exit → Act → World → Prop} (hK : ∀ a w, K a w → K' a w) (hQ : ∀ e a w, Q1 e a w → Q2 e a w) {a : Act} {w : World} (hh : o.wp P a w K Q1) : o.wp P a w K' Q2 := by
  unfold Oper.wp at *
  generalize (execOp a.eval o).run P w = r at *
  cases r with
  | ok n w' =>
    cases n <;> simp only [Oper.upon] at hh ⊢ <;>
      first
        | exact hK _ _ hh
        | exact Calls.mono hh (fun e w'' he => by
            cases e with
            | returned v => exact hK _ _ he
            | panicked ch => exact hQ _ _ _ he
            | outgrown => obtain ⟨a1, w1, h1⟩ := he; exact ⟨a1, w1, hQ _ _ _ h1⟩)
        | exact Rows.mono hh (fun _ _ he => hK _ _ he)
  | halt x w' => cases x <;> simp only [Oper.upon] at hh ⊢ <;> exact hQ _ _ _ hh

theorem AL.eff {nt : Nat} {env : List (Nat × PV)} {bs : List (Loc × Obj)} (e : Eff) (hv : VE P l nt o env bs e) (hd : fits nt o.dst = true) (hn : cleanN e.new env bs = true)
    (h : AL P l.toArray rest Q ⟨nt, put env o.dst e.p, setB bs e.ws⟩) : AL P l.toArray (o :: rest) Q ⟨nt, env, bs⟩ := by
  intro g tmps ds w hr
  have key := hv (envAt env) (objAt bs) (fun _ _ => rfl) (fun _ _ => rfl) (cleanN_env hn) (fun q c hq => cleanN_obj hn hq) g tmps ds w hr.toG (fun a w' => wpList P l.toArray (lift Q g w ds) rest a w') (lift Q g w ds) (fun v g' w' hp hr' hx => by
    rw [put_eta]
    rw [← objAt_setB] at hr'
    exact wpList_mono (fun _ _ _ hl => lift_from hx hl) _ _ _ (h g' _ ds w' (hr'.toRel.put o.dst hd e.p v hp ds)))
  simp only [wpList]
  split
  · rename_i hw
    rw [if_pos hw] at key
    exact .inl key
  · rename_i hw
    rw [if_neg hw] at key
    exact key
end
end Go.Pv
namespace Go.Pv
open Go.RowKit

/-! ### The check of the order -/
def settledB (ms : List Nat) (i j : Nat) : Bool := (Nat.blt j i && (ms.getD i 0).testBit j) || (Nat.blt i j && (ms.getD j 0).testBit i)
def hasLab (ws : List (Loc × Option Obj)) (m : Loc) : Bool := ws.any fun x => Loc.eqb x.1 m
/-- Each operation has a slot of its own or none; edges lead back; of a slot or an object that it looks at and another writes, the order is settled; a new name is in nobody's mouth before it is made. -/
def effOk (l : List Oper) (es : List Eff) (env0 : List (Nat × PV)) (bs0 : List (Loc × Obj)) : Bool :=
  let ms := masks [] l
  (List.range l.length).all fun i => match l[i]? with
    | none => false
    | some o => (match o.dst with
        | some d => (match dstIdx l 0 d with | some j => Nat.beq j i | none => false)
        | none => true) &&
      (binding o).all (fun j => Nat.blt j i) &&
      (looks l o).all (fun t => match dstIdx l 0 t with
        | none => true
        | some j => settledB ms i j) &&
      (es.getD i default).ws.all (fun x => (es.getD i default).ls.any (Loc.eqb x.1)) &&
      (es.getD i default).ls.all (fun m => (List.range l.length).all fun j => Nat.beq j i || !(hasLab (es.getD j default).ws m) || settledB ms i j) &&
      ((es.getD i default).new.isEmpty || (cleanN (es.getD i default).new env0 bs0 &&
        (List.range l.length).all fun j => Nat.beq j i || (ms.getD j 0).testBit i ||
          (namesOK (An (es.getD i default).new) (es.getD j default).p && (es.getD j default).ws.all fun x => match x.2 with | some c => namesO (An (es.getD i default).new) c | none => true)))

structure Settled (l : List Oper) (i j : Nat) : Prop where
  h : (j < i ∧ ∀ S, Closed l S → S i = true → S j = true) ∨ (i < j ∧ ∀ S, Closed l S → S j = true → S i = true)
structure EffOK (l : List Oper) (es : List Eff) (env0 : List (Nat × PV)) (bs0 : List (Loc × Obj)) : Prop where
  dst : ∀ i o d, l[i]? = some o → o.dst = some d → dstIdx l 0 d = some i
  back : ∀ i o, l[i]? = some o → ∀ j ∈ binding o, j < i
  settled : ∀ i o, l[i]? = some o → ∀ t ∈ looks l o, ∀ j, dstIdx l 0 t = some j → Settled l i j
  sub : ∀ i, i < l.length → ∀ m, hasLab (es.getD i default).ws m = true → m ∈ (es.getD i default).ls
  labs : ∀ i, i < l.length → ∀ m ∈ (es.getD i default).ls, ∀ j, j < l.length → j ≠ i → hasLab (es.getD j default).ws m = true → Settled l i j
  new0 : ∀ i, i < l.length → (es.getD i default).new ≠ [] → cleanN (es.getD i default).new env0 bs0 = true
  new : ∀ i, i < l.length → (es.getD i default).new ≠ [] → ∀ j, j < l.length → j ≠ i → (∀ S, Closed l S → S j = true → S i = true) ∨
    (namesOK (An (es.getD i default).new) (es.getD j default).p = true ∧ ∀ m c, (m, some c) ∈ (es.getD j default).ws → namesO (An (es.getD i default).new) c = true)

theorem hasLab_iff {ws : List (Loc × Option Obj)} {m : Loc} : hasLab ws m = true ↔ ∃ o, (m, o) ∈ ws := by
  simp only [hasLab, List.any_eq_true]
  constructor
  · rintro ⟨⟨a, o⟩, h1, h2⟩
    have : a = m := Loc.eqb_iff.1 h2
    subst this
    exact ⟨o, h1⟩
  · rintro ⟨o, h⟩
    exact ⟨(m, o), h, Loc.eqb_iff.2 rfl⟩

theorem effOk_spec {l : List Oper} {es : List Eff} {env0 : List (Nat × PV)} {bs0 : List (Loc × Obj)} (h : effOk l es env0 bs0 = true) : EffOK l es env0 bs0 := by
  unfold effOk at h
  have hm := masks_spec l l [] (fun k => by simp) (fun i b hb => by simp at hb)
  have hset : ∀ i j, settledB (masks [] l) i j = true → Settled l i j := by
    intro i j hs
    simp only [settledB, Bool.or_eq_true, Bool.and_eq_true, Nat.blt_eq] at hs
    rcases hs with ⟨h1, h2⟩ | ⟨h1, h2⟩
    · exact ⟨.inl ⟨h1, fun S hS hi => hm i j h2 S hS hi⟩⟩
    · exact ⟨.inr ⟨h1, fun S hS hj => hm j i h2 S hS hj⟩⟩
  have key := fun (i : Nat) (hlt : i < l.length) => List.all_eq_true.1 h i (List.mem_range.2 hlt)
  have key2 : ∀ i o, l[i]? = some o → _ := fun i o hi => by
    have hlt : i < l.length := (List.getElem?_eq_some_iff.1 hi).1
    have h1 := key i hlt
    simp only [hi, Bool.and_eq_true, List.all_eq_true] at h1
    exact h1
  refine ⟨fun i o d hi hd => ?_, fun i o hi j hj => ?_, fun i o hi t ht j hj => ?_, fun i hi m hmm => ?_, fun i hi m hmm j hj hji hw => ?_, fun i hi hne => ?_, fun i hi hne j hj hji => ?_⟩
  · obtain ⟨⟨⟨⟨⟨h2, h3⟩, h4⟩, h5⟩, h6⟩, h7⟩ := key2 i o hi
    rw [hd] at h2
    dsimp only at h2
    split at h2
    · rename_i j hj
      rw [hj, Nat.eq_of_beq_eq_true h2]
    · cases h2
  · obtain ⟨⟨⟨⟨⟨h2, h3⟩, h4⟩, h5⟩, h6⟩, h7⟩ := key2 i o hi
    simpa [Nat.blt_eq] using h3 j hj
  · obtain ⟨⟨⟨⟨⟨h2, h3⟩, h4⟩, h5⟩, h6⟩, h7⟩ := key2 i o hi
    have h5 := h4 t ht
    rw [hj] at h5
    exact hset i j h5
  · obtain ⟨⟨⟨⟨⟨h2, h3⟩, h4⟩, h5⟩, h6⟩, h7⟩ := key2 i l[i] (List.getElem?_eq_getElem hi)
    obtain ⟨o, ho⟩ := hasLab_iff.1 hmm
    have := h5 _ ho
    simp only [List.any_eq_true] at this
    obtain ⟨q, hq1, hq2⟩ := this
    have : m = q := Loc.eqb_iff.1 hq2
    subst this
    exact hq1
  · obtain ⟨⟨⟨⟨⟨h2, h3⟩, h4⟩, h5⟩, h6⟩, h7⟩ := key2 i l[i] (List.getElem?_eq_getElem hi)
    have := h6 m hmm j (List.mem_range.2 hj)
    simp only [Bool.or_eq_true, hw, Bool.not_true, Bool.false_eq_true, or_false] at this
    rcases this with h8 | h8
    · exact absurd (Nat.eq_of_beq_eq_true h8) hji
    · exact hset i j h8
  · obtain ⟨⟨⟨⟨⟨h2, h3⟩, h4⟩, h5⟩, h6⟩, h7⟩ := key2 i l[i] (List.getElem?_eq_getElem hi)
    simp only [Bool.or_eq_true, List.isEmpty_iff, Bool.and_eq_true] at h7
    rcases h7 with h7 | h7
    · exact absurd h7 hne
    · exact h7.1
  · obtain ⟨⟨⟨⟨⟨h2, h3⟩, h4⟩, h5⟩, h6⟩, h7⟩ := key2 i l[i] (List.getElem?_eq_getElem hi)
    simp only [Bool.or_eq_true, List.isEmpty_iff, Bool.and_eq_true, List.all_eq_true] at h7
    rcases h7 with h7 | h7
    · exact absurd h7 hne
    · rcases h7.2 j (List.mem_range.2 hj) with (h8 | h8) | h8
      · exact absurd (Nat.eq_of_beq_eq_true h8) hji
      · exact .inl fun S hS hj' => hm j i h8 S hS hj'
      · exact .inr ⟨h8.1, fun m c hmc => h8.2 (m, some c) hmc⟩

/-! ### Contents when the operations of S are done -/
def EnvG (l : List Oper) (env0 : List (Nat × PV)) (es : List Eff) (S : Nat → Bool) (t : Nat) : PV :=
  match dstIdx l 0 t with
  | some j => if S j = true then (es.getD j default).p else envAt env0 t
  | none => envAt env0 t
def objS (S : Nat → Bool) : Nat → List Eff → (Loc → Option Obj) → Loc → Option Obj
  | _, [], B => B
  | i, e :: r, B => objS S (i + 1) r (if S i = true then updB B e.ws else B)

theorem updB_skip : ∀ {ws : List (Loc × Option Obj)} {B : Loc → Option Obj} {m : Loc}, hasLab ws m = false → updB B ws m = B m
  | [], _, _, _ => rfl
  | (a, o) :: r, B, m, h => by
    simp only [hasLab, List.any_cons, Bool.or_eq_false_iff] at h
    rw [updB, updB_skip (ws := r) (by simpa [hasLab] using h.2)]
    have : a ≠ m := fun e => by
      rw [e, Loc.eqb_iff.2 rfl] at h
      simp at h
    simp [upd1, this]
theorem updB_congr : ∀ {ws : List (Loc × Option Obj)} {B B' : Loc → Option Obj} {m : Loc}, B m = B' m → updB B ws m = updB B' ws m
  | [], _, _, _, h => h
  | (a, o) :: r, B, B', m, h => updB_congr (ws := r) (by simp only [upd1, h])
theorem updB_has : ∀ {ws : List (Loc × Option Obj)} {B B' : Loc → Option Obj} {m : Loc}, hasLab ws m = true → updB B ws m = updB B' ws m
  | [], _, _, _, h => by simp [hasLab] at h
  | (a, o) :: r, B, B', m, h => by
    by_cases hr : hasLab r m = true
    · exact updB_has (ws := r) hr
    · refine updB_congr (ws := r) ?_
      simp only [hasLab, List.any_cons, Bool.or_eq_true] at h hr
      have : a = m := Loc.eqb_iff.1 (h.resolve_right hr)
      simp [upd1, this]
theorem updB_mem : ∀ {ws : List (Loc × Option Obj)} {B : Loc → Option Obj} {m : Loc} {c : Obj}, updB B ws m = some c → B m = some c ∨ (m, some c) ∈ ws
  | [], _, _, _, h => .inl h
  | (a, o) :: r, B, m, c, h => by
    rcases updB_mem (ws := r) h with h1 | h1
    · simp only [upd1] at h1
      split at h1
      · rename_i e
        subst e
        subst h1
        exact .inr (by simp)
      · exact .inl h1
    · exact .inr (by simp [h1])
theorem objS_agree : ∀ (r : List Eff) (i : Nat) {S S' : Nat → Bool} {B B' : Loc → Option Obj} {m : Loc}, B m = B' m → (∀ k, hasLab (r.getD k default).ws m = true → S (i + k) = S' (i + k)) → objS S i r B m = objS S' i r B' m
  | [], _, _, _, _, _, _, h, _ => h
  | e :: r, i, S, S', B, B', m, h, hk => by
    refine objS_agree r (i + 1) ?_ (fun k hh => by
      have := hk (k + 1) (by simpa using hh)
      rwa [show i + (k + 1) = i + 1 + k by omega] at this)
    by_cases hw : hasLab e.ws m = true
    · have := hk 0 (by simpa using hw)
      simp only [Nat.add_zero] at this
      rw [this]
      split
      · exact updB_congr h
      · exact h
    · have hw' : hasLab e.ws m = false := by simpa using hw
      have e1 : (if S i = true then updB B e.ws else B) m = B m := by split <;> simp [updB_skip hw']
      have e2 : (if S' i = true then updB B' e.ws else B') m = B' m := by split <;> simp [updB_skip hw']
      rw [e1, e2, h]
theorem objS_mem : ∀ (r : List Eff) (i : Nat) {S : Nat → Bool} {B : Loc → Option Obj} {m : Loc} {c : Obj}, objS S i r B m = some c → B m = some c ∨ ∃ k, k < r.length ∧ S (i + k) = true ∧ (m, some c) ∈ (r.getD k default).ws
  | [], _, _, _, _, _, h => .inl h
  | e :: r, i, S, B, m, c, h => by
    rcases objS_mem r (i + 1) h with h1 | ⟨k, h1, h2, h3⟩
    · split at h1
      · rename_i hs
        rcases updB_mem h1 with h2 | h2
        · exact .inl h2
        · exact .inr ⟨0, by simp, by simpa using hs, by simpa using h2⟩
      · exact .inl h1
    · exact .inr ⟨k + 1, by simpa using h1, by rw [show i + (k + 1) = i + 1 + k by omega]; exact h2, by simpa using h3⟩
/-- One more operation is done. -/
theorem objS_add : ∀ (r : List Eff) (i j : Nat) {S : Nat → Bool} {B : Loc → Option Obj} {m : Loc}, i ≤ j → j < i + r.length → S j = false → (hasLab (r.getD (j - i) default).ws m = true → ∀ k, k < r.length → j < i + k → hasLab (r.getD k default).ws m = true → S (i + k) = false) →
    objS (fun k => S k || decide (k = j)) i r B m = updB (objS S i r B) (r.getD (j - i) default).ws m
  | [], i, j, S, B, m, h1, h2, _, _ => by simp at h2; omega
  | e :: r, i, j, S, B, m, h1, h2, hj, hw => by
    by_cases hij : i = j
    · subst hij
      simp only [Nat.sub_self, List.getD_cons_zero] at hw ⊢
      simp only [objS, hj, decide_true, Bool.or_true, if_true, Bool.false_eq_true, if_false]
      have h3 : objS (fun k => S k || decide (k = i)) (i + 1) r (updB B e.ws) m = objS S (i + 1) r (updB B e.ws) m := objS_agree r (i + 1) rfl (fun k _ => by simp; omega)
      rw [h3]
      by_cases hl : hasLab e.ws m = true
      · have h4 : objS S (i + 1) r (updB B e.ws) m = objS (fun _ => false) (i + 1) r (updB B e.ws) m := objS_agree r (i + 1) rfl (fun k hk => by
          have hk1 : k < r.length := by
            rcases Nat.lt_or_ge k r.length with h | h
            · exact h
            · rw [List.getD_eq_getElem?_getD, List.getElem?_eq_none h] at hk
              exact absurd hk (by have e0 : (none.getD default : Eff).ws = [] := rfl
                                  rw [e0]; simp [hasLab])
          have := hw hl (k + 1) (by simpa using hk1) (by omega) (by simpa using hk)
          rwa [show i + (k + 1) = i + 1 + k by omega] at this)
        have h5 : ∀ (r : List Eff) (i : Nat) (B : Loc → Option Obj), objS (fun _ => false) i r B = B := by
          intro r
          induction r with
          | nil => intro i B; rfl
          | cons e r ih => intro i B; simp [objS, ih]
        rw [h4, h5]
        exact updB_has hl
      · have hl' : hasLab e.ws m = false := by simpa using hl
        rw [updB_skip hl']
        exact objS_agree r (i + 1) (updB_skip hl') (fun _ _ => rfl)
    · have e1 : (j - i) = (j - (i + 1)) + 1 := by omega
      rw [e1] at hw ⊢
      simp only [List.getD_cons_succ] at hw ⊢
      have hd : decide (i = j) = false := by simpa using hij
      simp only [objS, hd, Bool.or_false]
      exact objS_add r (i + 1) j (by omega) (by simp at h2; omega) hj (fun hl k hk1 hk2 hk3 => by
        have := hw hl (k + 1) (by simpa using hk1) (by omega) (by simpa using hk3)
        rwa [show i + (k + 1) = i + 1 + k by omega] at this)
end Go.Pv
namespace Go.Pv
open Go.RowKit

theorem RelG.congr {g : Gh} {nt : Nat} {E E' : Nat → PV} {B B' : Loc → Option Obj} {tmps : Array Value} {w : World} (h : RelG g nt E B tmps w) (hE : ∀ t, E' t = E t) (hB : ∀ q, B' q = B q) : RelG g nt E' B' tmps w :=
  ⟨h.len, fun i => by rw [hE i]; exact h.env i, fun l o hl => h.box l o (by rw [← hB l]; exact hl), h.prom, h.glob⟩

theorem objS_append (S : Nat → Bool) : ∀ (r1 r2 : List Eff) (i : Nat) (B : Loc → Option Obj), objS S i (r1 ++ r2) B = objS S (i + r1.length) r2 (objS S i r1 B)
  | [], r2, i, B => rfl
  | e :: r, r2, i, B => by
    simp only [List.cons_append, objS, List.length_cons]
    rw [objS_append S r r2 (i + 1), show i + 1 + r.length = i + (r.length + 1) by omega]

section
variable {P : Program} {l : List Oper} {nt : Nat} {env0 : List (Nat × PV)} {bs0 : List (Loc × Obj)}

inductive ChainG (P : Program) (l : List Oper) (nt : Nat) (env0 : List (Nat × PV)) (bs0 : List (Loc × Obj)) : List Eff → List (Nat × PV) → List (Loc × Obj) → Prop
  | nil : ChainG P l nt env0 bs0 [] env0 bs0
  | snoc {es : List Eff} {X : List (Nat × PV)} {BX : List (Loc × Obj)} {o : Oper} {e : Eff} : ChainG P l nt env0 bs0 es X BX → l[es.length]? = some o → fits nt o.dst = true → VE P l nt o X BX e →
      ChainG P l nt env0 bs0 (es ++ [e]) (put X o.dst e.p) (setB BX e.ws)

theorem getD_ws_lt {es : List Eff} {k : Nat} {m : Loc} (h : hasLab (es.getD k default).ws m = true) : k < es.length := by
  rcases Nat.lt_or_ge k es.length with h1 | h1
  · exact h1
  · rw [List.getD_eq_getElem?_getD, List.getElem?_eq_none h1] at h
    exact absurd h (by have e0 : (none.getD default : Eff).ws = [] := rfl
                       rw [e0]; simp [hasLab])

theorem ChainG.spec (hD : ∀ i o d, l[i]? = some o → o.dst = some d → dstIdx l 0 d = some i) {es : List Eff} {X : List (Nat × PV)} {BX : List (Loc × Obj)} (h : ChainG P l nt env0 bs0 es X BX) : es.length ≤ l.length ∧
    (∀ t, envAt X t = EnvG l env0 es (fun j => decide (j < es.length)) t) ∧ (∀ m, objAt BX m = objS (fun _ => true) 0 es (objAt bs0) m) ∧
    (∀ k, k < es.length → ∃ o Y BY, l[k]? = some o ∧ fits nt o.dst = true ∧ VE P l nt o Y BY (es.getD k default) ∧ (∀ t, envAt Y t = EnvG l env0 es (fun j => decide (j < k)) t) ∧
      ∀ m, objAt BY m = objS (fun j => decide (j < k)) 0 es (objAt bs0) m) := by
  induction h with
  | nil =>
    refine ⟨Nat.zero_le _, fun t => ?_, fun m => rfl, fun k hk => by simp at hk⟩
    unfold EnvG
    cases dstIdx l 0 t <;> simp
  | @snoc es X BX o e hc hi hd hv ih =>
    obtain ⟨h1, h2, h3, h4⟩ := ih
    have hlt : es.length < l.length := (List.getElem?_eq_some_iff.1 hi).1
    have gold : ∀ j, j < es.length → (es ++ [e]).getD j default = es.getD j default := fun j hj => by
      simp [List.getD_eq_getElem?_getD, List.getElem?_append_left hj]
    have gnew : (es ++ [e]).getD es.length default = e := by simp [List.getD_eq_getElem?_getD]
    have envK : ∀ k, k ≤ es.length → ∀ t, EnvG l env0 es (fun j => decide (j < k)) t = EnvG l env0 (es ++ [e]) (fun j => decide (j < k)) t := by
      intro k hk t
      unfold EnvG
      cases dstIdx l 0 t with
      | none => rfl
      | some j =>
        by_cases hq : j < k
        · simp only [hq, decide_true, if_true]
          rw [gold j (by omega)]
        · simp [hq]
    have objK : ∀ k, k ≤ es.length → ∀ m, objS (fun j => decide (j < k)) 0 es (objAt bs0) m = objS (fun j => decide (j < k)) 0 (es ++ [e]) (objAt bs0) m := by
      intro k hk m
      rw [objS_append]
      simp only [objS, Nat.zero_add]
      rw [if_neg (by simp; omega)]
    have other : ∀ t, o.dst ≠ some t → dstIdx l 0 t ≠ some es.length := by
      intro t ht e1
      obtain ⟨k, o', e2, e3, e4⟩ := dstIdx_spec e1
      have : k = es.length := by omega
      subst this
      rw [hi] at e3
      cases e3
      exact ht e4
    have same : ∀ t, o.dst ≠ some t → envAt X t = EnvG l env0 (es ++ [e]) (fun j => decide (j < es.length + 1)) t := by
      intro t ht
      rw [h2 t, envK _ (Nat.le_refl _) t]
      unfold EnvG
      cases hj : dstIdx l 0 t with
      | none => rfl
      | some j =>
        have hji : j ≠ es.length := fun e => other t ht (by rw [hj, e])
        by_cases hq : j < es.length
        · simp [hq, show j < es.length + 1 by omega]
        · simp [hq, show ¬ j < es.length + 1 by omega]
    refine ⟨by rw [List.length_append, List.length_singleton]; exact hlt, fun t => ?_, fun m => ?_, fun k hk => ?_⟩
    · rw [List.length_append, List.length_singleton]
      cases hd' : o.dst with
      | none => exact same t (by rw [hd']; simp)
      | some d =>
        simp only [put, envAt]
        cases hbt : Nat.beq d t with
        | true =>
          have := Nat.eq_of_beq_eq_true hbt
          subst this
          simp only [cond_true, EnvG, hD _ o d hi hd']
          rw [if_pos (by simp), gnew]
        | false =>
          have htd : d ≠ t := fun e => by subst e; simp at hbt
          exact same t (by rw [hd']; simpa using htd)
    · rw [objAt_setB, objS_append]
      simp only [objS, if_true]
      exact updB_congr (h3 m)
    · rw [List.length_append, List.length_singleton] at hk
      by_cases hke : k = es.length
      · subst hke
        refine ⟨o, X, BX, hi, hd, by rw [gnew]; exact hv, fun t => ?_, fun m => ?_⟩
        · rw [h2 t]
          exact envK _ (Nat.le_refl _) t
        · rw [h3 m, ← objK _ (Nat.le_refl _) m]
          exact objS_agree es 0 rfl (fun k hk => by have := getD_ws_lt hk; simp [this])
      · obtain ⟨o', Y, BY, k1, k2, k3, k4, k5⟩ := h4 k (by omega)
        refine ⟨o', Y, BY, k1, k2, by rw [gold k (by omega)]; exact k3, fun t => ?_, fun m => ?_⟩
        · rw [k4 t]
          exact envK k (by omega) t
        · rw [k5 m]
          exact objK k (by omega) m

theorem closed_add {S : Nat → Bool} (hS : Closed l S) {i : Nat} {o : Oper} (hi : l[i]? = some o) (hready : ∀ j ∈ binding o, S j = true) : Closed l (fun k => S k || decide (k = i)) := by
  intro k o' hk hSk q hq
  simp only [Bool.or_eq_true, decide_eq_true_eq] at hSk ⊢
  rcases hSk with hSk | rfl
  · exact .inl (hS k o' hk hSk q hq)
  · rw [hi] at hk
    cases hk
    exact .inl (hready q hq)
/-- In a settled order, what is done is what comes before. -/
theorem Settled.done {i j : Nat} (h : Settled l i j) {o : Oper} (hi : l[i]? = some o) {S : Nat → Bool} (hS : Closed l S) (hni : S i = false) (hready : ∀ j ∈ binding o, S j = true) : S j = decide (j < i) := by
  rcases h.h with ⟨h1, h2⟩ | ⟨h1, h2⟩
  · have h3 := h2 _ (closed_add hS hi hready) (by simp)
    simp only [Bool.or_eq_true, decide_eq_true_eq] at h3
    rw [h3.resolve_right (by omega)]
    simp [h1]
  · have h3 : S j = false := by
      cases hSj : S j with
      | false => rfl
      | true =>
        have := h2 S hS hSj
        rw [hni] at this
        cases this
    simp [h3, show ¬ j < i by omega]

theorem RelG.putG {g' : Gh} {E E' : Nat → PV} {B : Loc → Option Obj} {tmps : Array Value} {w' : World} (h' : RelG g' nt E B tmps w') {dst : Option Nat} {v : Value} {p : PV} {ds : List Deferred} (hd : fits nt dst = true) (hv : RepP g' p v)
    (hE : ∀ t, E' t = if dst = some t then p else E t) : RelG g' nt E' B ((⟨tmps, ds⟩ : Act).put dst v).tmps w' := by
  cases dst with
  | none =>
    have e : ((⟨tmps, ds⟩ : Act).put none v).tmps = tmps := rfl
    rw [e]
    exact h'.congr (fun t => by rw [hE t]; simp) (fun _ => rfl)
  | some d =>
    have hd' : d < nt := Nat.blt_eq.mp hd
    have e : ((⟨tmps, ds⟩ : Act).put (some d) v).tmps = tmps.setIfInBounds d v := rfl
    rw [e]
    refine ⟨by simpa using h'.len, fun t => ?_, h'.box, h'.prom, h'.glob⟩
    rw [hE t]
    by_cases ht : t = d
    · subst ht
      rw [if_pos rfl, Array.getD_eq_getD_getElem?, Array.getElem?_setIfInBounds_self_of_lt (by rw [h'.len]; exact hd')]
      exact hv
    · rw [if_neg (by simpa using fun e => ht e.symm), Array.getD_eq_getD_getElem?, Array.getElem?_setIfInBounds_ne (fun e => ht e.symm), ← Array.getD_eq_getD_getElem?]
      exact h'.env t

theorem wpAny_chainG {es : List Eff} (hO : EffOK l es env0 bs0) {X : List (Nat × PV)} {BX : List (Loc × Obj)} (hC : ChainG P l nt env0 bs0 es X BX) (hlen : es.length = l.length) {Q : Exit → Act → World → Prop} {ds : List Deferred} :
    ∀ (fuel : Nat) (listed : Array Bool) (g : Gh) (tmps : Array Value) (w : World), listed.size = l.length → listed.toList.countP (fun b => !b) ≤ fuel → Closed l (fun k => listed.getD k false) →
      RelG g nt (EnvG l env0 es (fun k => listed.getD k false)) (objS (fun k => listed.getD k false) 0 es (objAt bs0)) tmps w →
      (∀ g' tmps' w', Rel g' ⟨nt, X, BX⟩ tmps' w' → Ext g w g' w' → Q .normal ⟨tmps', ds⟩ w') → wpAny P .any l.toArray Q fuel listed ⟨tmps, ds⟩ w := by
  have hS := hC.spec hO.dst
  intro fuel
  have fin : ∀ (listed : Array Bool) (g : Gh) (tmps : Array Value) (w : World), listed.size = l.length → Closed l (fun k => listed.getD k false) →
      RelG g nt (EnvG l env0 es (fun k => listed.getD k false)) (objS (fun k => listed.getD k false) 0 es (objAt bs0)) tmps w →
      (∀ g' tmps' w', Rel g' ⟨nt, X, BX⟩ tmps' w' → Ext g w g' w' → Q .normal ⟨tmps', ds⟩ w') → (∀ k, k < l.length → listed.getD k false = true) → Q .normal ⟨tmps, ds⟩ w := by
    intro listed g tmps w hs hcl hr hQ hall
    refine hQ g tmps w (RelG.toRel (hr.congr (fun t => ?_) (fun q => ?_))) (Ext.refl g w)
    · rw [hS.2.1 t]
      unfold EnvG
      cases hj : dstIdx l 0 t with
      | none => rfl
      | some j =>
        obtain ⟨k, o, e1, e2, e3⟩ := dstIdx_spec hj
        have hlt : j < l.length := by
          have := (List.getElem?_eq_some_iff.1 e2).1
          omega
        simp [hall j hlt, hlen, hlt]
    · rw [hS.2.2.1 q]
      exact objS_agree es 0 rfl (fun k hk => by
        have := getD_ws_lt hk
        rw [Nat.zero_add, hall k (by omega)])
  have notready : ∀ (listed : Array Bool), listed.size = l.length → Region.ready .any l.toArray listed = [] → ∀ k, k < l.length → listed.getD k false = true := by
    intro listed hs hr k
    induction k using Nat.strongRecOn with
    | _ k ih =>
      intro hk
      cases hb : listed.getD k false with
      | true => rfl
      | false =>
        exfalso
        have hm : k ∈ Region.ready .any l.toArray listed := by
          refine mem_ready.2 ⟨?_, l[k], by simp [hk], fun e he hbd => ?_⟩
          · have hk' : k < listed.size := by omega
            simpa [Array.getD_eq_getD_getElem?, hk'] using hb
          · have hjb : e.on ∈ binding l[k] := by
              unfold binding
              exact List.mem_filterMap.2 ⟨e, by simpa using he, by simp [hbd]⟩
            have := hO.back k l[k] (by simp [hk]) _ hjb
            exact ih e.on this (by omega)
        rw [hr] at hm
        cases hm
  induction fuel with
  | zero =>
    intro listed g tmps w hs hc hcl hr hQ
    have hall : ∀ k, k < l.length → listed.getD k false = true := by
      intro k hk
      have h0 : listed.toList.countP (fun b => !b) = 0 := by omega
      rw [List.countP_eq_zero] at h0
      have hk' : k < listed.size := by omega
      have := h0 listed[k] (by simp)
      simpa [Array.getD_eq_getD_getElem?, hk'] using this
    refine ⟨?_, fin listed g tmps w hs hcl hr hQ hall⟩
    apply List.eq_nil_iff_forall_not_mem.2
    intro i hi
    obtain ⟨h1, o, h2, h3⟩ := mem_ready.1 hi
    have hil : i < l.length := by
      have := (Array.getElem?_eq_some_iff.1 h2).1
      simpa using this
    have hk' : i < listed.size := by omega
    have := hall i hil
    simp [Array.getD_eq_getD_getElem?, hk'] at this h1
    rw [this] at h1
    cases h1
  | succ fuel ih =>
    intro listed g tmps w hs hc hcl hr hQ
    refine ⟨fun h0 => fin listed g tmps w hs hcl hr hQ (notready listed hs h0), fun i hi => ?_⟩
    obtain ⟨h1, o, h2, h3⟩ := mem_ready.1 hi
    have hil : i < l.length := by
      have := (Array.getElem?_eq_some_iff.1 h2).1
      simpa using this
    have hi' : i < listed.size := by omega
    have h2' : l[i]? = some o := by simpa using h2
    have hf : listed[i] = false := by simpa [Array.getD_eq_getD_getElem?, hi'] using h1
    have hni : listed.getD i false = false := by simp [Array.getD_eq_getD_getElem?, hi', hf]
    obtain ⟨o', Y, BY, e1, e3, hV, hY, hBY⟩ := hS.2.2.2 i (by omega)
    rw [h2'] at e1
    cases e1
    have hready : ∀ j ∈ binding o, listed.getD j false = true := by
      intro j hj
      unfold binding at hj
      obtain ⟨e, he, hee⟩ := List.mem_filterMap.1 hj
      split at hee
      · rename_i hb
        cases hee
        exact h3 e (by simpa using he) hb
      · cases hee
    have hset : (fun k => (listed.setIfInBounds i true).getD k false) = fun k => listed.getD k false || decide (k = i) := by
      funext k
      by_cases hik : i = k
      · subst hik
        simp [Array.getD_eq_getD_getElem?, hi']
      · rw [getD_set_ne false hik]
        have : decide (k = i) = false := by simpa using fun e => hik e.symm
        rw [this, Bool.or_false]
    have hnewS : ∀ j, j < l.length → listed.getD j false = true → (es.getD i default).new ≠ [] → namesOK (An (es.getD i default).new) (es.getD j default).p = true ∧ ∀ m c, (m, some c) ∈ (es.getD j default).ws → namesO (An (es.getD i default).new) c = true := by
      intro j hj hSj hne
      have hji : j ≠ i := by
        rintro rfl
        rw [hni] at hSj
        cases hSj
      rcases hO.new i hil hne j hj hji with h | h
      · have := h _ hcl hSj
        rw [hni] at this
        cases this
      · exact h
    have key := hV (EnvG l env0 es (fun k => listed.getD k false)) (objS (fun k => listed.getD k false) 0 es (objAt bs0)) (fun t ht => by
        rw [hY t]
        unfold EnvG
        cases hj : dstIdx l 0 t with
        | none => rfl
        | some j => simp only [(hO.settled i o h2' t ht j hj).done h2' hcl hni hready])
      (fun m hm => by
        rw [hBY m]
        refine objS_agree es 0 rfl (fun k hk => ?_)
        have hk' := getD_ws_lt hk
        rw [Nat.zero_add]
        by_cases hki : k = i
        · subst hki
          rw [hni]
          simp
        · exact (hO.labs i hil m hm k (by omega) hki hk).done h2' hcl hni hready)
      (fun t => by
        by_cases hne : (es.getD i default).new = []
        · rw [hne]; exact namesOK_true An_nil _
        · unfold EnvG
          cases hj : dstIdx l 0 t with
          | none => exact cleanN_env (hO.new0 i hil hne) t
          | some j =>
            obtain ⟨k, o3, q1, q2, q3⟩ := dstIdx_spec hj
            have hjl : j < l.length := by
              have := (List.getElem?_eq_some_iff.1 q2).1
              omega
            show namesOK _ (if _ then _ else _) = true
            split
            · rename_i hSj
              exact (hnewS j hjl hSj hne).1
            · exact cleanN_env (hO.new0 i hil hne) t)
      (fun q c hq => by
        by_cases hne : (es.getD i default).new = []
        · rw [hne]; exact namesO_true An_nil _
        · rcases objS_mem es 0 hq with h | ⟨k, k1, k2, k3⟩
          · exact cleanN_obj (hO.new0 i hil hne) h
          · rw [Nat.zero_add] at k2
            exact (hnewS k (by omega) k2 hne).2 q c k3)
      g tmps ds w hr (wpAny P .any l.toArray Q fuel (listed.setIfInBounds i true)) Q (fun v g' w' hv hr' hx => by
        rw [put_eta]
        refine ih _ g' _ w' (by simpa using hs) ?_ ?_ ?_ (fun g2 t2 w2 hR hX => hQ g2 t2 w2 hR (hx.trans hX))
        · have : (listed.setIfInBounds i true).toList = listed.toList.set i true := by simp
          rw [this, List.countP_set (by simpa using hi')]
          have : listed.toList[i]'(by simpa using hi') = false := by simpa using hf
          rw [this]
          have : 0 < listed.toList.countP (fun b => !b) := List.countP_pos_iff.2 ⟨false, by rw [← hf]; simp, rfl⟩
          simp only [Bool.not_false, Bool.not_true, if_true, Bool.false_eq_true, if_false]
          omega
        · rw [hset]
          exact closed_add hcl h2' hready
        · have hobj : ∀ m, objS (fun k => listed.getD k false || decide (k = i)) 0 es (objAt bs0) m = updB (objS (fun k => listed.getD k false) 0 es (objAt bs0)) (es.getD i default).ws m := fun m => by
            have := objS_add es 0 i (S := fun k => listed.getD k false) (B := objAt bs0) (m := m) (Nat.zero_le _) (by omega) hni (fun hl k hk1 hk2 hk3 => by
              rw [Nat.zero_add] at hk2 ⊢
              rw [Nat.sub_zero] at hl
              have hs2 := hO.labs i hil m (hO.sub i hil m hl) k (by omega) (by omega) hk3
              have := hs2.done h2' hcl hni hready
              simpa [show ¬ k < i by omega] using this)
            simpa using this
          rw [hset]
          refine RelG.putG (hr'.congr (fun _ => rfl) hobj) e3 hv (fun t => ?_)
          unfold EnvG
          cases hj : dstIdx l 0 t with
          | none =>
            have : o.dst ≠ some t := fun e => by
              have := hO.dst i o t h2' e
              rw [hj] at this
              cases this
            rw [if_neg this]
          | some j =>
            by_cases hd : o.dst = some t
            · have := hO.dst i o t h2' hd
              rw [hj] at this
              cases this
              simp [hd]
            · have hij : j ≠ i := by
                rintro rfl
                obtain ⟨k, o3, q1, q2, q3⟩ := dstIdx_spec hj
                have : k = j := by omega
                subst this
                rw [h2'] at q2
                cases q2
                exact hd q3
              simp [hd, hij])
    unfold wpOp
    rw [h2]
    show if _ then _ else _
    split
    · rename_i hw
      rw [if_pos hw] at key
      exact .inl key
    · rename_i hw
      rw [if_neg hw] at key
      exact key

/-- The state before the rest of a region that draws its order. -/
def DG (P : Program) (l : List Oper) (Q : AEx → St → Prop) (nt : Nat) (env0 : List (Nat × PV)) (bs0 : List (Loc × Obj)) (rest : List Oper) (es : List Eff) (X : List (Nat × PV)) (BX : List (Loc × Obj)) : Prop :=
  (∀ k, rest[k]? = l[es.length + k]?) → ChainG P l nt env0 bs0 es X BX → ∃ fs Y BY, ChainG P l nt env0 bs0 fs Y BY ∧ fs.length = l.length ∧ effOk l fs env0 bs0 = true ∧ Q .normal ⟨nt, Y, BY⟩

theorem AW.drawnG {id : Nat} {Q : AEx → St → Prop} (hm : P.follows .mixedOrders = true) (h : DG P l Q nt env0 bs0 l [] env0 bs0) : AW P (.region id l.toArray true) Q ⟨nt, env0, bs0⟩ := by
  intro g tmps ds w hr
  obtain ⟨fs, Y, BY, hC, hl, hO, hQ⟩ := h (fun k => by simp) .nil
  refine wp_region_any hm ?_
  have hr' : Rel g ⟨nt, env0, bs0⟩ tmps w.drew := ⟨hr.len, hr.env, hr.mem.drew⟩
  have hno : ∀ k, (Array.replicate l.toArray.size false).getD k false = false := fun k => by
    by_cases hk : k < l.length
    · simp [Array.getD_eq_getD_getElem?, hk]
    · simp [Array.getD_eq_getD_getElem?, hk]
  refine wpAny_chainG (effOk_spec hO) hC hl _ _ g tmps w.drew (by simp) ?_ ?_ (hr'.toG.congr (fun t => ?_) (fun q => ?_)) (fun g' tmps' w' hR hX => ⟨_, g', hQ, hR, (Ext.drew g w).trans hX, rfl⟩)
  · refine Nat.le_trans List.countP_le_length (by simp)
  · intro k o hk hS
    have hS' := (hno k).symm.trans hS
    cases hS'
  · unfold EnvG
    cases dstIdx l 0 t with
    | none => rfl
    | some j =>
      show (if (Array.replicate l.toArray.size false).getD j false = true then _ else _) = envAt env0 t
      rw [hno j]
      simp
  · have h5 : ∀ (r : List Eff) (i : Nat) (B : Loc → Option Obj), objS (fun k => (Array.replicate l.toArray.size false).getD k false) i r B = B := by
      intro r
      induction r with
      | nil => intro i B; rfl
      | cons e r ih => intro i B; simp only [objS, hno i, Bool.false_eq_true, if_false]; exact ih _ _
    rw [h5]

theorem DG.nil {Q : AEx → St → Prop} {es : List Eff} {X : List (Nat × PV)} {BX : List (Loc × Obj)} (hO : effOk l es env0 bs0 = true) (h : Q .normal ⟨nt, X, BX⟩) : DG P l Q nt env0 bs0 [] es X BX := by
  intro hl hc
  have hi : l.length ≤ es.length := by
    have := hl 0
    simpa using this.symm
  have hb := (hc.spec (effOk_spec hO).dst).1
  exact ⟨es, X, BX, hc, by omega, hO, h⟩
theorem DG.step {Q : AEx → St → Prop} {es : List Eff} {o : Oper} {rest : List Oper} {X : List (Nat × PV)} {BX : List (Loc × Obj)} (e : Eff) (hv : VE P l nt o X BX e) (hd : fits nt o.dst = true)
    (h : DG P l Q nt env0 bs0 rest (es ++ [e]) (put X o.dst e.p) (setB BX e.ws)) : DG P l Q nt env0 bs0 (o :: rest) es X BX := by
  intro hl hc
  refine h (fun k => ?_) (hc.snoc (by simpa using (hl 0).symm) hd hv)
  have := hl (k + 1)
  rw [List.length_append, List.length_singleton]
  simpa [Nat.add_assoc, Nat.add_comm 1 k] using this
end
end Go.Pv
namespace Go.Pv
open Go.RowKit

/-! ### Value operations, operations not wanted -/
theorem keepBoxes_mem (bs : List (Loc × Obj)) : ∀ (l : List Loc) {m : Loc} {c : Obj}, objAt (keepBoxes bs l) m = some c → m ∈ l ∧ objAt bs m = some c
  | [], m, c, h => by simp [keepBoxes, objAt] at h
  | j :: r, m, c, h => by
    simp only [keepBoxes] at h
    split at h
    · rename_i a ha
      simp only [objAt] at h
      cases hb : Loc.eqb j m with
      | true =>
        have e := Loc.eqb_iff.1 hb
        subst e
        rw [hb] at h
        simp at h
        subst h
        exact ⟨by simp, ha⟩
      | false =>
        rw [hb] at h
        obtain ⟨h1, h2⟩ := keepBoxes_mem bs r h
        exact ⟨by simp [h1], h2⟩
    · obtain ⟨h1, h2⟩ := keepBoxes_mem bs r h
      exact ⟨by simp [h1], h2⟩

theorem RelG.keep {g : Gh} {nt : Nat} {E : Nat → PV} {B : Loc → Option Obj} {tmps : Array Value} {w : World} (h : RelG g nt E B tmps w) {X : List (Nat × PV)} {L : List Nat} (hE : ∀ t ∈ L, E t = envAt X t)
    {BX : List (Loc × Obj)} {ls : List Loc} (hB : ∀ m ∈ ls, B m = objAt BX m) : Rel g ⟨nt, keepEnv X L, keepBoxes BX ls⟩ tmps w := by
  refine ⟨h.len, fun i => ?_, ⟨fun l o hl => ?_, h.prom, h.glob⟩⟩
  · show RepP g (envAt (keepEnv X L) i) _
    have : ∀ (L : List Nat), (∀ t ∈ L, E t = envAt X t) → envAt (keepEnv X L) i = .any ∨ envAt (keepEnv X L) i = E i := by
      intro L
      induction L with
      | nil => intro _; exact .inl rfl
      | cons j r ih =>
        intro hL
        simp only [keepEnv, envAt]
        cases hb : Nat.beq j i with
        | true => have := Nat.eq_of_beq_eq_true hb; subst this; exact .inr (hL j (by simp)).symm
        | false => exact ih (fun t ht => hL t (by simp [ht]))
    rcases this L hE with h1 | h1
    · rw [h1]; trivial
    · rw [h1]; exact h.env i
  · obtain ⟨h1, h2⟩ := keepBoxes_mem BX ls hl
    exact h.box l o (by rw [hB l h1]; exact h2)

def topL : PV → List Loc
  | .ptr l _ => [l]
  | .pe l _ _ _ => [l]
  | .sl l _ => [l]
  | _ => []
def topO (X : List (Nat × PV)) : Operand → List Loc
  | .tmp t => topL (envAt X t)
  | _ => []
/-- The objects that a value operation looks at. -/
def tops (X : List (Nat × PV)) : Op → List Loc
  | .load _ a => topO X a
  | .indexAddr _ x _ => topO X x
  | .call c => c.args.toList.flatMap (topO X)
  | _ => []

section
variable {P : Program} {l : List Oper} {nt : Nat} {o : Oper} {X : List (Nat × PV)} {BX : List (Loc × Obj)}
theorem VE.val {T : Tab} {E0 : EqTab} (hT : TabOK P T) (hE0 : EqOK P E0) {p p' : PV} {φ : Prop} (hg : guardV l (keepEnv X (looks l o)) o.guard = some true)
    (he : evX T E0 (keepEnv X (looks l o)) (keepBoxes BX (tops X o.op)) o.op = some (p', φ)) (hφ : φ) (hp : p' = p) : VE P l nt o X BX ⟨p, tops X o.op, [], []⟩ := by
  subst hp
  intro E B hE hB _ _ g tmps ds w hr K Q' hK
  have hk := hr.keep hE hB
  rw [if_pos (guardV_wanted hk hg)]
  obtain ⟨v, h1, h2⟩ := evX_sound hT hE0 (opnd_rep hk ds) hk.mem o he hφ
  unfold Oper.wp
  rw [h1]
  exact hK v g w h2 hr (Ext.refl g w)
theorem VE.off (hg : guardV l (keepEnv X (looks l o)) o.guard = some false) : VE P l nt o X BX ⟨.any, [], [], []⟩ := by
  intro E B hE hB _ _ g tmps ds w hr K Q' hK
  rw [if_neg (by rw [guardV_wanted (hr.keep hE hB) hg]; simp)]
  exact hK undef g w trivial hr (Ext.refl g w)

/-! ### Calls -/
def locNats : List Loc → List Nat
  | [] => []
  | .loc d :: r => d :: locNats r
  | .par _ :: r => locNats r
theorem An_locNats : ∀ {ex : List Loc} {l : Loc}, locsOnly ex = true → An (locNats ex) l = true → l ∉ ex
  | [], l, _, _ => by simp
  | .loc d :: r, l, h1, h2 => by
    simp only [An, locNats, List.all_cons, Bool.and_eq_true] at h2
    have h3 := An_locNats (ex := r) (l := l) h1 h2.2
    simp only [List.mem_cons, not_or]
    refine ⟨isLoc_ne h2.1, h3⟩
  | .par _ :: _, l, h1, _ => by simp [locsOnly] at h1

theorem updB_some {js0 : List Loc} : ∀ {js : List Loc} {cs : List Obj} {B : Loc → Option Obj} {q : Loc} {c : Obj}, distinct js = true → cs.length = js.length → updB B ((outObjs js0 js cs).map fun x => (x.1, some x.2)) q = some c →
    (∃ (j : Nat) (o0 : Obj), js[j]? = some q ∧ cs[j]? = some o0 ∧ c = o0.map (unrenL js0)) ∨ (q ∉ js ∧ B q = some c)
  | [], [], B, q, c, _, _, h => .inr ⟨by simp, by simpa [outObjs, updB] using h⟩
  | [], _ :: _, _, _, _, _, hl, _ => by simp at hl
  | _ :: _, [], _, _, _, _, hl, _ => by simp at hl
  | a :: r, x :: cs, B, q, c, hd, hl, h => by
    simp only [outObjs, List.map_cons, updB] at h
    simp only [distinct, Bool.and_eq_true, Bool.not_eq_true', List.any_eq_false] at hd
    rcases updB_some (js := r) (cs := cs) hd.2 (by simpa using hl) h with ⟨j, o0, h1, h2, h3⟩ | ⟨h1, h2⟩
    · exact .inl ⟨j + 1, o0, by simpa using h1, by simpa using h2, h3⟩
    · simp only [upd1] at h2
      split at h2
      · rename_i e
        subst e
        simp only [Option.some.injEq] at h2
        exact .inl ⟨0, x, rfl, rfl, h2.symm⟩
      · rename_i e
        exact .inr ⟨by simp only [List.mem_cons, not_or]; exact ⟨fun e' => e e'.symm, h1⟩, h2⟩

theorem distinct_left : ∀ {a b : List Loc}, distinct (a ++ b) = true → distinct a = true
  | [], _, _ => rfl
  | x :: a, b, h => by
    simp only [List.cons_append, distinct, Bool.and_eq_true, Bool.not_eq_true', List.any_eq_false, List.mem_append] at h ⊢
    exact ⟨fun y hy => h.1 y (.inl hy), distinct_left h.2⟩

/-- A call, the objects at js handed in (none of them moves), new ones at ex. -/
theorem VE.call {f : FuncId} {ps : List PV} {par qs : List Obj} {q : PV} {R : AOut → List Obj → Prop} (js ex : List Loc) (hg : guardV l (keepEnv X (looks l o)) o.guard = some true) (hc : callOf (keepEnv X (looks l o)) o.op = some (f, ps))
    (hd : (distinct (js ++ ex) && locsOnly ex) = true) (hin : winIn js (keepBoxes BX js) js = some par) (hmv : moved (keepBoxes BX js) js = []) (h : AF P f (renL js ps) par R)
    (hR : ∀ out par', R out par' → out = .ret q ∧ par' = qs) (hlen : Nat.beq qs.length (js ++ ex).length = true) :
    VE P l nt o X BX ⟨unren (js ++ ex) q, js ++ ex, (outObjs (js ++ ex) (js ++ ex) qs).map (fun x => (x.1, some x.2)), locNats ex⟩ := by
  intro E B hE hB hnE hnB g tmps ds w hr K Q' hK
  simp only [Bool.and_eq_true] at hd
  have hk := hr.keep hE (ls := js) (fun m hm => hB m (by simp [hm]))
  rw [if_pos (guardV_wanted hk hg)]
  obtain ⟨vs, h1, h2⟩ := callOf_run (P := P) (opnd_rep hk ds) hc h.enters w
  unfold Oper.wp
  rw [h1]
  simp only [Oper.upon]
  obtain ⟨hl1, hin2⟩ := winIn_get hin
  have hfx : ∀ i, par.length ≤ i → (g.win js).fx (.par i) = false := by
    intro i hi
    have : js[i]? = none := by rw [List.getElem?_eq_none_iff, ← hl1]; exact hi
    simp [Gh.win, this]
  refine (h.calls (g.win js) w vs hfx (renL_rep _ _ h2) (hk.mem.win (distinct_left hd.1) hin)).mono ?_
  rintro e w' ⟨out, par', g', hlen', hp⟩
  obtain ⟨rfl, rfl⟩ := hR _ _ hp.holds
  have hO := hp.outs
  obtain ⟨v, rfl, hv⟩ := hO
  have hlen2 : par'.length = (js ++ ex).length := Nat.eq_of_beq_eq_true hlen
  have hx := hp.ext
  have hidx : ∀ (j : Nat) (l : Loc), (js ++ ex)[j]? = some l → locIdx (js ++ ex) 0 l = some j := fun j l hl => by
    have := locIdx_of_distinct (i := 0) hd.1 hl
    simpa using this
  have hβ : ∀ (i : Nat) (l : Loc), (js ++ ex)[i]? = some l → g'.β (.par i) = (g.back g' w.heap.size (js ++ ex)).β l ∧ g'.ρ (.par i) = (g.back g' w.heap.size (js ++ ex)).ρ l := by
    intro i l hl
    simp [Gh.back, hidx i l hl]
  have hpar : ∀ (j : Nat) (l : Loc), js[j]? = some l → ∃ o, objAt (keepBoxes BX js) l = some o := by
    intro j l hl
    have hj : j < par.length := by rw [hl1]; exact (List.getElem?_eq_some_iff.1 hl).1
    obtain ⟨l', c0, h1, h2, _⟩ := hin2 j par[j] (List.getElem?_eq_getElem hj)
    rw [hl] at h1
    cases h1
    exact ⟨c0, h2⟩
  have hfixed : ∀ (j : Nat) (l : Loc), js[j]? = some l → g.fx l = true := by
    intro j l hj1
    obtain ⟨c, hc⟩ := hpar j l hj1
    have h1 := hk.mem.box l c hc
    have h2 := moved_spec (List.mem_of_getElem? hj1) (by rw [hmv]; simp) c hc
    cases c with
    | cells cs => obtain ⟨_, _, _, _, _, h3, _⟩ := h1; exact h3
    | arr b e k n F foc =>
      obtain ⟨_, _, _, _, _, _, h3, _⟩ := h1
      cases b with
      | true => exact h3
      | false => exact absurd rfl (h2.1 e k n F foc)
    | gone b n => exact absurd rfl (h2.2 b n)
    | nest e n e1 k1 N F foc => obtain ⟨_, _, _, _, _, h3, _⟩ := h1; exact h3
  have hag : ∀ l, An (locNats ex) l = true → (g.back g' w.heap.size (js ++ ex)).β l = g.β l ∧ (g.back g' w.heap.size (js ++ ex)).ρ l = g.ρ l := by
    intro l hl
    have hl' := An_locNats hd.2 hl
    by_cases hmem : l ∈ js
    · obtain ⟨j, hj, hjl⟩ := List.getElem_of_mem hmem
      have hj1 : js[j]? = some l := by rw [List.getElem?_eq_getElem hj, hjl]
      have hj2 : (js ++ ex)[j]? = some l := by rw [List.getElem?_append_left hj]; exact hj1
      have := hx.par j (by simp [Gh.win, hj1, hfixed j l hj1])
      simp only [Gh.back, hidx j l hj2]
      have e1 : (g.win js).β (.par j) = g.β l := by simp [Gh.win, hj1]
      have e2 : (g.win js).ρ (.par j) = g.ρ l := by simp [Gh.win, hj1]
      exact ⟨this.1.trans e1, this.2.1.trans e2⟩
    · have hnone : locIdx (js ++ ex) 0 l = none := locIdx_mem.2 (by simp [hmem, hl'])
      simp [Gh.back, hnone]
  have hkeep : ∀ b, b < w.heap.size → (g.win js).ω b = .none → w'.heap[b]? = w.heap[b]? ∧ g'.ω b = .none ∧ ∀ o, g'.π b o = g.π b o := fun b hb ho => hx.keep b hb ho
  have hExt : Ext g w (g.back g' w.heap.size (js ++ ex)) w' := by
    refine ⟨hx.π, hx.size, hx.os, hx.tape, hx.output, fun i hi => ?_, fun b hb ho => ?_⟩
    · by_cases hmem : Loc.par i ∈ js ++ ex
      · have hmj : Loc.par i ∈ js := by
          rcases List.mem_append.1 hmem with h | h
          · exact h
          · exact absurd h (locsOnly_spec hd.2 i)
        obtain ⟨j, hj, hjl⟩ := List.getElem_of_mem hmj
        have hj1 : js[j]? = some (.par i) := by rw [List.getElem?_eq_getElem hj, hjl]
        have hj2 : (js ++ ex)[j]? = some (.par i) := by rw [List.getElem?_append_left hj]; exact hj1
        have := hx.par j (by simp [Gh.win, hj1, hi])
        simp only [Gh.back, hidx j _ hj2]
        have e1 : (g.win js).β (.par j) = g.β (.par i) := by simp [Gh.win, hj1]
        have e2 : (g.win js).ρ (.par j) = g.ρ (.par i) := by simp [Gh.win, hj1]
        exact ⟨this.1.trans e1, this.2.1.trans e2, this.2.2⟩
      · have hnone : locIdx (js ++ ex) 0 (.par i) = none := locIdx_mem.2 hmem
        exact ⟨by simp [Gh.back, hnone], by simp [Gh.back, hnone], by simpa [Gh.back, hnone] using hi⟩
    · have hw : (g.win js).ω b = .none := by simp [Gh.win, ho]
      obtain ⟨k1, k2, k3⟩ := hkeep b hb hw
      exact ⟨k1, by simp [Gh.back, k2, hb, ho], k3⟩
  refine hK _ (g.back g' w.heap.size (js ++ ex)) w' (unren_rep (g' := g') (g2 := g.back g' w.heap.size (js ++ ex)) rfl hβ _ _ hv) (hr.carry (An (locNats ex)) hnE hnB hx.π hag (fun q c hq => ?_) hp.mem.prom (fun b hb ho => ⟨(hExt.keep b hb ho).1, (hExt.keep b hb ho).2.1⟩)) hExt
  rcases updB_some hd.1 hlen2 hq with ⟨j, o0, h3, h4, rfl⟩ | ⟨hnot, hBq⟩
  · refine .inl ((hp.mem.box (.par j) o0 ((objAt_parFrom par' 0 _ _).2 ⟨j, by simp, h4⟩)).tr (unrenL (js ++ ex)) (fun ps vs h => unrenL_rep (g' := g') (g2 := g.back g' w.heap.size (js ++ ex)) rfl hβ ps vs h) (Prom.le_refl _)
        (hβ j q h3).1.symm (hβ j q h3).2.symm (by simp [Gh.back, hidx j q h3]) (fun b hb _ => ⟨rfl, ?_, fun _ => rfl⟩))
    simp [Gh.back, hb, h3]
  · have hnone : locIdx (js ++ ex) 0 q = none := locIdx_mem.2 hnot
    refine .inr ⟨hBq, ?_, by simp [Gh.back, hnone], fun b hb hlt => ?_⟩
    · cases hA : An (locNats ex) q with
      | true => rfl
      | false =>
        exfalso
        have : ∀ {ex : List Loc}, locsOnly ex = true → An (locNats ex) q = false → q ∈ ex := by
          intro ex
          induction ex with
          | nil => intro _ h; simp [An, locNats] at h
          | cons a r ih =>
            intro h1 h2
            cases a with
            | par i => simp [locsOnly] at h1
            | loc d =>
              simp only [An, locNats, List.all_cons, Bool.and_eq_false_iff, Bool.not_eq_false'] at h2
              rcases h2 with h2 | h2
              · cases q with
                | par i => simp [isLoc] at h2
                | loc e => have := Nat.eq_of_beq_eq_true h2; subst this; simp
              · exact List.mem_cons_of_mem _ (ih h1 h2)
        exact hnot (by simp [this hd.2 hA])
    · have hw : (g.win js).ω b = .none := by
        have : locIdx js 0 q = none := locIdx_mem.2 (fun hm => hnot (by simp [hm]))
        simp [Gh.win, hb, this]
      obtain ⟨k1, k2, k3⟩ := hkeep b hlt hw
      exact ⟨k1, by simp [Gh.back, k2, hlt, hb, hnone], k3⟩
end
end Go.Pv
namespace Go.Pv
open Go.RowKit

/-! ### Primitives on contents -/
theorem An_one {d : Nat} {l : Loc} : An [d] l = true ↔ l ≠ .loc d := by
  simp only [An, List.all_cons, List.all_nil, Bool.and_true]
  constructor
  · exact isLoc_ne
  · intro h
    cases l with
    | par i => rfl
    | loc e =>
      have : e ≠ d := fun e' => h (by rw [e'])
      simp [isLoc, nbeqF this]

theorem RelG.newObj {g g' : Gh} {nt : Nat} {E : Nat → PV} {B : Loc → Option Obj} {tmps : Array Value} {w w' : World} (hr : RelG g nt E B tmps w) {d : Nat} {o : Obj}
    (hnE : ∀ t, namesOK (An [d]) (E t) = true) (hnB : ∀ q c, B q = some c → namesO (An [d]) c = true) (hπ : g'.π = g.π) (hag : ∀ l, l ≠ .loc d → g'.β l = g.β l ∧ g'.ρ l = g.ρ l ∧ g'.fx l = g.fx l) (hω : ∀ c, c < w.heap.size → g'.ω c = g.ω c)
    (hw : ∀ c, c < w.heap.size → w'.heap[c]? = w.heap[c]?) (hs : w.heap.size ≤ w'.heap.size) (hos : w'.os = w.os) (htape : w'.tape = w.tape) (hout : w'.output = w.output)
    (ho : ObjOK g' w' (.loc d) o) : RelG g' nt E (updB B [(.loc d, some o)]) tmps w' ∧ Ext g w g' w' := by
  have hple : Prom.le g.π g'.π := by rw [hπ]; exact Prom.le_refl _
  refine ⟨hr.carry (An [d]) hnE hnB hple (fun l hl => ⟨(hag l (An_one.1 hl)).1, (hag l (An_one.1 hl)).2.1⟩) (fun q c hq => ?_) (fun b o v hp => ?_) (fun b hb ho => ⟨hw b hb, by rw [hω b hb]; exact ho⟩), ⟨hple, hs, hos, htape, hout, fun i hi => ?_, fun b hb ho => ⟨hw b hb, by rw [hω b hb]; exact ho, fun o => by rw [hπ]⟩⟩⟩
  · simp only [updB, upd1] at hq
    split at hq
    · rename_i e
      subst e
      simp only [Option.some.injEq] at hq
      subst hq
      exact .inl ho
    · rename_i hne
      have hne' : q ≠ .loc d := fun e => hne e.symm
      exact .inr ⟨hq, An_one.2 hne', (hag q hne').2.2, fun b hb hlt => ⟨hw b hlt, by rw [hω b hlt]; exact hb, fun o => by rw [hπ]⟩⟩
  · rw [hπ] at hp
    have h2 := hr.prom b o v hp
    have hlt := World.block_lt_of_cell? w _ h2
    rw [cell_heap (hw b hlt)]
    exact h2
  · obtain ⟨h1, h2, h3⟩ := hag (.par i) (by simp)
    exact ⟨h1, h2, by rw [h3]; exact hi⟩

theorem prom_freshG {g : Gh} {nt : Nat} {E : Nat → PV} {B : Loc → Option Obj} {tmps : Array Value} {w : World} (h : RelG g nt E B tmps w) {b : Nat} (hb : w.heap.size ≤ b) (o : Nat) : g.π b o = none := by
  cases hp : g.π b o with
  | none => rfl
  | some v =>
    have := World.block_lt_of_cell? w _ (h.prom b o v hp)
    simp at this
    omega

theorem RelG.setBox {g : Gh} {nt : Nat} {E : Nat → PV} {B : Loc → Option Obj} {tmps : Array Value} {w : World} (hr : RelG g nt E B tmps w) {lo : Loc} {o' : Obj} {cells : Array Value} {cells' : Array Value} {Ty : TypeId}
    (hω : g.ω (g.β lo) = .box lo) (hπ : ∀ q, g.π (g.β lo) q = none) (m1 : w.heap[g.β lo]? = some (.cells cells Ty (0, 0)))
    (hnew : (w.setRow (g.β lo) cells').heap[g.β lo]? = some (.cells cells' Ty (0, 0)) → ObjOK g (w.setRow (g.β lo) cells') lo o') :
    RelG g nt E (updB B [(lo, some o')]) tmps (w.setRow (g.β lo) cells') ∧ Ext g w g (w.setRow (g.β lo) cells') := by
  have far : ∀ b, g.ω b ≠ .box lo → (w.setRow (g.β lo) cells').heap[b]? = w.heap[b]? := fun b hb =>
    setRow_other w (g.β lo) b cells' (fun e => hb (by rw [e]; exact hω))
  refine ⟨hr.carry (fun _ => true) (fun t => namesOK_true (fun _ => rfl) _) (fun q c _ => namesO_true (fun _ => rfl) _) (Prom.le_refl _) (fun _ _ => ⟨rfl, rfl⟩) (fun l c hl => ?_) (fun b o v hp => ?_) (fun b _ ho => ⟨far b (by rw [ho]; simp), ho⟩),
    ⟨Prom.le_refl _, by simp, rfl, rfl, rfl, fun i hi => ⟨rfl, rfl, hi⟩, fun b _ ho => ⟨far b (by rw [ho]; simp), ho, fun _ => rfl⟩⟩⟩
  · simp only [updB, upd1] at hl
    split at hl
    · rename_i e
      subst e
      simp only [Option.some.injEq] at hl
      subst hl
      exact .inl (hnew (setRow_heap w _ _ _ Ty (0, 0) m1))
    · rename_i hne
      exact .inr ⟨hl, rfl, rfl, fun b hb _ => ⟨far b (by rw [hb]; simpa using fun e => hne e.symm), hb, fun _ => rfl⟩⟩
  · have h2 := hr.prom b o v hp
    have hne : b ≠ g.β lo := by
      intro e
      subst e
      rw [hπ o] at hp
      cases hp
    rw [cell_setRow_other w (g.β lo) cells' ⟨b, o, none⟩ hne]
    exact h2

/-- An array goes over into another (grown, shrunk, turned), by a new name. -/
theorem RelG.moveTo {g : Gh} {nt : Nat} {E : Nat → PV} {B : Loc → Option Obj} {tmps : Array Value} {w w' : World} (hr : RelG g nt E B tmps w) {lo : Loc} {d : Nat} {b : Bool} {e k n n1 : Nat} {F F' : Nat → List D} {foc : Option (Nat × List PV)}
    (hnE : ∀ t, namesOK (An [d]) (E t) = true) (hnB : ∀ q c, B q = some c → namesO (An [d]) c = true)
    (hlo : lo ≠ .loc d) (ho : B lo = some (.arr b e k n F foc)) {u v' : Value} (hu : g.ρ lo = some (u, n)) {cs' : List Value} (hown : w'.ownsRow 0 e k v' n1 cs') (hgr : w.grownBy w' u.ownBlock)
    (hblk : ∀ b, v'.ownBlock = some b → u.ownBlock = some b ∨ w.heap.size ≤ b) (h1 : ∀ c ∈ cs', c.oneCell' = true) (hF : ∀ i, i < n1 → RepL g.π (F' i) ((cs'.drop (i * k)).take k)) :
    ∃ g', RelG g' nt E (updB B [(lo, some (.gone b (some n))), (.loc d, some (.arr false e k n1 F' none))]) tmps w' ∧ Ext g w g' w' ∧ RepP g' (.sl (.loc d) n1) v' := by
  obtain ⟨u0, cs, m1, m2, m3, m4, m5, m6⟩ := hr.box lo _ ho
  rw [hu] at m1
  simp only [Option.some.injEq, Prod.mk.injEq, and_true] at m1
  subst m1
  let g' : Gh := { π := g.π, β := fun l => if l = .loc d then v'.ownBlock.getD 0 else g.β l, ρ := fun l => if l = .loc d then some (v', n1) else g.ρ l, ω := fun b => if v'.ownBlock = some b then .box (.loc d) else g.ω b, fx := fun l => if l = .loc d then false else g.fx l }
  have hone : v'.oneCell' = true := by
    rcases hown.2 with ⟨rfl, _⟩ | ⟨_, _, _, rfl, _⟩ <;> rfl
  have hag : ∀ l, An [d] l = true → g'.β l = g.β l ∧ g'.ρ l = g.ρ l := by
    intro l hl
    have := An_one.1 hl
    simp [g', this]
  have hωold : ∀ b, b < w.heap.size → u.ownBlock ≠ some b → g'.ω b = g.ω b := by
    intro b hb hne
    have : v'.ownBlock ≠ some b := by
      intro h
      rcases hblk b h with h | h
      · exact hne h
      · omega
    simp [g', this]
  have hheap : ∀ b, b < w.heap.size → g.ω b ≠ .box lo → w'.heap[b]? = w.heap[b]? ∧ g'.ω b = g.ω b := by
    intro b hb hne
    have hnu : u.ownBlock ≠ some b := fun h => hne (m6 b h).2.1
    exact ⟨hgr.block b hb (fun h => hnu h.symm), hωold b hb hnu⟩
  have hprom : ∀ b, (∃ o, g.π b o ≠ none) → b < w.heap.size ∧ u.ownBlock ≠ some b := by
    rintro b ⟨o, hb⟩
    cases hp : g.π b o with
    | none => exact absurd hp hb
    | some x => exact ⟨World.block_lt_of_cell? w _ (hr.prom b o x hp), fun h => hb ((m6 b h).2.2 o)⟩
  refine ⟨g', hr.carry (An [d]) hnE hnB (Prom.le_refl _) hag (fun l o hl => ?_) (fun b o x hp => ?_) (fun b hb hn => by
      obtain ⟨k1, k2⟩ := hheap b hb (by rw [hn]; simp)
      exact ⟨k1, by rw [k2]; exact hn⟩), ⟨Prom.le_refl _, hgr.size, hgr.os, hgr.tape, hgr.output, fun i hi => ⟨by simp [g'], by simp [g'], by simpa [g'] using hi⟩, fun b hb hn => ?_⟩, hone, fun u' hu' => ?_⟩
  · simp only [updB, upd1] at hl
    split at hl
    · rename_i he
      subst he
      simp only [Option.some.injEq] at hl
      subst hl
      refine .inl ⟨v', cs', by simp [g'], hown, h1, hF, by simp [g'], fun c hc => ⟨by simp [g', hc], by simp [g', hc], fun o => ?_⟩⟩
      show g.π c o = none
      rcases hblk c hc with h | h
      · exact (m6 c h).2.2 o
      · exact prom_freshG hr h o
    · rename_i hne
      split at hl
      · rename_i e
        subst e
        simp only [Option.some.injEq] at hl
        subst hl
        refine .inl ?_
        refine ⟨?_, fun m hm => ?_⟩
        · show (if lo = .loc d then false else g.fx lo) = b
          rw [if_neg hlo]
          exact m5
        · simp only [Option.some.injEq] at hm
          subst hm
          show ∃ a c, (if lo = .loc d then some (v', n1) else g.ρ lo) = _
          rw [if_neg hlo, hu]
          rcases m2.2 with ⟨rfl, rfl⟩ | ⟨_, _, _, rfl, _⟩
          · exact ⟨_, _, rfl⟩
          · exact ⟨_, _, rfl⟩
      · rename_i hne2
        have hld : l ≠ .loc d := fun e => hne e.symm
        refine .inr ⟨hl, An_one.2 hld, by simp [g', hld], fun b hb hlt => ?_⟩
        obtain ⟨k1, k2⟩ := hheap b hlt (by rw [hb]; simpa using fun e => hne2 e.symm)
        exact ⟨k1, by rw [k2]; exact hb, fun _ => rfl⟩
  · obtain ⟨k1, k2⟩ := hprom b ⟨o, by rw [show g.π b o = some x from hp]; simp⟩
    rw [cell_heap (hgr.block b k1 (fun h => k2 h.symm))]
    exact hr.prom b o x hp
  · obtain ⟨k1, k2⟩ := hheap b hb (by rw [hn]; simp)
    exact ⟨k1, by rw [k2]; exact hn, fun _ => rfl⟩
  · have : g'.ρ (.loc d) = some (v', n1) := by simp [g']
    rw [this] at hu'
    simp only [Option.some.injEq, Prod.mk.injEq, and_true] at hu'
    exact hu'

/-! ### What can be appended: data, or what an owned array holds -/
def srcOf (BX : List (Loc × Obj)) : PV → Option ((Nat × Nat × (Nat → List D)) × Prop)
  | .d (.sl k m f) => some ((k, m, fun i => (f i).cells), True)
  | .sl l n => match objAt BX l with
    | some (.arr _ _ k n' F none) => some ((k, n, F), n = n')
    | _ => none
  | _ => none
theorem srcOf_rep {g : Gh} {w : World} {BX : List (Loc × Obj)} (hm : Mem g BX w) {p : PV} {v : Value} (hp : RepP g p v) {k m : Nat} {fc : Nat → List D} {φ : Prop} (h : srcOf BX p = some ((k, m, fc), φ)) (hφ : φ) :
    ∃ a c, v = .slice a m c ∧ (0 < m → ∃ b q news, a = some ⟨b, q, none⟩ ∧ List.length news = m * k ∧ (∀ j u, news[j]? = some u → w.cell? ⟨b, q + j, none⟩ = some u) ∧ (∀ u ∈ news, u.oneCell' = true) ∧
      ∀ i, i < m → RepL g.π (fc i) ((news.drop (i * k)).take k)) := by
  unfold srcOf at h
  split at h
  · rename_i k' m' f
    simp only [Option.some.injEq, Prod.mk.injEq] at h
    obtain ⟨⟨rfl, rfl, rfl⟩, _⟩ := h
    obtain ⟨a, c, hv, _, _, hE⟩ := hp
    refine ⟨a, c, hv, fun hpos => ?_⟩
    obtain ⟨b, q0, rfl, hE'⟩ := hE hpos
    obtain ⟨news, n1, n2, n3, n4⟩ := sl_cells hE' _ (Nat.le_refl _)
    exact ⟨b, q0, news, rfl, n1, fun j u hu => hm.prom _ _ _ (n2 j u hu), n3, n4⟩
  · rename_i l n
    split at h
    · rename_i b e k' n' F ho
      simp only [Option.some.injEq, Prod.mk.injEq] at h
      obtain ⟨⟨rfl, rfl, rfl⟩, rfl⟩ := h
      obtain ⟨u, cs, m1, m2, m3, m4, m5, m6⟩ := hm.box l _ ho
      have hv := hp.2 u (by rw [m1, hφ])
      subst hv
      subst hφ
      rcases m2.2 with ⟨rfl, rfl⟩ | ⟨c, cap, cur, rfl, q0, q1, q2, q3, q4, q5⟩
      · exact ⟨none, 0, rfl, fun h => by omega⟩
      · refine ⟨_, cap, rfl, fun _ => ⟨c, 0, cs, rfl, m2.1, fun j u hu => ?_, m3, m4⟩⟩
        have := World.ownsRow.cells m2 (g := c) rfl j u hu
        rwa [add_pl] at this
    · cases h
  · cases h

section
variable {P : Program} {l : List Oper} {nt : Nat} {o : Oper} {X : List (Nat × PV)} {BX : List (Loc × Obj)}
/-- append: the old array is used up, the new one has a new name. -/
theorem VE.append {T : Tab} (hT : TabOK P T) {d : Nat} {s x : Operand} {t : TypeId} {lo : Loc} {b : Bool} {n n' e k m : Nat} {fc : Nat → List D} {F : Nat → List D} {foc : Option (Nat × List PV)} {j : TI} {φ : Prop}
    (F' : Nat → List D) (ls : List Loc) (hne : (Loc.eqb lo (.loc d)) = false) (hg : guardV l (keepEnv X (looks l o)) o.guard = some true) (hop : o.op = .call { callee := .builtin .append, args := #[s, x], argTypes := #[t, t] }) (hs : opnd (keepEnv X (looks l o)) s = .sl lo n)
    (hx : srcOf (keepBoxes BX ls) (opnd (keepEnv X (looks l o)) x) = some ((k, m, fc), φ)) (hφ0 : φ)
    (ho : objAt (keepBoxes BX ls) lo = some (.arr b e k n' F foc)) (hfoc : foc = none) (hel : elemOfT T t = some (e, j)) (hk : (Nat.beq j.size k && Nat.blt 0 k && Nat.beq j.zero.cells.size k) = true)
    (hφ : n = n' ∧ n + m ≤ maxLen ∧ (n + m) * j.bytes ≤ 140737488355328) (hF1 : ∀ i, i < n → F' i = F i) (hF2 : ∀ i, i < m → F' (n + i) = fc i) :
    VE P l nt o X BX ⟨.sl (.loc d) (n + m), .loc d :: ls, [(lo, some (.gone b (some n))), (.loc d, some (.arr false e k (n + m) F' none))], [d]⟩ := by
  intro E B hE hB hnE hnB g tmps ds w hr K Q' hK
  subst hfoc
  obtain ⟨rfl, hmax, hby⟩ := hφ
  have hr0 := hr.keep hE (ls := ls) (fun m hm => hB m (by simp [hm]))
  have hBlo : B lo = some (.arr b e k n F none) := by
    obtain ⟨h1, h2⟩ := keepBoxes_mem BX ls ho
    rw [hB lo (by simp [h1]), h2]
  simp only [Bool.and_eq_true] at hk
  have hk1 := Nat.eq_of_beq_eq_true hk.1.1
  have hk2 : 0 < k := Nat.blt_eq.mp hk.1.2
  have hk3 := Nat.eq_of_beq_eq_true hk.2
  obtain ⟨hu, htj⟩ := elemOfT_spec hT hel
  obtain ⟨i, hi, hi1, hi2, hi3⟩ := hT.inf htj
  have hik : i.size = k := by rw [hi1, hk1]
  obtain ⟨u, cs, m1, m2, m3, m4, m5, m6⟩ := hr.box lo _ hBlo
  have hps := opnd_rep hr0 ds s
  rw [hs] at hps
  have hsv := hps.2 u m1
  obtain ⟨a, c, hxv, hE'⟩ := srcOf_rep hr0.mem (opnd_rep hr0 ds x) hx hφ0
  have key : ∃ v' w' cs', (Builtin.append_ #[t, t] o.type #[u, .slice a m c]).run P w = .ok v' w' ∧ w'.ownsRow 0 e k v' (n + m) cs' ∧ w.grownBy w' u.ownBlock ∧ (∀ b, v'.ownBlock = some b → u.ownBlock = some b ∨ w.heap.size ≤ b) ∧
      (∀ c ∈ cs', c.oneCell' = true) ∧ ∀ i, i < n + m → RepL g.π (F' i) ((cs'.drop (i * k)).take k) := by
    have hold : ∀ news : List Value, ∀ i, i < n → RepL g.π (F' i) (((cs ++ news).drop (i * k)).take k) := by
      intro news q hq
      have hqk : q * k + k ≤ cs.length := by rw [m2.1, ← Nat.succ_mul]; exact Nat.mul_le_mul_right k hq
      rw [List.drop_append_of_le_length (by omega), List.take_append_of_le_length (by rw [List.length_drop]; omega), hF1 q hq]
      exact m4 q hq
    rcases Nat.eq_zero_or_pos m with h0 | hpos
    · subst h0
      cases a with
      | none =>
        exact ⟨u, w, cs, run_append_none w t o.type e i hu hi u n cs (by rw [hik]; exact m2) c, m2, ⟨rfl, rfl, rfl, Nat.le_refl _, fun _ _ _ => rfl⟩, fun b hb => .inl hb, m3, fun q hq => by simpa using hold [] q hq⟩
      | some ad =>
        obtain ⟨v', w', r1, r2, r3, r4⟩ := run_append_at (P := P) w t o.type e i j.zero hu hi hi3 (by rw [hk3, hik]) (by rw [hik]; exact hk2) u n cs (by rw [hik]; exact m2) ad 0 c [] (by simp) (by simp) (by simp) hmax (by rw [hi2]; exact hby)
        rw [hik] at r2
        exact ⟨v', w', _, r1, r2, r3, r4, by simpa using m3, fun q hq => hold [] q hq⟩
    · obtain ⟨b, q0, news, rfl, n1, n2, n3, n4⟩ := hE' hpos
      obtain ⟨v', w', r1, r2, r3, r4⟩ := run_append_at (P := P) w t o.type e i j.zero hu hi hi3 (by rw [hk3, hik]) (by rw [hik]; exact hk2) u n cs (by rw [hik]; exact m2) ⟨b, q0, none⟩ m c news (by rw [n1, hik])
        (fun q x hq => by rw [add_pl]; exact n2 q x hq) n3 hmax (by rw [hi2]; exact hby)
      rw [hik] at r2
      refine ⟨v', w', _, r1, r2, r3, r4, fun c hc => ?_, fun q hq => ?_⟩
      · rcases List.mem_append.1 hc with h | h
        · exact m3 c h
        · exact n3 c h
      · by_cases hqn : q < n
        · exact hold news q hqn
        · have hq2 := hF2 (q - n) (by omega)
          rw [show n + (q - n) = q by omega] at hq2
          rw [hq2]
          have : ((cs ++ news).drop (q * k)).take k = (news.drop ((q - n) * k)).take k := by
            have hle : n * k ≤ q * k := Nat.mul_le_mul_right k (by omega)
            rw [List.drop_append, List.drop_eq_nil_of_le (by rw [m2.1]; exact hle), List.nil_append, m2.1, Nat.sub_mul]
          rw [this]
          exact n4 (q - n) (by omega)
  obtain ⟨v', w', cs', r1, r2, r3, r4, r5, r6⟩ := key
  obtain ⟨g', k1, k2, k3⟩ := hr.moveTo hnE hnB (fun e => by rw [e, Loc.eqb_iff.2 rfl] at hne; cases hne) hBlo m1 r2 r3 r4 r5 r6
  rw [if_pos (guardV_wanted hr0 hg)]
  unfold Oper.wp
  have hrun : (execOp ((⟨tmps, ds⟩ : Act).eval) o).run P w = .ok (.value v') w' := by
    simp only [execOp, hop, resolve, invoke, builtin, Sem.run_bind, Sem.run_pure, Result.andThen_ok, List.map_toArray, List.map_cons, List.map_nil, hsv, hxv, r1]
  rw [hrun]
  exact hK v' g' w' k3 k1 k2

/-- A store into a box. -/
theorem VE.store {T : Tab} (hT : TabOK P T) {t : Nat} {a x : Operand} {lo : Loc} {off : Nat} {j : TI} {xs cs : List PV} (hg : guardV l (keepEnv X (looks l o)) o.guard = some true) (hop : o.op = .store t a x) (htj : tyAt T t = some j)
    (ha : opnd (keepEnv X (looks l o)) a = .ptr lo off) (hx : cellsP (opnd (keepEnv X (looks l o)) x) = some xs) (hcs : objAt BX lo = some (.cells cs)) (hb : (Nat.beq xs.length j.size && Nat.ble (off + xs.length) cs.length) = true) :
    VE P l nt o X BX ⟨.any, [lo], [(lo, some (.cells (splice cs off xs)))], []⟩ := by
  intro E B hE hB hnE hnB g tmps ds w hr K Q' hK
  have hr0 := hr.keep hE (ls := [lo]) hB
  have hBlo : B lo = some (.cells cs) := by rw [hB lo (by simp), hcs]
  simp only [Bool.and_eq_true] at hb
  have hlen := Nat.eq_of_beq_eq_true hb.1
  have hle := Nat.le_of_ble_eq_true hb.2
  have hpa := opnd_rep hr0 ds a
  rw [ha] at hpa
  have hea : (⟨tmps, ds⟩ : Act).eval a = _ := hpa
  obtain ⟨h1, h2⟩ := cellsP_rep hx (opnd_rep hr0 ds x)
  generalize hv : (⟨tmps, ds⟩ : Act).eval x = v at h1 h2
  obtain ⟨Ty, vs, m1, m2, m3, m3', m4, m5⟩ := hr.box lo _ hBlo
  have hvl := h1.length
  have hcl := m2.length
  have hst := run_storeCells_at (P := P) (g.β lo) off Ty v.cells.toList 0 vs.toArray w m1 (by simp only [List.size_toArray, Nat.add_zero]; omega) h2
  simp only [Nat.add_zero] at hst
  have hrun : (execOp ((⟨tmps, ds⟩ : Act).eval) o).run P w = .ok .skip (w.setRow (g.β lo) (vs.take off ++ v.cells.toList ++ vs.drop (off + v.cells.toList.length)).toArray) := by
    have hsz : v.cells.size = j.size := by rw [← Array.length_toList]; omega
    simp only [execOp, hop, Instr.storeAt, hea, Instr.sureAddr, storeVar, hv, Sem.run_bind, Sem.run_pure, Result.andThen_ok, hT.run_size htj, hsz, ne_eq, not_true_eq_false, if_false]
    rw [hst]
    rfl
  have hspl := (m2.splice h1 off)
  rw [if_pos (guardV_wanted hr0 hg)]
  unfold Oper.wp
  rw [hrun]
  simp only [Oper.upon]
  have hone : ∀ u ∈ (vs.take off ++ v.cells.toList ++ vs.drop (off + v.cells.toList.length)), u.oneCell' = true := by
    intro u hu
    simp only [List.mem_append] at hu
    rcases hu with (hu | hu) | hu
    · exact m3 u (List.mem_of_mem_take hu)
    · exact h2 u hu
    · exact m3 u (List.mem_of_mem_drop hu)
  obtain ⟨k1, k2⟩ := hr.setBox (lo := lo) m4 m5 m1 (o' := .cells (splice cs off xs)) (fun hh => ⟨Ty, _, hh, hspl, hone, m3', m4, m5⟩)
  exact hK undef g _ trivial k1 k2
end
end Go.Pv
namespace Go.Pv
open Go.RowKit

theorem fillP_len {place : Nat → Option (Nat × Nat)} : ∀ (ps : List (Nat × PV)) (a b : List PV), fillP place a ps = some b → b.length = a.length
  | [], a, b, h => by simp only [fillP, Option.some.injEq] at h; rw [h]
  | (q, p) :: r, a, b, h => by
    simp only [fillP] at h
    split at h
    · rename_i off sz ys _ _
      cases hb : Nat.beq ys.length sz && Nat.ble (off + ys.length) a.length with
      | false => simp [hb] at h
      | true =>
        rw [hb, cond_true] at h
        simp only [Bool.and_eq_true] at hb
        have := Nat.le_of_ble_eq_true hb.2
        rw [fillP_len r _ _ h]
        simp [splice]
        omega
    · cases h

section
variable {P : Program} {l : List Oper} {nt : Nat} {o : Oper} {X : List (Nat × PV)} {BX : List (Loc × Obj)}
/-- A new slice of parts. -/
theorem VE.bslice {T : Tab} (hT : TabOK P T) {d t e len k : Nat} {parts : Array (Nat × Operand)} {j : TI} {cs : List PV} {xs : List D}
    (F : Nat → List D) (hg : guardV l (keepEnv X (looks l o)) o.guard = some true) (hop : o.op = .buildSlice t len parts) (hel : elemOfT T t = some (e, j)) (hk : j.size = k)
    (hz : (j.zero.cells.toList.all Value.oneCell' && Nat.beq j.zero.cells.size j.size && Nat.blt 0 j.size && Nat.ble (len * j.size) 16777216) = true)
    (hfill : fillP (fun i => some (i * j.size, j.size)) (List.replicate (len * j.size) .any) (parts.toList.map fun x => (x.1, opnd (keepEnv X (looks l o)) x.2)) = some cs) (hxs : toDs cs = some xs)
    (hF : ∀ i, i < len → F i = (xs.drop (i * k)).take k) :
    VE P l nt o X BX ⟨.sl (.loc d) len, [.loc d], [(.loc d, some (.arr false e k len F none))], [d]⟩ := by
  intro E B hE hB hnE hnB g tmps ds w hr K Q' hK
  subst hk
  have hr0 := hr.keep hE (BX := BX) (ls := []) (fun m hm => by cases hm)
  simp only [Bool.and_eq_true] at hz
  have hz1 : ∀ v ∈ j.zero.cells.toList, v.oneCell' = true := fun v hv => List.all_eq_true.1 hz.1.1.1 v hv
  have hz2 := Nat.eq_of_beq_eq_true hz.1.1.2
  have hz3 : 0 < j.size := Nat.blt_eq.mp hz.1.2
  have hz4 := Nat.le_of_ble_eq_true hz.2
  obtain ⟨hu, htj⟩ := elemOfT_spec hT hel
  obtain ⟨i, hi, hi1, hi2, hi3⟩ := hT.inf htj
  let c0 : Array Value := if len * j.size = 0 then #[] else ((Array.range (len * j.size)).map (j.zero.cells[· % j.zero.cells.size]!))
  have hc0 : c0.toList.length = len * j.size := by
    simp only [c0]
    split <;> simp_all
  have hc1 : ∀ v ∈ c0.toList, v.oneCell' = true := by
    intro v hv
    simp only [c0] at hv
    split at hv
    · simp at hv
    · simp only [Array.toList_map, List.mem_map] at hv
      obtain ⟨q, _, rfl⟩ := hv
      have hlt : q % j.zero.cells.size < j.zero.cells.size := Nat.mod_lt _ (by omega)
      have hq : j.zero.cells[q % j.zero.cells.size]! = j.zero.cells[q % j.zero.cells.size]'hlt := getElem!_pos j.zero.cells _ hlt
      rw [hq]
      exact hz1 _ (by simp)
  have hany : RepPL g (List.replicate (len * j.size) .any) c0.toList := by rw [← hc0]; exact repPL_any _
  obtain ⟨vs', m1, m2, m3⟩ := fillP_sound (vals := parts.toList.map fun x => (x.1, (⟨tmps, ds⟩ : Act).eval x.2)) hfill hany hc1 (by simp) (by
    have := repPL_map (opnd_rep hr0 ds) (parts.toList.map (·.2))
    simpa [List.map_map, Function.comp_def] using this)
  have hlen : vs'.toList.length = len * j.size := by
    rw [m2.length, fillP_len _ _ _ hfill]
    simp
  have hD := toDs_rep hxs m2 m3
  have hrun : (execOp ((⟨tmps, ds⟩ : Act).eval) o).run P w = .ok (.value (.slice (some ⟨w.heap.size, 0, none⟩) len len)) (w.alloc (.cells vs' e)) := by
    have hb := run_bslice (P := P) w t e len ((parts.toList.map fun x => (x.1, (⟨tmps, ds⟩ : Act).eval x.2)).toArray) vs' i j.zero hu hi hi3 (by rw [hi1]; omega) (by rw [hi1]; simpa [c0] using m1)
    have ha : (parts.map fun x => (x.1, (⟨tmps, ds⟩ : Act).eval x.2)) = (parts.toList.map fun x => (x.1, (⟨tmps, ds⟩ : Act).eval x.2)).toArray := by apply Array.ext'; simp
    simp only [execOp, hop, Sem.run_bind]
    rw [ha, hb]
    rfl
  have key := hr.newObj (g' := g.new d w.heap.size (some (.slice (some ⟨w.heap.size, 0, none⟩) len len, len)) false) (w' := w.alloc (.cells vs' e)) (o := .arr false e j.size len F none) hnE hnB rfl (fun l hl => by simp [Gh.new, hl]) (fun c hc => by simp [Gh.new, Nat.ne_of_lt hc])
    (fun c hc => heap_alloc_old w _ hc) (by simp) rfl rfl rfl
    ⟨.slice (some ⟨w.heap.size, 0, none⟩) len len, vs'.toList, by simp [Gh.new], ⟨hlen, .inr ⟨w.heap.size, len, vs', rfl, Nat.zero_le _, heap_alloc_new w _, Nat.le_refl _, by
        have : len * 1 ≤ len * j.size := Nat.mul_le_mul_left len hz3
        simp only [maxLen]; omega, by simpa using hlen, by rw [List.take_of_length_le (by omega)]⟩⟩, m3, fun q hq => by
        show RepL g.π (F q) _
        rw [hF q hq]
        exact (hD.drop _).take _, by simp [Gh.new], fun c hc => by
        simp only [Value.ownBlock, Option.some.injEq] at hc
        subst hc
        exact ⟨by simp [Gh.new], by simp [Gh.new], fun o => prom_freshG hr (Nat.le_refl _) o⟩⟩
  rw [if_pos (guardV_wanted hr0 hg)]
  unfold Oper.wp
  rw [hrun]
  simp only [Oper.upon]
  exact hK _ _ _ ⟨rfl, fun u hu => by
    simp only [Gh.new, if_true, Option.some.injEq, Prod.mk.injEq, and_true] at hu
    exact hu⟩ key.1 key.2

/-- A store into element i of an array: of data; or, with this element in focus, of anything. -/
theorem VE.storeE {T : Tab} (hT : TabOK P T) {t e k n i off : Nat} {a x : Operand} {lo : Loc} {b : Bool} {j : TI} {F : Nat → List D} {foc foc' : Option (Nat × List PV)} {xs : List PV}
    (F' : Nat → List D) (hg : guardV l (keepEnv X (looks l o)) o.guard = some true) (hop : o.op = .store t a x) (htj : tyAt T t = some j) (ha : opnd (keepEnv X (looks l o)) a = .pe lo k i off) (hx : cellsP (opnd (keepEnv X (looks l o)) x) = some xs)
    (ho : objAt BX lo = some (.arr b e k n F foc)) (hk : (Nat.beq xs.length j.size && Nat.ble (off + xs.length) k) = true) (hi : i < n)
    (hF : (∃ ds', toDs xs = some ds' ∧ foc = none ∧ foc' = none ∧ F' i = (F i).take off ++ ds' ++ (F i).drop (off + ds'.length) ∧ ∀ q, q < n → q ≠ i → F' q = F q) ∨
      (∃ cs, foc = some (i, cs) ∧ foc' = some (i, splice cs off xs) ∧ F' = F)) :
    VE P l nt o X BX ⟨.any, [lo], [(lo, some (.arr b e k n F' foc'))], []⟩ := by
  intro E B hE hB hnE hnB g tmps ds w hr K Q' hK
  have hr0 := hr.keep hE (ls := [lo]) hB
  have hBlo : B lo = some (.arr b e k n F foc) := by rw [hB lo (by simp), ho]
  simp only [Bool.and_eq_true] at hk
  have hlen := Nat.eq_of_beq_eq_true hk.1
  have hle := Nat.le_of_ble_eq_true hk.2
  obtain ⟨u, cs, m1, m2, m3, m4, m5, m6⟩ := hr.box lo _ hBlo
  obtain ⟨hcl, m2'⟩ := m2
  rcases m2' with ⟨_, h0⟩ | ⟨c, cap, cur, rfl, _, q1, q2, q3, q4, q5⟩
  · omega
  have hc := m6 c rfl
  have hpa := opnd_rep hr0 ds a
  rw [ha] at hpa
  have hea : (⟨tmps, ds⟩ : Act).eval a = .pointer (some ⟨g.β lo, i * k + off, none⟩) := hpa
  obtain ⟨h1, h2⟩ := cellsP_rep hx (opnd_rep hr0 ds x)
  generalize hv : (⟨tmps, ds⟩ : Act).eval x = v at h1 h2
  have hvl := h1.length
  have hik : i * k + k ≤ n * k := by rw [← Nat.succ_mul]; exact Nat.mul_le_mul_right k hi
  have hnk : n * k ≤ cap * k := Nat.mul_le_mul_right k q2
  rw [hc.1] at q1
  have hcurl : cur.toList.length = cap * k := by simpa using q4
  have hst := run_storeCells_at (P := P) (g.β lo) (i * k + off) e v.cells.toList 0 cur w q1 (by omega) h2
  simp only [Nat.add_zero] at hst
  have hrun : (execOp ((⟨tmps, ds⟩ : Act).eval) o).run P w = .ok .skip (w.setRow (g.β lo) (cur.toList.take (i * k + off) ++ v.cells.toList ++ cur.toList.drop (i * k + off + v.cells.toList.length)).toArray) := by
    have hsz : v.cells.size = j.size := by rw [← Array.length_toList]; omega
    simp only [execOp, hop, Instr.storeAt, hea, Instr.sureAddr, storeVar, hv, Sem.run_bind, Sem.run_pure, Result.andThen_ok, hT.run_size htj, hsz, ne_eq, not_true_eq_false, if_false]
    rw [hst]
    rfl
  have hcut : (cur.toList.take (i * k + off) ++ v.cells.toList ++ cur.toList.drop (i * k + off + v.cells.toList.length)).take (n * k) = cs.take (i * k + off) ++ v.cells.toList ++ cs.drop (i * k + off + v.cells.toList.length) := by
    apply List.ext_getElem?
    intro x
    rw [List.getElem?_take, spl_get _ _ _ _ (by omega), spl_get _ _ _ _ (by omega), ← q5, List.getElem?_take]
    by_cases hx : x < n * k
    · simp only [hx, if_true]
    · rw [if_neg hx, if_neg (by omega), if_neg (by omega), if_neg hx]
  obtain ⟨k1, k2⟩ := hr.setBox (lo := lo) (Ty := e) (cells := cur) (cells' := (cur.toList.take (i * k + off) ++ v.cells.toList ++ cur.toList.drop (i * k + off + v.cells.toList.length)).toArray) (o' := .arr b e k n F' foc') (by rw [← hc.1]; exact hc.2.1) (by rw [← hc.1]; exact hc.2.2) q1 (fun hh => by
    refine ⟨_, cs.take (i * k + off) ++ v.cells.toList ++ cs.drop (i * k + off + v.cells.toList.length), m1, ⟨by rw [spl_len _ _ _ (by omega)]; exact hcl, .inr ⟨c, cap, _, rfl, Nat.zero_le _, by rw [hc.1]; exact hh, q2, q3, ?_, ?_⟩⟩, ?_, ?_, m5, m6⟩
    · simp only [List.size_toArray]
      rw [spl_len _ _ _ (by omega)]
      simpa using q4
    · simpa using hcut
    · intro y hy
      simp only [List.mem_append] at hy
      rcases hy with (hy | hy) | hy
      · exact m3 y (List.mem_of_mem_take hy)
      · exact h2 y hy
      · exact m3 y (List.mem_of_mem_drop hy)
    · intro q hq
      rw [spl_elem cs v.cells.toList hcl hi hq (by omega)]
      rcases hF with ⟨ds', hds, rfl, rfl, hF1, hF2⟩ | ⟨fcs, rfl, rfl, rfl⟩
      · have hD := toDs_rep hds h1 h2
        have hDl : ds'.length = xs.length := by rw [← hvl, hD.length]
        show RepL g.π (F' q) _
        by_cases hqi : q = i
        · subst hqi
          rw [if_pos rfl, hF1, hvl, hDl]
          have hm : RepL g.π (F q) ((cs.drop (q * k)).take k) := m4 q hq
          exact ((hm.take off).append hD).append (hm.drop _)
        · rw [if_neg hqi, hF2 q hq hqi]
          exact m4 q hq
      · refine ⟨fun e => ?_, fun e => ?_⟩
        · subst e
          rw [if_pos rfl]
          have hm : RepPL g fcs ((cs.drop (q * k)).take k) := (m4 q hq).1 rfl
          exact hm.splice h1 off
        · rw [if_neg e]
          exact (m4 q hq).2 e)
  rw [if_pos (guardV_wanted hr0 hg)]
  unfold Oper.wp
  rw [hrun]
  simp only [Oper.upon]
  exact hK undef g _ trivial k1 k2
end

/-! ### An element comes into focus, or goes out of it; an array is said not to move -/
theorem Weak.obj {nt : Nat} {env : List (Nat × PV)} {bs : List (Loc × Obj)} {lo : Loc} {c c' : Obj} (ho : objAt bs lo = some c) (h : ∀ g w, ObjOK g w lo c → ObjOK g w lo c') : Weak ⟨nt, env, bs⟩ ⟨nt, env, setObj bs lo c'⟩ := by
  intro g tmps w hr
  refine ⟨g, ⟨hr.len, hr.env, ⟨fun l q hq => ?_, hr.mem.prom, hr.mem.glob⟩⟩, Ext.refl g w⟩
  rw [objAt_setObj] at hq
  split at hq
  · rename_i e
    subst e
    rw [ho] at hq
    simp only [Option.map_some, Option.some.injEq] at hq
    subst hq
    exact h g w (hr.mem.box lo c ho)
  · exact hr.mem.box l q hq
theorem Weak.focus {nt : Nat} {env : List (Nat × PV)} {bs : List (Loc × Obj)} (lo : Loc) (i : Nat) {b : Bool} {e k n : Nat} {F : Nat → List D} {foc : Option (Nat × List PV)} (ho : objAt bs lo = some (.arr b e k n F foc)) (hfoc : foc = none) (hi : i < n) :
    Weak ⟨nt, env, bs⟩ ⟨nt, env, setObj bs lo (.arr b e k n F (some (i, (F i).map .d)))⟩ := by
  subst hfoc
  refine Weak.obj ho ?_
  rintro g w ⟨u, cs, h1, h2, h3, h4, h5, h6⟩
  refine ⟨u, cs, h1, h2, h3, fun q hq => ⟨fun e => ?_, fun _ => h4 q hq⟩, h5, h6⟩
  subst e
  exact (repPL_d (h4 q hq)).1
theorem Weak.unfocus {nt : Nat} {env : List (Nat × PV)} {bs : List (Loc × Obj)} (lo : Loc) {i : Nat} {cs : List PV} {xs : List D} {b : Bool} {e k n : Nat} {F : Nat → List D} {foc : Option (Nat × List PV)} (F' : Nat → List D) (ho : objAt bs lo = some (.arr b e k n F foc)) (hfoc : foc = some (i, cs))
    (hxs : toDs cs = some xs) (hF1 : F' i = xs) (hF2 : ∀ q, q < n → q ≠ i → F' q = F q) :
    Weak ⟨nt, env, bs⟩ ⟨nt, env, setObj bs lo (.arr b e k n F' none)⟩ := by
  subst hfoc
  refine Weak.obj ho ?_
  rintro g w ⟨u, vs, h1, h2, h3, h4, h5, h6⟩
  refine ⟨u, vs, h1, h2, h3, fun q hq => ?_, h5, h6⟩
  by_cases e : q = i
  · subst e
    show RepL g.π (F' q) _
    rw [hF1]
    exact toDs_rep hxs ((h4 q hq).1 rfl) (fun v hv => h3 v (List.mem_of_mem_drop (List.mem_of_mem_take hv)))
  · show RepL g.π (F' q) _
    rw [hF2 q hq e]
    exact (h4 q hq).2 e
/-- The elements otherwise written down. -/
theorem Weak.arrF {nt : Nat} {env : List (Nat × PV)} {bs : List (Loc × Obj)} (lo : Loc) {b : Bool} {e k n : Nat} {F : Nat → List D} {foc : Option (Nat × List PV)} (n' : Nat) (F' : Nat → List D) (ho : objAt bs lo = some (.arr b e k n F foc)) (hn : n = n') (hF : ∀ q, q < n → F' q = F q) :
    Weak ⟨nt, env, bs⟩ ⟨nt, env, setObj bs lo (.arr b e k n' F' foc)⟩ := by
  subst hn
  refine Weak.obj ho ?_
  rintro g w ⟨u, vs, h1, h2, h3, h4, h5, h6⟩
  refine ⟨u, vs, h1, h2, h3, fun q hq => ?_, h5, h6⟩
  have := h4 q hq
  cases foc with
  | none => show RepL g.π (F' q) _; rw [hF q hq]; exact this
  | some ic =>
    obtain ⟨i, cs⟩ := ic
    exact ⟨this.1, fun e => by rw [hF q hq]; exact this.2 e⟩
/-- An array of one's own is said not to move, or that it may. -/
theorem Weak.fix {nt : Nat} {env : List (Nat × PV)} {bs : List (Loc × Obj)} (d : Nat) (b' : Bool) {b : Bool} {e k n : Nat} {F : Nat → List D} {foc : Option (Nat × List PV)} (ho : objAt bs (.loc d) = some (.arr b e k n F foc)) :
    Weak ⟨nt, env, bs⟩ ⟨nt, env, setObj bs (.loc d) (.arr b' e k n F foc)⟩ := by
  intro g tmps w hr
  let g' : Gh := { g with fx := fun l => if l = .loc d then b' else g.fx l }
  have hle : Gh.le g g' := ⟨Prom.le_refl _, fun _ => rfl, fun _ => rfl⟩
  refine ⟨g', ⟨hr.len, fun i => RepP.mono hle _ _ (hr.env i), ⟨fun l q hq => ?_, hr.mem.prom, hr.mem.glob.to (fun b _ ho => ⟨rfl, ho⟩)⟩⟩, ⟨Prom.le_refl _, Nat.le_refl _, rfl, rfl, rfl, fun i hi => ⟨rfl, rfl, by simpa [g'] using hi⟩, fun b _ ho => ⟨rfl, ho, fun _ => rfl⟩⟩⟩
  rw [objAt_setObj] at hq
  split at hq
  · rename_i e
    subst e
    rw [ho] at hq
    simp only [Option.map_some, Option.some.injEq] at hq
    subst hq
    obtain ⟨u, vs, h1, h2, h3, h4, h5, h6⟩ := hr.mem.box _ _ ho
    refine ⟨u, vs, h1, h2, h3, fun q hq => ?_, by simp [g'], h6⟩
    have := h4 q hq
    cases foc with
    | none => exact this
    | some ic =>
      obtain ⟨i, cs⟩ := ic
      exact ⟨fun e => RepPL.mono hle _ _ (this.1 e), fun e => this.2 e⟩
  · rename_i hne
    have := (hr.mem.box l q hq).tr (g' := g') (w' := w) (l' := l) id (fun ps vs h => RepPL.mono hle ps vs h) (Prom.le_refl _) rfl rfl (by simp [g']; intro e; exact absurd e.symm hne) (fun b hb _ => ⟨rfl, hb, fun _ => rfl⟩)
    rwa [Obj.map_id] at this
end Go.Pv
namespace Go.Pv
open Go.RowKit

/-! ### Operations under a guard that is not settled: what they yield holds under a condition -/
def unc : PV → PV
  | .cond _ p => p
  | p => p
def cnd : PV → Bool
  | .cond c _ => c
  | _ => true
def uncE (X : List (Nat × PV)) : List Nat → List (Nat × PV)
  | [] => []
  | i :: r => (i, unc (envAt X i)) :: uncE X r
def cndE (X : List (Nat × PV)) : List Nat → Bool
  | [] => true
  | i :: r => match envAt X i with
    | .cond c _ => c && cndE X r
    | _ => cndE X r
def opSlots (op : Op) : List Nat := op.operands.toList.filterMap fun | .tmp t => some t | _ => none
/-- The same, brought into a form that can be read off. -/
def nfD : D → Option D
  | .lit (.int k n) => some (.lit (.int k n))
  | .lit (.bool b) => some (.lit (.bool b))
  | .lit (.string s) => some (.lit (.string s))
  | .lit v => some (.lit v)
  | .ifc t x => some (.ifc t x)
  | .sl k n f => some (.sl k n f)
  | .agg cs => some (.agg cs)
def nfDL : List D → Option (List D)
  | [] => some []
  | x :: r => match nfD x, nfDL r with
    | some y, some q => some (y :: q)
    | _, _ => none
def nf0 : PV → Option PV
  | .d (.agg cs) => match nfDL cs with
    | some q => some (.d (.agg q))
    | none => none
  | .d x => match nfD x with
    | some y => some (.d y)
    | none => none
  | .sl l n => some (.sl l n)
  | .ptr l o => some (.ptr l o)
  | .pe l k i j => some (.pe l k i j)
  | .ea x o => some (.ea x o)
  | .fn f a b => some (.fn f a b)
  | .cond c p => some (.cond c p)
  | .agp ps => some (.agp ps)
  | .tup ps => some (.tup ps)
  | .any => some .any
def nfL : List PV → Option (List PV)
  | [] => some []
  | x :: r => match nf0 x, nfL r with
    | some y, some q => some (y :: q)
    | _, _ => none
def nf1 : PV → Option PV
  | .agp ps => match nfL ps with
    | some q => some (.agp q)
    | none => none
  | .tup ps => match nfL ps with
    | some q => some (.tup q)
    | none => none
  | p => nf0 p
theorem nfD_eq {x y : D} (h : nfD x = some y) : y = x := by
  unfold nfD at h
  split at h <;> (simp only [Option.some.injEq] at h; exact h.symm)
theorem nfDL_eq : ∀ {x y : List D}, nfDL x = some y → y = x
  | [], y, h => by simp only [nfDL, Option.some.injEq] at h; exact h.symm
  | a :: r, y, h => by
    simp only [nfDL] at h
    split at h
    · rename_i b q hb hq
      simp only [Option.some.injEq] at h
      rw [← h, nfD_eq hb, nfDL_eq hq]
    · cases h
theorem nf0_eq {x y : PV} (h : nf0 x = some y) : y = x := by
  unfold nf0 at h
  split at h
  · split at h
    · rename_i q hq
      simp only [Option.some.injEq] at h
      rw [← h, nfDL_eq hq]
    · cases h
  · split at h
    · rename_i q hq
      simp only [Option.some.injEq] at h
      rw [← h, nfD_eq hq]
    · cases h
  all_goals (simp only [Option.some.injEq] at h; exact h.symm)
theorem nfL_eq : ∀ {x y : List PV}, nfL x = some y → y = x
  | [], y, h => by simp only [nfL, Option.some.injEq] at h; exact h.symm
  | a :: r, y, h => by
    simp only [nfL] at h
    split at h
    · rename_i b q hb hq
      simp only [Option.some.injEq] at h
      rw [← h, nf0_eq hb, nfL_eq hq]
    · cases h
theorem nf1_eq {x y : PV} (h : nf1 x = some y) : y = x := by
  unfold nf1 at h
  split at h
  · split at h
    · rename_i q hq
      simp only [Option.some.injEq] at h
      rw [← h, nfL_eq hq]
    · cases h
  · split at h
    · rename_i q hq
      simp only [Option.some.injEq] at h
      rw [← h, nfL_eq hq]
    · cases h
  · exact nf0_eq h

def guardC (l : List Oper) (X : List (Nat × PV)) : Option (Nat × Bool) → Option Bool
  | none => some true
  | some (j, want) => match dstAt l j with
    | some d => match envAt X d with
      | .d (.lit (.bool b)) => match want with
        | true => some b
        | false => some (!b)
      | .cond c (.d (.lit (.bool b))) => match want with
        | true => some (c && b)
        | false => some (c && !b)
      | _ => none
    | none => none
def cndO (X : List (Nat × PV)) : List Nat → Option Bool
  | [] => none
  | i :: r => match envAt X i with
    | .cond c _ => match cndO X r with
      | none => some c
      | some c' => some (c && c')
    | _ => cndO X r
def cndS (X : List (Nat × PV)) (L : List Nat) : Option Bool :=
  match cndO X L with
  | none => some true
  | some c => some c
def condOf : PV → Option Bool
  | .cond c _ => some c
  | _ => none
def pickφ (z : Bool) : Option Bool → Option Bool → Option Bool → Option Prop
  | none, none, none => some True
  | none, some a, none => some (z = true → a = true)
  | none, none, some b => some (z = false → b = true)
  | none, some a, some b => some ((z = true → a = true) ∧ (z = false → b = true))
  | some c, none, none => some (c = true)
  | some c, some a, none => some (c = true ∧ (z = true → a = true))
  | some c, none, some b => some (c = true ∧ (z = false → b = true))
  | some c, some a, some b => some (c = true ∧ (z = true → a = true) ∧ (z = false → b = true))
def evM (T : Tab) (E0 : EqTab) (X : List (Nat × PV)) (BX : List (Loc × Obj)) (op : Op) : Option (PV × Prop) :=
  match op with
  | .pick c a b => match litOf (unc (opnd X c)), litOf (unc (opnd X a)), litOf (unc (opnd X b)) with
    | some (.bool z), some (.bool x), some (.bool y) => match pickφ z (condOf (opnd X c)) (condOf (opnd X a)) (condOf (opnd X b)) with
      | some φ => some (.d (.lit (.bool (bif z then x else y))), φ)
      | none => none
    | some (.bool z), some (.int k x), some (.int k' y) => match decEq k k', pickφ z (condOf (opnd X c)) (condOf (opnd X a)) (condOf (opnd X b)) with
      | isTrue _, some φ => some (.d (.lit (.int k (bif z then x else y))), φ)
      | _, _ => none
    | _, _, _ => none
  | op => match evX T E0 (uncE X (opSlots op)) BX op with
    | some (p, φ) => match nf1 p with
      | some q => match cndO X (opSlots op) with
        | none => some (q, φ)
        | some c => some (q, φ ∧ c = true)
      | none => none
    | none => none

theorem cndO_spec (X : List (Nat × PV)) : ∀ {L : List Nat}, (cndO X L = none → cndE X L = true) ∧ ∀ c, cndO X L = some c → c = true → cndE X L = true
  | [] => ⟨fun _ => rfl, fun c h => by simp [cndO] at h⟩
  | i :: r => by
    obtain ⟨h1, h2⟩ := cndO_spec X (L := r)
    unfold cndO cndE
    split
    · rename_i c p hp
      refine ⟨fun h => ?_, fun d h hd => ?_⟩
      · split at h <;> cases h
      · split at h
        · rename_i hn
          simp only [Option.some.injEq] at h
          subst h
          rw [hd, h1 hn]; rfl
        · rename_i c' hn
          simp only [Option.some.injEq] at h
          subst h
          rw [Bool.and_eq_true] at hd
          rw [hd.1, h2 _ hn hd.2]; rfl
    · exact ⟨h1, h2⟩
theorem cndS_spec {X : List (Nat × PV)} {L : List Nat} {c : Bool} (h : cndS X L = some c) (hc : c = true) : cndE X L = true := by
  unfold cndS at h
  split at h
  · rename_i hn
    exact (cndO_spec X).1 hn
  · rename_i c' hn
    simp only [Option.some.injEq] at h
    exact (cndO_spec X).2 c' hn (h.trans hc)
theorem condOf_spec {p : PV} : (condOf p = none → cnd p = true) ∧ ∀ c, condOf p = some c → cnd p = c := by
  cases p <;> simp [condOf, cnd]
theorem pickφ_spec {z : Bool} {c a b : PV} {φ : Prop} (h : pickφ z (condOf c) (condOf a) (condOf b) = some φ) (hφ : φ) : cnd c = true ∧ (z = true → cnd a = true) ∧ (z = false → cnd b = true) := by
  have key : ∀ p : PV, (condOf p = none ∧ cnd p = true) ∨ ∃ k, condOf p = some k ∧ cnd p = k := by
    intro p
    cases hc : condOf p with
    | none => exact .inl ⟨rfl, (condOf_spec.1 hc)⟩
    | some k => exact .inr ⟨k, rfl, condOf_spec.2 k hc⟩
  rcases key c with ⟨h1, h2⟩ | ⟨k, h1, h2⟩ <;> rcases key a with ⟨h3, h4⟩ | ⟨k', h3, h4⟩ <;> rcases key b with ⟨h5, h6⟩ | ⟨k'', h5, h6⟩ <;>
    (rw [h1, h3, h5] at h; simp only [pickφ, Option.some.injEq] at h; rw [h2, h4, h6]; subst h; simp_all)

theorem cnd_rep {g : Gh} {p : PV} {v : Value} (h : RepP g p v) (hc : cnd p = true) : RepP g (unc p) v := by
  cases p <;> first | exact h | exact h.1 hc
theorem uncE_rep {g : Gh} {X : List (Nat × PV)} {tmps : Array Value} : ∀ {L : List Nat}, (∀ t ∈ L, RepP g (envAt X t) (tmps.getD t undef)) → cndE X L = true → ∀ i, RepP g (envAt (uncE X L) i) (tmps.getD i undef)
  | [], _, _, i => trivial
  | j :: r, h, hc, i => by
    have hj := h j (by simp)
    have h2 : cnd (envAt X j) = true ∧ cndE X r = true := by
      unfold cndE at hc
      split at hc
      · rename_i c p he
        rw [Bool.and_eq_true] at hc
        rw [he]
        exact hc
      · rename_i hne
        refine ⟨?_, hc⟩
        cases he : envAt X j <;> first | rfl | exact absurd he (hne _ _)
    simp only [uncE, envAt]
    cases hb : Nat.beq j i with
    | true =>
      have := Nat.eq_of_beq_eq_true hb
      subst this
      exact cnd_rep hj h2.1
    | false => exact uncE_rep (fun t ht => h t (by simp [ht])) h2.2 i
theorem mem_opSlots {op : Op} {t : Nat} (h : .tmp t ∈ op.operands) : t ∈ opSlots op := by
  unfold opSlots
  exact List.mem_filterMap.2 ⟨.tmp t, by simpa using h, rfl⟩
theorem uncE_opnd {g : Gh} {w : World} {nt : Nat} {X : List (Nat × PV)} {BX : List (Loc × Obj)} {tmps : Array Value} {L : List Nat} (hlen : tmps.size = nt) (h : ∀ t ∈ L, RepP g (envAt X t) (tmps.getD t undef)) (hc : cndE X L = true)
    (hm : Mem g BX w) : Rel g ⟨nt, uncE X L, BX⟩ tmps w := ⟨hlen, uncE_rep h hc, hm⟩

theorem guardC_wanted {l : List Oper} {g : Gh} {X : List (Nat × PV)} {tmps : Array Value} {o : Oper} {γ : Bool} (h : guardC l X o.guard = some γ) (hr : ∀ j w d, o.guard = some (j, w) → dstAt l j = some d → RepP g (envAt X d) (tmps.getD d undef)) :
    Region.wanted o (yielded l.toArray tmps) = γ := by
  unfold Region.wanted
  cases hg : o.guard with
  | none => simp only [guardC, hg, Option.some.injEq] at h; exact h
  | some jw =>
    obtain ⟨j, want⟩ := jw
    rw [hg] at h
    simp only [guardC] at h
    split at h
    · rename_i d hd
      have hv := hr j want d hg hd
      rw [dstAt_eq] at hd
      have lit : ∀ c : Bool, tmps.getD d undef = .bool c → yielded l.toArray tmps j = some c := by
        intro c h1
        have hlt : d < tmps.size := by
          rcases Nat.lt_or_ge d tmps.size with h2 | h2
          · exact h2
          · simp [Array.getD_eq_getD_getElem?, Array.getElem?_eq_none h2, undef] at h1
        have h2 : tmps[d]? = some (.bool c) := by
          rw [← h1]
          simp [hlt]
        simp only [yielded, List.getElem?_toArray, hd, Option.bind_some, h2]
      split at h
      · rename_i b he
        rw [he] at hv
        show (yielded l.toArray tmps j == some want) = _
        rw [lit b hv.1]
        cases want <;> (simp only [Option.some.injEq] at h; subst h; cases b <;> rfl)
      · rename_i c b he
        rw [he] at hv
        cases c with
        | true =>
          show (yielded l.toArray tmps j == some want) = _
          rw [lit b (hv.1 rfl).1]
          cases want <;> (simp only [Option.some.injEq] at h; subst h; cases b <;> rfl)
        | false =>
          have h1 := hv.2 rfl
          have : yielded l.toArray tmps j = none := by
            simp only [yielded, List.getElem?_toArray, hd, Option.bind_some]
            cases h3 : tmps[d]? with
            | none => rfl
            | some u =>
              rw [Array.getD_eq_getD_getElem?, h3] at h1
              simp only [Option.getD_some] at h1
              subst h1
              rfl
          show (yielded l.toArray tmps j == some want) = _
          rw [this]
          cases want <;> (simp only [Option.some.injEq] at h; subst h; rfl)
      · cases h
    · cases h

theorem evM_sound {P : Program} {T : Tab} {E0 : EqTab} (hT : TabOK P T) (hE0 : EqOK P E0) {g : Gh} {w : World} {nt : Nat} {X : List (Nat × PV)} {BX : List (Loc × Obj)} {tmps : Array Value} {ds : List Deferred} (hlen : tmps.size = nt)
    (hr : ∀ t, RepP g (envAt X t) (tmps.getD t undef)) (hm : Mem g BX w) (o : Oper) {p : PV} {φ : Prop} (h : evM T E0 X BX o.op = some (p, φ)) (hφ : φ) : ∃ v, (execOp ((⟨tmps, ds⟩ : Act).eval) o).run P w = .ok (.value v) w ∧ RepP g p v := by
  unfold evM at h
  split at h
  · rename_i c a b hop
    have hX : ∀ x, RepP g (opnd X x) ((⟨tmps, ds⟩ : Act).eval x) := fun x => opnd_rep (st := ⟨nt, X, BX⟩) ⟨hlen, hr, hm⟩ ds x
    split at h
    · rename_i z x y hz hx hy
      split at h <;> simp only [Option.some.injEq, Prod.mk.injEq, reduceCtorEq] at h
      rename_i φ' hpk
      obtain ⟨rfl, rfl⟩ := h
      obtain ⟨h1, h2, h3⟩ := pickφ_spec hpk hφ
      have hcv := (litOf_rep hz (cnd_rep (hX c) h1)).1
      refine ⟨_, by simp only [execOp, hop, Sem.run_bind, hcv]; rfl, ?_⟩
      cases z with
      | true =>
        obtain ⟨hv, _⟩ := litOf_rep hx (cnd_rep (hX a) (h2 rfl))
        simp [RepP, RepD, hv, Value.oneCell']
      | false =>
        obtain ⟨hv, _⟩ := litOf_rep hy (cnd_rep (hX b) (h3 rfl))
        simp [RepP, RepD, hv, Value.oneCell']
    · rename_i z k x k' y hz hx hy
      split at h
      · rename_i hk φ' _ hpk
        subst hk
        simp only [Option.some.injEq, Prod.mk.injEq] at h
        obtain ⟨rfl, rfl⟩ := h
        obtain ⟨h1, h2, h3⟩ := pickφ_spec hpk hφ
        have hcv := (litOf_rep hz (cnd_rep (hX c) h1)).1
        refine ⟨_, by simp only [execOp, hop, Sem.run_bind, hcv]; rfl, ?_⟩
        cases z with
        | true =>
          obtain ⟨hv, _⟩ := litOf_rep hx (cnd_rep (hX a) (h2 rfl))
          simp [RepP, RepD, hv, Value.oneCell']
        | false =>
          obtain ⟨hv, _⟩ := litOf_rep hy (cnd_rep (hX b) (h3 rfl))
          simp [RepP, RepD, hv, Value.oneCell']
      · cases h
    · cases h
  · split at h
    · rename_i q ψ hq
      split at h
      · rename_i q' hq'
        have hqq := nf1_eq hq'
        subst hqq
        have key : ψ ∧ cndE X (opSlots o.op) = true := by
          split at h
          · rename_i hn
            simp only [Option.some.injEq, Prod.mk.injEq] at h
            obtain ⟨_, rfl⟩ := h
            exact ⟨hφ, (cndO_spec X).1 hn⟩
          · rename_i c hn
            simp only [Option.some.injEq, Prod.mk.injEq] at h
            obtain ⟨_, rfl⟩ := h
            exact ⟨hφ.1, (cndO_spec X).2 c hn hφ.2⟩
        have hp : p = q' := by
          split at h <;> (simp only [Option.some.injEq, Prod.mk.injEq] at h; exact h.1.symm)
        subst hp
        have hrel := uncE_opnd (g := g) (w := w) hlen (fun t _ => hr t) key.2 hm
        exact evX_sound hT hE0 (opnd_rep hrel ds) hm o hq key.1
      · cases h
    · cases h

def gp : Option (Nat × Bool) → Bool → PV → PV
  | none, _, p => p
  | some _, γ, p => .cond γ p
theorem gp_true {g : Gh} {gd : Option (Nat × Bool)} {γ : Bool} {p : PV} {v : Value} (hγ : γ = true) (h : RepP g p v) : RepP g (gp gd γ p) v := by
  cases gd with
  | none => exact h
  | some _ => exact ⟨fun _ => h, fun e => absurd (hγ.symm.trans e) (by simp)⟩
theorem gp_false {g : Gh} {gd : Option (Nat × Bool)} {l : List Oper} {X : List (Nat × PV)} {γ : Bool} {p : PV} (hg : guardC l X gd = some γ) (hγ : γ = false) : RepP g (gp gd γ p) undef := by
  cases gd with
  | none =>
    simp only [guardC, Option.some.injEq] at hg
    subst hg
    cases hγ
  | some _ => exact ⟨fun e => absurd (hγ.symm.trans e) (by simp), fun _ => rfl⟩

/-- The objects that an operation looks at. -/
def topU (X : List (Nat × PV)) : Operand → List Loc
  | .tmp t => topL (unc (envAt X t))
  | _ => []
def topsM (X : List (Nat × PV)) : Op → List Loc
  | .load _ a => topU X a
  | .indexAddr _ x _ => topU X x
  | .call c => c.args.toList.flatMap (topU X)
  | _ => []

section
variable {P : Program} {l rest : List Oper} {nt : Nat} {o : Oper} {X : List (Nat × PV)} {BX : List (Loc × Obj)}
theorem looks_guard {j : Nat} {w : Bool} {d : Nat} (hg : o.guard = some (j, w)) (hd : dstAt l j = some d) : d ∈ looks l o := by
  unfold looks
  simp [hg, hd]
theorem VE.m {T : Tab} {E0 : EqTab} (hT : TabOK P T) (hE0 : EqOK P E0) {p : PV} {φ : Prop} {γ : Bool} (hg : guardC l (keepEnv X (looks l o)) o.guard = some γ)
    (he : evM T E0 (keepEnv X (looks l o)) (keepBoxes BX (topsM X o.op)) o.op = some (p, φ)) (hφ : γ = true → φ) : VE P l nt o X BX ⟨gp o.guard γ p, topsM X o.op, [], []⟩ := by
  intro E B hE hB _ _ g tmps ds w hr K Q' hK
  have hk := hr.keep hE hB
  have hw := guardC_wanted (g := g) hg (fun j w d _ _ => hk.env d)
  cases hγ : γ with
  | true =>
    rw [if_pos (by rw [hw, hγ])]
    obtain ⟨v, h1, h2⟩ := evM_sound (ds := ds) hT hE0 hr.len hk.env hk.mem o he (hφ hγ)
    unfold Oper.wp
    rw [h1]
    exact hK v g w (gp_true hγ h2) hr (Ext.refl g w)
  | false =>
    rw [if_neg (by rw [hw, hγ]; simp)]
    exact hK undef g w (gp_false hg hγ) hr (Ext.refl g w)
/-- A call without objects, under a guard. -/
theorem VE.mcall {f : FuncId} {ps : List PV} {q : PV} {γ : Bool} (hg : guardC l (keepEnv X (looks l o)) o.guard = some γ) (hc : callOf (uncE (keepEnv X (looks l o)) (opSlots o.op)) o.op = some (f, ps))
    (hcn : γ = true → cndE (keepEnv X (looks l o)) (opSlots o.op) = true) (h : γ = true → AF P f (renL [] ps) [] (fun out par' => out = .ret q ∧ par' = [])) : VE P l nt o X BX ⟨gp o.guard γ (unren [] q), [], [], []⟩ := by
  intro E B hE hB hnE hnB g tmps ds w hr K Q' hK
  have hk := hr.keep hE (BX := BX) (ls := []) (fun m hm => by cases hm)
  have hw := guardC_wanted (g := g) hg (fun j w d _ _ => hk.env d)
  cases hγ : γ with
  | false =>
    rw [if_neg (by rw [hw, hγ]; simp)]
    exact hK undef g w (gp_false hg hγ) hr (Ext.refl g w)
  | true =>
    rw [if_pos (by rw [hw, hγ])]
    have hrel := uncE_opnd (g := g) (w := w) hr.len (fun t _ => hk.env t) (hcn hγ) hk.mem
    have hA := h hγ
    obtain ⟨vs, h1, h2⟩ := callOf_run (P := P) (opnd_rep hrel ds) hc hA.enters w
    unfold Oper.wp
    rw [h1]
    simp only [Oper.upon]
    refine (hA.calls (g.win []) w vs (fun i _ => by simp [Gh.win]) (renL_rep _ _ h2) (hrel.mem.win (js := []) rfl rfl)).mono ?_
    rintro e w' ⟨out, par', g', hlen, hp⟩
    obtain ⟨hO', rfl⟩ := hp.holds
    obtain ⟨hrel', hx, hun⟩ := call_back (js := []) (ex := []) hrel rfl rfl rfl rfl hp
    have hO := hp.outs
    subst hO'
    obtain ⟨v, rfl, hv⟩ := hO
    have hle : Gh.le g (g.back g' w.heap.size ([] ++ [])) := ⟨hx.π, fun _ => rfl, fun _ => rfl⟩
    have hkeep : ∀ b, b < w.heap.size → (g.win []).ω b = .none → w'.heap[b]? = w.heap[b]? ∧ g'.ω b = .none ∧ ∀ o, g'.π b o = g.π b o := fun b hb ho => hp.ext.keep b hb ho
    refine hK v _ w' (gp_true hγ (hun _ _ hv)) (hr.carry (fun _ => true) (fun t => namesOK_true (fun _ => rfl) _) (fun q c _ => namesO_true (fun _ => rfl) _) hx.π (fun _ _ => ⟨rfl, rfl⟩) (fun q c hq => .inr ⟨hq, rfl, rfl, fun b hb hlt => ?_⟩) hrel'.mem.prom (fun b hb ho => ⟨(hx.keep b hb ho).1, (hx.keep b hb ho).2.1⟩)) hx
    have hw0 : (g.win []).ω b = .none := by simp [Gh.win, hb, locIdx]
    obtain ⟨k1, k2, k3⟩ := hkeep b hlt hw0
    exact ⟨k1, by simp [Gh.back, k2, hlt, hb, locIdx], k3⟩

/-! As steps of a region -/
theorem AL.eff0 {Q : AEx → St → Prop} (e : Eff) (hv : VE P l nt o X BX e) (hnew : e.new = []) (hd : fits nt o.dst = true)
    (h : AL P l.toArray rest Q ⟨nt, put X o.dst e.p, setB BX e.ws⟩) : AL P l.toArray (o :: rest) Q ⟨nt, X, BX⟩ :=
  AL.eff e hv hd (by
    rw [hnew]
    simp only [cleanN, Bool.and_eq_true, List.all_eq_true]
    exact ⟨fun x _ => namesOK_true An_nil _, fun x _ => namesO_true An_nil _⟩) h
variable {T : Tab} {E0 : EqTab} {p : PV} {φ : Prop} {γ : Bool} {d : Nat} {Q : AEx → St → Prop}
theorem keepEnv_nil (X : List (Nat × PV)) : keepEnv X [] = [] := rfl
theorem AL.m0 (hT : TabOK P T) (hE0 : EqOK P E0) (hg : o.guard = none) (he : evM T E0 (keepEnv X (looks l o)) (keepBoxes BX (topsM X o.op)) o.op = some (p, φ)) (hφ : φ) (hdst : o.dst = some d) (hd : Nat.blt d nt = true)
    (h : AL P l.toArray rest Q ⟨nt, (d, p) :: X, BX⟩) : AL P l.toArray (o :: rest) Q ⟨nt, X, BX⟩ := by
  refine AL.eff0 _ (VE.m hT hE0 (γ := true) (by rw [hg]; rfl) he (fun _ => hφ)) rfl (by rw [hdst]; exact hd) ?_
  rw [hg, hdst]
  exact h
theorem AL.m1 (hT : TabOK P T) (hE0 : EqOK P E0) (hg : guardC l (keepEnv X (looks l o)) o.guard = some γ) (hgs : o.guard.isSome = true) (he : evM T E0 (keepEnv X (looks l o)) (keepBoxes BX (topsM X o.op)) o.op = some (p, φ)) (hφ : γ = true → φ) (hdst : o.dst = some d) (hd : Nat.blt d nt = true)
    (h : AL P l.toArray rest Q ⟨nt, (d, .cond γ p) :: X, BX⟩) : AL P l.toArray (o :: rest) Q ⟨nt, X, BX⟩ := by
  refine AL.eff0 _ (VE.m hT hE0 hg he hφ) rfl (by rw [hdst]; exact hd) ?_
  cases hgd : o.guard with
  | none => rw [hgd] at hgs; cases hgs
  | some a => rw [hdst]; exact h
variable {f : FuncId} {ps : List PV} {q q' : PV}
theorem AL.call0 (hg : o.guard = none) (hc : callOf (uncE (keepEnv X (looks l o)) (opSlots o.op)) o.op = some (f, ps)) (hcn : cndE (keepEnv X (looks l o)) (opSlots o.op) = true) (h0 : AF P f (renL [] ps) [] (fun out par' => out = .ret q ∧ par' = [])) (hq : nf1 (unren [] q) = some q')
    (hdst : o.dst = some d) (hd : Nat.blt d nt = true) (h : AL P l.toArray rest Q ⟨nt, (d, q') :: X, BX⟩) : AL P l.toArray (o :: rest) Q ⟨nt, X, BX⟩ := by
  have hqq := nf1_eq hq
  subst hqq
  refine AL.eff0 _ (VE.mcall (γ := true) (by rw [hg]; rfl) hc (fun _ => hcn) (fun _ => h0)) rfl (by rw [hdst]; exact hd) ?_
  rw [hg, hdst]
  exact h
theorem AL.call1 (hg : guardC l (keepEnv X (looks l o)) o.guard = some γ) (hgs : o.guard.isSome = true) (hc : callOf (uncE (keepEnv X (looks l o)) (opSlots o.op)) o.op = some (f, ps)) {cc : Bool} (hco : cndS (keepEnv X (looks l o)) (opSlots o.op) = some cc) (hcn : γ = true → cc = true) (h0 : γ = true → AF P f (renL [] ps) [] (fun out par' => out = .ret q ∧ par' = [])) (hq : nf1 (unren [] q) = some q')
    (hdst : o.dst = some d) (hd : Nat.blt d nt = true) (h : AL P l.toArray rest Q ⟨nt, (d, .cond γ q') :: X, BX⟩) : AL P l.toArray (o :: rest) Q ⟨nt, X, BX⟩ := by
  have hqq := nf1_eq hq
  subst hqq
  refine AL.eff0 _ (VE.mcall hg hc (fun hγ => cndS_spec hco (hcn hγ)) h0) rfl (by rw [hdst]; exact hd) ?_
  cases hgd : o.guard with
  | none => rw [hgd] at hgs; cases hgs
  | some a => rw [hdst]; exact h
variable {env0 : List (Nat × PV)} {bs0 : List (Loc × Obj)} {es : List Eff}
theorem DG.m0 (hT : TabOK P T) (hE0 : EqOK P E0) (hg : o.guard = none) (he : evM T E0 (keepEnv X (looks l o)) (keepBoxes BX (topsM X o.op)) o.op = some (p, φ)) (hφ : φ) (hdst : o.dst = some d) (hd : Nat.blt d nt = true)
    (h : DG P l Q nt env0 bs0 rest (es ++ [⟨p, topsM X o.op, [], []⟩]) ((d, p) :: X) BX) : DG P l Q nt env0 bs0 (o :: rest) es X BX := by
  have hv := VE.m (P := P) (l := l) (nt := nt) (X := X) (BX := BX) hT hE0 (γ := true) (by rw [hg]; rfl) he (fun _ => hφ)
  rw [hg] at hv
  refine DG.step _ hv (by rw [hdst]; exact hd) ?_
  rw [hdst]
  exact h
theorem DG.m1 (hT : TabOK P T) (hE0 : EqOK P E0) (hg : guardC l (keepEnv X (looks l o)) o.guard = some γ) (hgs : o.guard.isSome = true) (he : evM T E0 (keepEnv X (looks l o)) (keepBoxes BX (topsM X o.op)) o.op = some (p, φ)) (hφ : γ = true → φ) (hdst : o.dst = some d) (hd : Nat.blt d nt = true)
    (h : DG P l Q nt env0 bs0 rest (es ++ [⟨.cond γ p, topsM X o.op, [], []⟩]) ((d, .cond γ p) :: X) BX) : DG P l Q nt env0 bs0 (o :: rest) es X BX := by
  have hv := VE.m (P := P) (l := l) (nt := nt) (X := X) (BX := BX) hT hE0 hg he hφ
  cases hgd : o.guard with
  | none => rw [hgd] at hgs; cases hgs
  | some a =>
    rw [hgd] at hv
    refine DG.step _ hv (by rw [hdst]; exact hd) ?_
    rw [hdst]
    exact h
theorem DG.call0 (hg : o.guard = none) (hc : callOf (uncE (keepEnv X (looks l o)) (opSlots o.op)) o.op = some (f, ps)) (hcn : cndE (keepEnv X (looks l o)) (opSlots o.op) = true) (h0 : AF P f (renL [] ps) [] (fun out par' => out = .ret q ∧ par' = [])) (hq : nf1 (unren [] q) = some q')
    (hdst : o.dst = some d) (hd : Nat.blt d nt = true) (h : DG P l Q nt env0 bs0 rest (es ++ [⟨q', [], [], []⟩]) ((d, q') :: X) BX) : DG P l Q nt env0 bs0 (o :: rest) es X BX := by
  have hqq := nf1_eq hq
  subst hqq
  have hv := VE.mcall (P := P) (l := l) (nt := nt) (X := X) (BX := BX) (γ := true) (by rw [hg]; rfl) hc (fun _ => hcn) (fun _ => h0)
  rw [hg] at hv
  refine DG.step _ hv (by rw [hdst]; exact hd) ?_
  rw [hdst]
  exact h
theorem DG.call1 (hg : guardC l (keepEnv X (looks l o)) o.guard = some γ) (hgs : o.guard.isSome = true) (hc : callOf (uncE (keepEnv X (looks l o)) (opSlots o.op)) o.op = some (f, ps)) {cc : Bool} (hco : cndS (keepEnv X (looks l o)) (opSlots o.op) = some cc) (hcn : γ = true → cc = true) (h0 : γ = true → AF P f (renL [] ps) [] (fun out par' => out = .ret q ∧ par' = [])) (hq : nf1 (unren [] q) = some q')
    (hdst : o.dst = some d) (hd : Nat.blt d nt = true) (h : DG P l Q nt env0 bs0 rest (es ++ [⟨.cond γ q', [], [], []⟩]) ((d, .cond γ q') :: X) BX) : DG P l Q nt env0 bs0 (o :: rest) es X BX := by
  have hqq := nf1_eq hq
  subst hqq
  have hv := VE.mcall (P := P) (l := l) (nt := nt) (X := X) (BX := BX) hg hc (fun hγ => cndS_spec hco (hcn hγ)) h0
  cases hgd : o.guard with
  | none => rw [hgd] at hgs; cases hgs
  | some a =>
    rw [hgd] at hv
    refine DG.step _ hv (by rw [hdst]; exact hd) ?_
    rw [hdst]
    exact h
theorem AL.boxN (hT : TabOK P T) {e : TypeId} {cs cs' : List PV} (hg : o.guard = none) (hdst : o.dst = some d) (hc : newCells T X o.op = some (e, cs)) (hn : nfL cs = some cs')
    (hd : Nat.blt d nt = true) (hcl : (cleanE d X && cleanB d BX && cleanL d cs') = true)
    (h : AL P l.toArray rest Q ⟨nt, (d, .ptr (.loc d) 0) :: X, (.loc d, .cells cs') :: BX⟩) : AL P l.toArray (o :: rest) Q ⟨nt, X, BX⟩ := by
  have hqq := nfL_eq hn
  subst hqq
  exact AL.box hT (by rw [hg]; rfl) hdst hc hd hcl h
end
end Go.Pv
