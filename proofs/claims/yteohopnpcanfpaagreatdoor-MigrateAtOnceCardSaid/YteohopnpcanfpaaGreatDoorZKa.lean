/- Part of the proofs over this seat: Pv0 Pv1 Pv2 Pv3 Pv4 Pv5 Pv6 Pv7 Pv8 Pv9 Pv10 Pv11 Pv12 Pv13. -/
import Derived.WalkKit
import Derived.Lib.LaidTab
import Derived.Lib.ItoaNum
import Derived.Test.YteohopnpcanfpaaGreatDoorProg
set_option maxRecDepth 100000
namespace Go.Pv
open Go.RowKit Go.Proofs
/-- What every function may rely on, of the world: the package-level variables of the library hold what they were given at the start. -/
def GlobW (w : World) : Prop := (∃ tp p, w.var? Tryz.prog "strconv.ErrSyntax" = some #[.iface tp p]) ∧ (∃ tp p, w.var? Tryz.prog "strconv.ErrRange" = some #[.iface tp p]) ∧
  Lib.TabIs Tryz.prog w "internal/strconv.uint64pow10" .u64 Lib.pow10Tab
def globNs : List String := ["strconv.ErrSyntax", "strconv.ErrRange", "internal/strconv.uint64pow10"]
theorem GlobW.lt {w : World} (h : GlobW w) : ∀ n ∈ globNs, ∀ b, Tryz.prog.globalNamed n = some b → b < w.heap.size := by
  have key : ∀ (n : String) (x : Array Value) (b : Nat), w.var? Tryz.prog n = some x → Tryz.prog.globalNamed n = some b → b < w.heap.size := by
    intro n x b hv hb
    unfold World.var? at hv
    rw [hb, Option.bind_some] at hv
    rcases Nat.lt_or_ge b w.heap.size with hlt | hge
    · exact hlt
    · rw [Array.getElem?_eq_none hge] at hv
      cases hv
  obtain ⟨⟨tp, p, h1⟩, ⟨tp2, p2, h2⟩, h3⟩ := h
  intro n hn b hb
  simp only [globNs, List.mem_cons, List.mem_nil_iff, or_false] at hn
  rcases hn with rfl | rfl | rfl
  · exact key _ _ b h1 hb
  · exact key _ _ b h2 hb
  · exact key _ _ b h3 hb
theorem GlobW.keep {w w' : World} (h : GlobW w) (k : ∀ n ∈ globNs, ∀ b, Tryz.prog.globalNamed n = some b → w'.heap[b]? = w.heap[b]?) : GlobW w' := by
  have key : ∀ n ∈ globNs, ∀ x : Array Value, w.var? Tryz.prog n = some x → w'.var? Tryz.prog n = some x := by
    intro n hn x hv
    unfold World.var? at hv ⊢
    cases hb : Tryz.prog.globalNamed n with
    | none => rw [hb] at hv; cases hv
    | some b =>
      rw [hb, Option.bind_some] at hv
      rw [Option.bind_some, k n hn b hb]
      exact hv
  obtain ⟨⟨tp, p, h1⟩, ⟨tp2, p2, h2⟩, h3⟩ := h
  exact ⟨⟨tp, p, key _ (by simp [globNs]) _ h1⟩, ⟨tp2, p2, key _ (by simp [globNs]) _ h2⟩, key _ (by simp [globNs]) _ h3⟩
end Go.Pv
namespace Go.Pv
open Go.RowKit

/-! ### Pure values. A slice: cells an element, length, its elements by index (what lies beyond the length is of no account). -/
inductive D where
  | lit (v : Value)
  | ifc (t : TypeId) (x : D)
  | sl (k n : Nat) (f : Nat → D)
  | agg (cs : List D)
instance : Inhabited D := ⟨.lit undef⟩

inductive Loc where
  | par (i : Nat)
  | loc (d : Nat)
  deriving DecidableEq, Inhabited

inductive PV where
  | any
  | d (x : D)
  | agp (ps : List PV)
  | ptr (l : Loc) (off : Nat)
  | pe (l : Loc) (k i j : Nat)
  | ea (x : D) (off : Nat)
  | fn (f : Fn) (first caps : List PV)
  | sl (l : Loc) (n : Nat)
  | tup (xs : List PV)
  | cond (c : Bool) (p : PV)
instance : Inhabited PV := ⟨.any⟩

abbrev Prom := Nat → Nat → Option Value

mutual
def RepD (π : Prom) : D → Value → Prop
  | .lit u, v => v = u ∧ u.oneCell' = true
  | .ifc t x, v => ∃ u, v = .iface t u ∧ RepD π x u
  | .sl k n f, v => ∃ a c, v = .slice a n c ∧ n ≤ c ∧ c ≤ maxLen ∧ (0 < n → ∃ b o, a = some ⟨b, o, none⟩ ∧
      ∀ i, i < n → ∃ u, RepD π (f i) u ∧ u.cells.size = k ∧ ∀ j c, u.cells[j]? = some c → π b (o + i * k + j) = some c)
  | .agg cs, v => ∃ vs : List Value, v = .agg vs.toArray ∧ RepL π cs vs
def RepL (π : Prom) : List D → List Value → Prop
  | [], vs => vs = []
  | x :: xs, vs => ∃ v vs', vs = v :: vs' ∧ v.oneCell' = true ∧ RepD π x v ∧ RepL π xs vs'
end

inductive Own where
  | none
  | box (l : Loc)
  deriving DecidableEq, Inhabited

/-- The ghost: what is promised of cells; where the objects lie; the arrays' present values and lengths; who owns a block; which objects never move. -/
structure Gh where
  π : Prom
  β : Loc → Nat
  ρ : Loc → Option (Value × Nat)
  ω : Nat → Own
  fx : Loc → Bool

mutual
def RepP (g : Gh) : PV → Value → Prop
  | .any, _ => True
  | .d x, v => RepD g.π x v
  | .agp ps, v => ∃ vs : List Value, v = .agg vs.toArray ∧ RepPL g ps vs ∧ ∀ u ∈ vs, u.oneCell' = true
  | .ptr l off, v => v = .pointer (some ⟨g.β l, off, none⟩)
  | .pe l k i j, v => v = .pointer (some ⟨g.β l, i * k + j, none⟩)
  | .ea x off, v => ∃ b o u, v = .pointer (some ⟨b, o + off, none⟩) ∧ RepD g.π x u ∧ ∀ j c, u.cells[j]? = some c → g.π b (o + j) = some c
  | .fn f first caps, v => ∃ vs us : List Value, v = .func f vs.toArray us.toArray ∧ RepPL g first vs ∧ RepPL g caps us
  | .sl l n, v => v.oneCell' = true ∧ ∀ u, g.ρ l = some (u, n) → v = u
  | .tup xs, v => ∃ vs : List Value, v = .tuple vs.toArray ∧ RepPL g xs vs
  | .cond c p, v => (c = true → RepP g p v) ∧ (c = false → v = undef)
def RepPL (g : Gh) : List PV → List Value → Prop
  | [], vs => vs = []
  | x :: xs, vs => ∃ v vs', vs = v :: vs' ∧ RepP g x v ∧ RepPL g xs vs'
end

def Prom.le (π π' : Prom) : Prop := ∀ b o v, π b o = some v → π' b o = some v
theorem Prom.le_refl (π : Prom) : Prom.le π π := fun _ _ _ h => h
theorem Prom.le_trans {a b c : Prom} (h : Prom.le a b) (k : Prom.le b c) : Prom.le a c := fun _ _ _ x => k _ _ _ (h _ _ _ x)

mutual
theorem RepD.mono {π π' : Prom} (h : Prom.le π π') : ∀ (x : D) (v : Value), RepD π x v → RepD π' x v
  | .lit u, v, hr => hr
  | .ifc t x, v, hr => by
    obtain ⟨u, e, hr⟩ := hr
    exact ⟨u, e, RepD.mono h x u hr⟩
  | .sl k n f, v, hr => by
    obtain ⟨a, c, e, h1, h2, h3⟩ := hr
    refine ⟨a, c, e, h1, h2, fun hx => ?_⟩
    obtain ⟨b, o, ea, hE⟩ := h3 hx
    refine ⟨b, o, ea, fun i hi => ?_⟩
    obtain ⟨u, h4, h5, h6⟩ := hE i hi
    exact ⟨u, RepD.mono h (f i) u h4, h5, fun j c hc => h _ _ _ (h6 j c hc)⟩
  | .agg cs, v, hr => by
    obtain ⟨vs, e, hl⟩ := hr
    exact ⟨vs, e, RepL.mono h cs vs hl⟩
theorem RepL.mono {π π' : Prom} (h : Prom.le π π') : ∀ (xs : List D) (vs : List Value), RepL π xs vs → RepL π' xs vs
  | [], _, hr => hr
  | x :: xs, vs, hr => by
    obtain ⟨v, vs', e, h1, h2, h3⟩ := hr
    exact ⟨v, vs', e, h1, RepD.mono h x v h2, RepL.mono h xs vs' h3⟩
end

/-! Elements may be given otherwise, as long as they are the same below the length. -/
theorem RepD.sl_congr {π : Prom} {k n : Nat} {f f' : Nat → D} {v : Value} (h : RepD π (.sl k n f) v) (hf : ∀ i, i < n → f i = f' i) : RepD π (.sl k n f') v := by
  obtain ⟨a, c, e, h1, h2, h3⟩ := h
  refine ⟨a, c, e, h1, h2, fun hx => ?_⟩
  obtain ⟨b, o, ea, hE⟩ := h3 hx
  refine ⟨b, o, ea, fun i hi => ?_⟩
  rw [← hf i hi]
  exact hE i hi

/-- The ghost has grown: promises stay, boxes and rows stay where they are. -/
structure Gh.le (g g' : Gh) : Prop where
  π : Prom.le g.π g'.π
  β : ∀ l, g'.β l = g.β l
  ρ : ∀ r, g'.ρ r = g.ρ r
theorem Gh.le_refl (g : Gh) : Gh.le g g := ⟨Prom.le_refl _, fun _ => rfl, fun _ => rfl⟩

mutual
theorem RepP.mono {g g' : Gh} (h : Gh.le g g') : ∀ (p : PV) (v : Value), RepP g p v → RepP g' p v
  | .any, _, _ => trivial
  | .d x, v, hr => RepD.mono h.π x v hr
  | .agp ps, v, hr => by
    obtain ⟨vs, e, h1, h2⟩ := hr
    exact ⟨vs, e, RepPL.mono h ps vs h1, h2⟩
  | .ptr l off, v, hr => by unfold RepP at *; rw [h.β]; exact hr
  | .pe l k i j, v, hr => by unfold RepP at *; rw [h.β]; exact hr
  | .ea x off, v, hr => by
    obtain ⟨b, o, u, e, h1, h2⟩ := hr
    exact ⟨b, o, u, e, RepD.mono h.π x u h1, fun j c hc => h.π _ _ _ (h2 j c hc)⟩
  | .fn f first caps, v, hr => by
    obtain ⟨vs, us, e, h1, h2⟩ := hr
    exact ⟨vs, us, e, RepPL.mono h first vs h1, RepPL.mono h caps us h2⟩
  | .sl l n, v, hr => ⟨hr.1, fun u hu => hr.2 u (by rw [← h.ρ]; exact hu)⟩
  | .tup xs, v, hr => by
    obtain ⟨vs, e, h1⟩ := hr
    exact ⟨vs, e, RepPL.mono h xs vs h1⟩
  | .cond c p, v, hr => ⟨fun hc => RepP.mono h p v (hr.1 hc), hr.2⟩
theorem RepPL.mono {g g' : Gh} (h : Gh.le g g') : ∀ (xs : List PV) (vs : List Value), RepPL g xs vs → RepPL g' xs vs
  | [], _, hr => hr
  | x :: xs, vs, hr => by
    obtain ⟨v, vs', e, h1, h2⟩ := hr
    exact ⟨v, vs', e, RepP.mono h x v h1, RepPL.mono h xs vs' h2⟩
end

theorem RepPL.length {g : Gh} : ∀ {xs : List PV} {vs : List Value}, RepPL g xs vs → vs.length = xs.length
  | [], _, h => by cases h; rfl
  | x :: xs, _, h => by obtain ⟨v, vs', rfl, _, h2⟩ := h; simp [RepPL.length h2]
theorem RepPL.get {g : Gh} : ∀ {xs : List PV} {vs : List Value}, RepPL g xs vs → ∀ {i : Nat} {p : PV}, xs[i]? = some p → ∃ v, vs[i]? = some v ∧ RepP g p v
  | [], _, _, i, p, hp => by simp at hp
  | x :: xs, _, h, 0, p, hp => by
    obtain ⟨v, vs', rfl, h1, _⟩ := h
    simp at hp
    subst hp
    exact ⟨v, rfl, h1⟩
  | x :: xs, _, h, i + 1, p, hp => by
    obtain ⟨v, vs', rfl, _, h2⟩ := h
    obtain ⟨u, hu, hr⟩ := RepPL.get h2 (i := i) (p := p) (by simpa using hp)
    exact ⟨u, by simpa using hu, hr⟩
theorem RepPL.of_get {g : Gh} : ∀ {xs : List PV} {vs : List Value}, vs.length = xs.length → (∀ (i : Nat) (p : PV) (v : Value), xs[i]? = some p → vs[i]? = some v → RepP g p v) → RepPL g xs vs
  | [], vs, hl, _ => by cases vs with | nil => rfl | cons _ _ => simp at hl
  | x :: xs, vs, hl, h => by
    cases vs with
    | nil => simp at hl
    | cons v vs => exact ⟨v, vs, rfl, h 0 x v rfl rfl, RepPL.of_get (by simpa using hl) (fun i p u hp hu => h (i + 1) p u (by simpa using hp) (by simpa using hu))⟩
end Go.Pv
namespace Go.Pv
open Go.RowKit

/-! ### Objects and states -/
/-- What a block of memory that one owns holds: cells; or an array that a slice of its beginning shows (e: element type, k: cells an element, n: elements; all of data, but for one element in focus). -/
inductive Obj where
  | cells (cs : List PV)
  | arr (b : Bool) (e k n : Nat) (F : Nat → List D) (foc : Option (Nat × List PV))
  | gone (b : Bool) (n : Option Nat)
  | nest (e n e1 k1 : Nat) (N : Nat → Nat) (F : Nat → Nat → List D) (foc : Option (Nat × List PV))
structure St where
  nt : Nat
  env : List (Nat × PV)
  boxes : List (Loc × Obj)
instance : Inhabited St := ⟨⟨0, [], []⟩⟩
def envAt : List (Nat × PV) → Nat → PV
  | [], _ => .any
  | (l, c) :: r, l' => bif Nat.beq l l' then c else envAt r l'

def Loc.eqb : Loc → Loc → Bool
  | .par i, .par j => Nat.beq i j
  | .loc i, .loc j => Nat.beq i j
  | _, _ => false
theorem Loc.eqb_iff {a b : Loc} : Loc.eqb a b = true ↔ a = b := by
  cases a <;> cases b <;> simp [Loc.eqb]
def objAt : List (Loc × Obj) → Loc → Option Obj
  | [], _ => none
  | (l, c) :: r, l' => bif Loc.eqb l l' then some c else objAt r l'
def setObj : List (Loc × Obj) → Loc → Obj → List (Loc × Obj)
  | [], _, _ => []
  | (l, c) :: r, l', c' => bif Loc.eqb l l' then (l, c') :: r else (l, c) :: setObj r l' c'

theorem objAt_setObj (bs : List (Loc × Obj)) (l l' : Loc) (c : Obj) : objAt (setObj bs l c) l' = if l = l' then (objAt bs l').map (fun _ => c) else objAt bs l' := by
  induction bs with
  | nil => simp [objAt, setObj]
  | cons x r ih =>
    obtain ⟨m, d⟩ := x
    by_cases h1 : Loc.eqb m l = true
    · have e1 := Loc.eqb_iff.1 h1
      subst e1
      by_cases h2 : Loc.eqb m l' = true
      · have e2 := Loc.eqb_iff.1 h2
        subst e2
        simp [objAt, setObj, h1]
      · have hn : m ≠ l' := fun e => h2 (Loc.eqb_iff.2 e)
        simp [objAt, setObj, h1, h2, hn]
    · by_cases h2 : Loc.eqb m l' = true
      · have e2 := Loc.eqb_iff.1 h2
        subst e2
        have hn : l ≠ m := fun e => h1 (Loc.eqb_iff.2 e.symm)
        simp [objAt, setObj, h1, h2, hn]
      · simp [objAt, setObj, h1, h2, ih]
theorem nbeqF {a b : Nat} (h : a ≠ b) : Nat.beq a b = false := by
  cases h' : Nat.beq a b with
  | true => exact absurd (Nat.eq_of_beq_eq_true h') h
  | false => rfl

/-- Element i of an array lies there. -/
def ElemOK (g : Gh) (F : Nat → List D) (foc : Option (Nat × List PV)) (i : Nat) (vs : List Value) : Prop :=
  match foc with
  | some (i', cs) => (i = i' → RepPL g cs vs) ∧ (i ≠ i' → RepL g.π (F i) vs)
  | none => RepL g.π (F i) vs

/-- An array of one's own within another object l. -/
def InnOK (g : Gh) (w : World) (l : Loc) (e1 k1 n : Nat) (F : Nat → List D) (v : Value) : Prop :=
  ∃ cs, w.ownsRow 0 e1 k1 v n cs ∧ (∀ c ∈ cs, Value.oneCell' c = true) ∧ (∀ q, q < n → RepL g.π (F q) ((cs.drop (q * k1)).take k1)) ∧
    ∀ c, v.ownBlock = some c → c ≠ g.β l ∧ g.ω c = .box l ∧ ∀ o, g.π c o = none
def NestElem (g : Gh) (w : World) (l : Loc) (e1 k1 : Nat) (N : Nat → Nat) (F : Nat → Nat → List D) (foc : Option (Nat × List PV)) (i : Nat) (v : Value) : Prop :=
  match foc with
  | some (j, cs) => (i = j → RepPL g cs [v]) ∧ (i ≠ j → InnOK g w l e1 k1 (N i) (F i) v)
  | none => InnOK g w l e1 k1 (N i) (F i) v
def focAt : Option (Nat × List PV) → Nat → Prop
  | some (j, _), i => i = j
  | none, _ => False
/-- An object lies in memory. -/
def ObjOK (g : Gh) (w : World) (l : Loc) : Obj → Prop
  | .cells cs => ∃ T vs, w.heap[g.β l]? = some (.cells (List.toArray vs) T (0, 0)) ∧ RepPL g cs vs ∧ (∀ v ∈ vs, Value.oneCell' v = true) ∧ g.fx l = true ∧
    g.ω (g.β l) = .box l ∧ ∀ o, g.π (g.β l) o = none
  | .arr b e k n F foc => ∃ u cs, g.ρ l = some (u, n) ∧ w.ownsRow 0 e k u n cs ∧ (∀ v ∈ cs, Value.oneCell' v = true) ∧ (∀ i, i < n → ElemOK g F foc i ((cs.drop (i * k)).take k)) ∧ g.fx l = b ∧
    ∀ c, u.ownBlock = some c → c = g.β l ∧ g.ω c = .box l ∧ ∀ o, g.π c o = none
  | .gone b n => g.fx l = b ∧ ∀ m, n = some m → ∃ a c, g.ρ l = some (.slice a m c, m)
  | .nest e n e1 k1 N F foc => ∃ u cs, g.ρ l = some (u, n) ∧ w.ownsRow 0 e 1 u n cs ∧ (∀ v ∈ cs, Value.oneCell' v = true) ∧ g.fx l = true ∧ (∀ c, u.ownBlock = some c → c = g.β l ∧ g.ω c = .box l ∧ ∀ o, g.π c o = none) ∧
    (∀ i v, cs[i]? = some v → NestElem g w l e1 k1 N F foc i v) ∧
    ∀ i j v v' c, cs[i]? = some v → cs[j]? = some v' → ¬ focAt foc i → ¬ focAt foc j → v.ownBlock = some c → v'.ownBlock = some c → i = j

/-- The package-level variables hold what they were given, and nobody owns them. -/
def GlobM (g : Gh) (w : World) : Prop := GlobW w ∧ ∀ n ∈ globNs, ∀ b, Proofs.Tryz.prog.globalNamed n = some b → g.ω b = .none
theorem GlobM.to {g g' : Gh} {w w' : World} (h : GlobM g w) (k : ∀ b, b < w.heap.size → g.ω b = .none → w'.heap[b]? = w.heap[b]? ∧ g'.ω b = .none) : GlobM g' w' :=
  ⟨h.1.keep fun n hn b hb => (k b (h.1.lt n hn b hb) (h.2 n hn b hb)).1, fun n hn b hb => (k b (h.1.lt n hn b hb) (h.2 n hn b hb)).2⟩
/-- What lies in memory. -/
structure Mem (g : Gh) (boxes : List (Loc × Obj)) (w : World) : Prop where
  box : ∀ l o, objAt boxes l = some o → ObjOK g w l o
  prom : ∀ b o v, g.π b o = some v → w.cell? ⟨b, o, none⟩ = some v
  glob : GlobM g w

structure Rel (g : Gh) (st : St) (tmps : Array Value) (w : World) : Prop where
  len : tmps.size = st.nt
  env : ∀ i, RepP g (envAt st.env i) (tmps.getD i undef)
  mem : Mem g st.boxes w

def Obj.map (σ : List PV → List PV) : Obj → Obj
  | .cells cs => .cells (σ cs)
  | .arr b e k n F foc => .arr b e k n F (match foc with | some (i, cs) => some (i, σ cs) | none => none)
  | .gone b n => .gone b n
  | .nest e n e1 k1 N F foc => .nest e n e1 k1 N F (match foc with | some (i, cs) => some (i, σ cs) | none => none)

theorem ownsRow_block {w w' : World} {e k n : Nat} {u : Value} {cs : List Value} (h : w.ownsRow 0 e k u n cs) (hb : ∀ b, u.ownBlock = some b → w'.heap[b]? = w.heap[b]?) : w'.ownsRow 0 e k u n cs := by
  refine ⟨h.1, ?_⟩
  rcases h.2 with hn | ⟨g, cap, cur, rfl, h1, h2, h3⟩
  · exact .inl hn
  · exact .inr ⟨g, cap, cur, rfl, h1, by rw [hb g rfl]; exact h2, h3⟩
theorem ownsRow_lt {w : World} {e k n : Nat} {u : Value} {cs : List Value} (h : w.ownsRow 0 e k u n cs) {b : Nat} (hb : u.ownBlock = some b) : b < w.heap.size := by
  rcases h.2 with ⟨rfl, _⟩ | ⟨g, cap, cur, rfl, h1, h2, h3⟩
  · simp [Value.ownBlock] at hb
  · simp only [Value.ownBlock, Option.some.injEq] at hb
    subst hb
    exact (Array.getElem?_eq_some_iff.1 h2).1

theorem InnOK.tr {g g' : Gh} {w w' : World} {l l' : Loc} {e1 k1 n : Nat} {F : Nat → List D} {v : Value} (h : InnOK g w l e1 k1 n F v) (hπ : Prom.le g.π g'.π) (hβ : g'.β l' = g.β l)
    (hb : ∀ b, g.ω b = .box l → b < w.heap.size → w'.heap[b]? = w.heap[b]? ∧ g'.ω b = .box l' ∧ ∀ o, g'.π b o = g.π b o) : InnOK g' w' l' e1 k1 n F v := by
  obtain ⟨cs, h1, h2, h3, h4⟩ := h
  refine ⟨cs, ownsRow_block h1 (fun c hc => (hb c (h4 c hc).2.1 (ownsRow_lt h1 hc)).1), h2, fun q hq => RepL.mono hπ _ _ (h3 q hq), fun c hc => ?_⟩
  obtain ⟨k1, k2, k3⟩ := hb c (h4 c hc).2.1 (ownsRow_lt h1 hc)
  exact ⟨by rw [hβ]; exact (h4 c hc).1, k2, fun o => by rw [k3 o]; exact (h4 c hc).2.2 o⟩
theorem nest_tr {g g' : Gh} {w w' : World} {l l' : Loc} {e n e1 k1 : Nat} {N : Nat → Nat} {F : Nat → Nat → List D} {foc foc' : Option (Nat × List PV)} (h : ObjOK g w l (.nest e n e1 k1 N F foc)) (hπ : Prom.le g.π g'.π)
    (hβ : g'.β l' = g.β l) (hρ : g'.ρ l' = g.ρ l) (hf : g'.fx l' = g.fx l)
    (hb : ∀ b, g.ω b = .box l → b < w.heap.size → w'.heap[b]? = w.heap[b]? ∧ g'.ω b = .box l' ∧ ∀ o, g'.π b o = g.π b o)
    (hfoc : (foc = none ∧ foc' = none) ∨ ∃ i ps ps', foc = some (i, ps) ∧ foc' = some (i, ps') ∧ ∀ vs, RepPL g ps vs → RepPL g' ps' vs) : ObjOK g' w' l' (.nest e n e1 k1 N F foc') := by
  obtain ⟨u, cs, h1, h2, h3, h4, h5, h6, h7⟩ := h
  refine ⟨u, cs, by rw [hρ]; exact h1, ownsRow_block h2 (fun c hc => (hb c (h5 c hc).2.1 (ownsRow_lt h2 hc)).1), h3, by rw [hf]; exact h4, fun c hc => ?_, fun i v hv => ?_, ?_⟩
  · obtain ⟨k1, k2, k3⟩ := hb c (h5 c hc).2.1 (ownsRow_lt h2 hc)
    exact ⟨by rw [hβ]; exact (h5 c hc).1, k2, fun o => by rw [k3 o]; exact (h5 c hc).2.2 o⟩
  · have := h6 i v hv
    rcases hfoc with ⟨rfl, rfl⟩ | ⟨j, ps, ps', rfl, rfl, hps⟩
    · exact InnOK.tr this hπ hβ hb
    · exact ⟨fun e => hps _ (this.1 e), fun e => InnOK.tr (this.2 e) hπ hβ hb⟩
  · rcases hfoc with ⟨rfl, rfl⟩ | ⟨j, ps, ps', rfl, rfl, hps⟩
    · exact h7
    · exact h7
/-- An object is carried over: to another world, another ghost, another name. -/
theorem ObjOK.tr {g g' : Gh} {w w' : World} {l l' : Loc} {o : Obj} (h : ObjOK g w l o) (σ : List PV → List PV) (hσ : ∀ ps vs, RepPL g ps vs → RepPL g' (σ ps) vs) (hπ : Prom.le g.π g'.π)
    (hβ : g'.β l' = g.β l) (hρ : g'.ρ l' = g.ρ l) (hf : g'.fx l' = g.fx l)
    (hb : ∀ b, g.ω b = .box l → b < w.heap.size → w'.heap[b]? = w.heap[b]? ∧ g'.ω b = .box l' ∧ ∀ o, g'.π b o = g.π b o) : ObjOK g' w' l' (o.map σ) := by
  cases o with
  | cells cs =>
    obtain ⟨T, vs, h1, h2, h3, h4, h5, h6⟩ := h
    obtain ⟨k1, k2, k3⟩ := hb _ h5 (Array.getElem?_eq_some_iff.1 h1).1
    exact ⟨T, vs, by rw [hβ, k1]; exact h1, hσ _ _ h2, h3, by rw [hf]; exact h4, by rw [hβ]; exact k2, fun o => by rw [hβ, k3 o]; exact h6 o⟩
  | arr b e k n F foc =>
    obtain ⟨u, cs, h1, h2, h3, h4, h5, h6⟩ := h
    refine ⟨u, cs, by rw [hρ]; exact h1, ownsRow_block h2 (fun c hc => ?_), h3, fun i hi => ?_, by rw [hf]; exact h5, fun c hc => ?_⟩
    · exact (hb c (h6 c hc).2.1 (ownsRow_lt h2 hc)).1
    · have := h4 i hi
      cases foc with
      | none => exact RepL.mono hπ _ _ this
      | some ic =>
        obtain ⟨i', ps⟩ := ic
        exact ⟨fun e => hσ _ _ (this.1 e), fun e => RepL.mono hπ _ _ (this.2 e)⟩
    · obtain ⟨k1, k2, k3⟩ := hb c (h6 c hc).2.1 (ownsRow_lt h2 hc)
      exact ⟨by rw [hβ]; exact (h6 c hc).1, k2, fun o => by rw [k3 o]; exact (h6 c hc).2.2 o⟩
  | gone b n => exact ⟨hf.trans h.1, fun m hm => by rw [hρ]; exact h.2 m hm⟩
  | nest e n e1 k1 N F foc =>
    refine nest_tr h hπ hβ hρ hf hb ?_
    cases foc with
    | none => exact .inl ⟨rfl, rfl⟩
    | some ic => exact .inr ⟨_, _, _, rfl, rfl, fun vs h => hσ _ _ h⟩
theorem Obj.map_id (o : Obj) : o.map id = o := by
  cases o with
  | cells cs => rfl
  | arr b e k n F foc => cases foc <;> rfl
  | gone b n => rfl
  | nest e n e1 k1 N F foc => cases foc <;> rfl

/-- From (g, w) to (g', w'): promises grow; what nobody owns stays as it is. -/
structure Ext (g : Gh) (w : World) (g' : Gh) (w' : World) : Prop where
  π : Prom.le g.π g'.π
  size : w.heap.size ≤ w'.heap.size
  os : w'.os = w.os
  tape : w'.tape = w.tape
  output : w'.output = w.output
  par : ∀ i, g.fx (.par i) = true → g'.β (.par i) = g.β (.par i) ∧ g'.ρ (.par i) = g.ρ (.par i) ∧ g'.fx (.par i) = true
  keep : ∀ b, b < w.heap.size → g.ω b = .none → w'.heap[b]? = w.heap[b]? ∧ g'.ω b = .none ∧ ∀ o, g'.π b o = g.π b o
theorem GlobM.ext {g g' : Gh} {w w' : World} (h : GlobM g w) (hx : Ext g w g' w') : GlobM g' w' := h.to fun b hb ho => ⟨(hx.keep b hb ho).1, (hx.keep b hb ho).2.1⟩
theorem Ext.refl (g : Gh) (w : World) : Ext g w g w := ⟨Prom.le_refl _, Nat.le_refl _, rfl, rfl, rfl, fun _ h => ⟨rfl, rfl, h⟩, fun _ _ h => ⟨rfl, h, fun _ => rfl⟩⟩
theorem Ext.trans {g g1 g2 : Gh} {w w1 w2 : World} (h : Ext g w g1 w1) (k : Ext g1 w1 g2 w2) : Ext g w g2 w2 :=
  ⟨Prom.le_trans h.π k.π, Nat.le_trans h.size k.size, k.os.trans h.os, k.tape.trans h.tape, k.output.trans h.output, fun i hi => by
    obtain ⟨a1, a2, a3⟩ := h.par i hi
    obtain ⟨b1, b2, b3⟩ := k.par i a3
    exact ⟨b1.trans a1, b2.trans a2, b3⟩, fun b hb ho => by
    obtain ⟨h1, h2, h3⟩ := h.keep b hb ho
    obtain ⟨k1, k2, k3⟩ := k.keep b (Nat.lt_of_lt_of_le hb h.size) h2
    exact ⟨k1.trans h1, k2, fun o => (k3 o).trans (h3 o)⟩⟩
/-- A draw. -/
theorem Mem.drew {g : Gh} {bs : List (Loc × Obj)} {w : World} (h : Mem g bs w) : Mem g bs w.drew := ⟨h.box, h.prom, h.glob⟩
theorem Ext.drew (g : Gh) (w : World) : Ext g w g w.drew := ⟨Prom.le_refl _, Nat.le_refl _, rfl, rfl, rfl, fun _ h => ⟨rfl, rfl, h⟩, fun _ _ h => ⟨rfl, h, fun _ => rfl⟩⟩

/-! ### Operands -/
def constD : Value → PV
  | .agg cs => bif cs.toList.all Value.oneCell' then .d (.agg (cs.toList.map .lit)) else .any
  | .tuple _ => .any
  | v => .d (.lit v)
def opnd (env : List (Nat × PV)) : Operand → PV
  | .tmp t => envAt env t
  | .const v => constD v
  | .global _ => .any
  | .func f => .fn (.func f) [] []

theorem repL_lits (π : Prom) : ∀ (cs : List Value), cs.all Value.oneCell' = true → RepL π (cs.map .lit) cs
  | [], _ => rfl
  | c :: cs, h => by
    simp only [List.all_cons, Bool.and_eq_true] at h
    exact ⟨c, cs, rfl, h.1, ⟨rfl, h.1⟩, repL_lits π cs h.2⟩
theorem constD_rep (g : Gh) (v : Value) : RepP g (constD v) v := by
  unfold constD
  split
  · rename_i cs
    cases h : cs.toList.all Value.oneCell' with
    | false => trivial
    | true => exact ⟨cs.toList, by simp, repL_lits _ _ h⟩
  · trivial
  · rename_i h1 h2
    refine ⟨rfl, ?_⟩
    cases v <;> first | rfl | (exact absurd rfl (h1 _)) | (exact absurd rfl (h2 _))
theorem opnd_rep {g : Gh} {st : St} {tmps : Array Value} {w : World} (h : Rel g st tmps w) (defers : List Deferred) (x : Operand) :
    RepP g (opnd st.env x) ((⟨tmps, defers⟩ : Act).eval x) := by
  cases x with
  | tmp t => exact h.env t
  | const v => exact constD_rep g v
  | global _ => trivial
  | func f => exact ⟨[], [], rfl, rfl, rfl⟩

/-- A slot is written. -/
def put (env : List (Nat × PV)) : Option Nat → PV → List (Nat × PV)
  | some d, p => (d, p) :: env
  | none, _ => env
def fits (nt : Nat) : Option Nat → Bool
  | some d => Nat.blt d nt
  | none => true
theorem Rel.put {g : Gh} {st : St} {tmps : Array Value} {w : World} (h : Rel g st tmps w) (dst : Option Nat) (hd : fits st.nt dst = true) (p : PV) (v : Value) (hp : RepP g p v) (defers : List Deferred) :
    Rel g { st with env := put st.env dst p } ((⟨tmps, defers⟩ : Act).put dst v).tmps w := by
  cases dst with
  | none => exact h
  | some d =>
    have hlt : d < tmps.size := by rw [h.len]; simpa [fits, Nat.blt_eq] using hd
    refine ⟨by simp [Act.put, h.len], fun i => ?_, h.mem⟩
    simp only [Pv.put, Act.put, envAt]
    by_cases hid : d = i
    · subst hid
      simpa [hlt] using hp
    · have := h.env i
      simpa [nbeqF hid, Array.getElem?_setIfInBounds_ne hid] using this
end Go.Pv
namespace Go.Pv
open Go.RowKit

/-! ### The table of types -/
inductive TK where
  | int (k : IntKind) | bool | str | sl (e : Nat) | st (fs : List (Nat × Nat)) | arr (n e : Nat) | ptr (e : Nat) | ifc | fn | other
def tkOf : TypeDesc → TK
  | .int k => .int k
  | .bool => .bool
  | .string => .str
  | .slice e => .sl e
  | .struct fs => .st (fs.toList.map fun f => (f.offset, f.type))
  | .array n e => .arr n e
  | .pointer e => .ptr e
  | .interface _ => .ifc
  | .func .. => .fn
  | _ => .other
structure TI where
  tk : TK
  size : Nat
  bytes : Nat
  zero : Value
abbrev Tab := List (Nat × TI)
def tyAt : Tab → Nat → Option TI
  | [], _ => none
  | (l, c) :: r, l' => bif Nat.beq l l' then some c else tyAt r l'
def TabOK (P : Program) (T : Tab) : Prop := ∀ t i, tyAt T t = some i →
  (P.underlying t).map tkOf = some i.tk ∧ (P.info? t).map (fun x => (x.size, x.bytes, x.zero)) = some (i.size, i.bytes, some i.zero)

def TK.isAgg : TK → Bool
  | .st _ | .arr .. => true
  | _ => false

section
variable {P : Program} {T : Tab} (hT : TabOK P T)
include hT
theorem TabOK.und {t : Nat} {i : TI} (h : tyAt T t = some i) : ∃ d, P.underlying t = some d ∧ tkOf d = i.tk := by
  have := (hT t i h).1
  cases hu : P.underlying t with
  | none => simp [hu] at this
  | some d => exact ⟨d, rfl, by simpa [hu] using this⟩
theorem TabOK.inf {t : Nat} {i : TI} (h : tyAt T t = some i) : ∃ x, P.info? t = some x ∧ x.size = i.size ∧ x.bytes = i.bytes ∧ x.zero = some i.zero := by
  have := (hT t i h).2
  cases hu : P.info? t with
  | none => simp [hu] at this
  | some d => exact ⟨d, rfl, by simpa [hu] using this⟩
theorem TabOK.run_size {t : Nat} {i : TI} (h : tyAt T t = some i) (w : World) : (sizeOf t).run P w = .ok i.size w := by
  obtain ⟨x, hx, h1, _⟩ := hT.inf h
  simp [sizeOf, typeInfo, hx, h1]
theorem TabOK.run_zero {t : Nat} {i : TI} (h : tyAt T t = some i) (w : World) : (zeroValue t).run P w = .ok i.zero w := by
  obtain ⟨x, hx, _, _, h1⟩ := hT.inf h
  simp [zeroValue, typeInfo, hx, h1]
theorem TabOK.run_isAgg {t : Nat} {i : TI} (h : tyAt T t = some i) (w : World) : (isAgg t).run P w = .ok i.tk.isAgg w := by
  obtain ⟨d, hd, h1⟩ := hT.und h
  rw [← h1]
  cases d <;> simp [isAgg, run_underlying hd, tkOf, TK.isAgg]
end

/-! ### Pure results -/
def D.cells : D → List D
  | .agg cs => cs
  | x => [x]
def toD : PV → Option D
  | .d x => some x
  | _ => none
def toDs : List PV → Option (List D)
  | [] => some []
  | p :: ps => match toD p, toDs ps with
    | some x, some xs => some (x :: xs)
    | _, _ => none
def mkAg (ps : List PV) : PV := match toDs ps with
  | some xs => .d (.agg xs)
  | none => .agp ps
def byteAt (s : ByteArray) (i : Nat) : Int := if h : i < s.size then ((s[i]'h).toNat : Int) else 0

def binL : BinOp → Value → Value → Option (Value × Prop)
  | .add, .int k a, .int k' b => if k = k' then some (.int k (k.wrap (a + b)), True) else none
  | .sub, .int k a, .int k' b => if k = k' then some (.int k (k.wrap (a - b)), True) else none
  | .mul, .int k a, .int k' b => if k = k' then some (.int k (k.wrap (a * b)), True) else none
  | .quo, .int k a, .int k' b => if k = k' then some (.int k (k.wrap (a.tdiv b)), b ≠ 0) else none
  | .rem, .int k a, .int k' b => if k = k' then some (.int k (a.tmod b), b ≠ 0) else none
  | .and, .int k a, .int k' b => if k = k' then some (.int k (k.wrap (BitVec.ofInt k.bits a &&& BitVec.ofInt k.bits b).toNat), True) else none
  | .or, .int k a, .int k' b => if k = k' then some (.int k (k.wrap (BitVec.ofInt k.bits a ||| BitVec.ofInt k.bits b).toNat), True) else none
  | .eql, .int k a, .int k' b => if k = k' then some (.bool (a == b), True) else none
  | .neq, .int k a, .int k' b => if k = k' then some (.bool (a != b), True) else none
  | .lss, .int k a, .int k' b => if k = k' then some (.bool (decide (a < b)), True) else none
  | .leq, .int k a, .int k' b => if k = k' then some (.bool (decide (a ≤ b)), True) else none
  | .gtr, .int k a, .int k' b => if k = k' then some (.bool (decide (a > b)), True) else none
  | .geq, .int k a, .int k' b => if k = k' then some (.bool (decide (a ≥ b)), True) else none
  | .add, .string a, .string b => some (.string (a ++ b), a.size + b.size ≤ 9223372036854775807)
  | .eql, .string a, .string b => some (.bool (a.toList == b.toList), True)
  | .neq, .string a, .string b => some (.bool (!(a.toList == b.toList)), True)
  | .lss, .string a, .string b => some (.bool (Op.bytesLess a.toList b.toList), True)
  | .leq, .string a, .string b => some (.bool (Op.bytesLess a.toList b.toList || a.toList == b.toList), True)
  | .gtr, .string a, .string b => some (.bool (!(Op.bytesLess a.toList b.toList || a.toList == b.toList)), True)
  | .geq, .string a, .string b => some (.bool (!(Op.bytesLess a.toList b.toList)), True)
  | _, _, _ => none

theorem i64_max : IntKind.i64.max = 9223372036854775807 := by decide +kernel

theorem binL_one {op : BinOp} {a b v : Value} {φ : Prop} (h : binL op a b = some (v, φ)) : v.oneCell' = true := by
  unfold binL at h
  split at h <;> first | (split at h <;> simp at h <;> obtain ⟨rfl, _⟩ := h <;> rfl) | (simp at h; obtain ⟨rfl, _⟩ := h; rfl) | (cases h)
theorem binL_sound {P : Program} {op : BinOp} {a b v : Value} {φ : Prop} (h : binL op a b = some (v, φ)) (hφ : φ) (t : TypeId) (x y : Operand) (w : World) :
    (do eqGuard op t x y a b; binOp op t a b : Sem Value).run P w = .ok v w := by
  unfold binL at h
  split at h
  all_goals first
    | (split at h <;> simp only [Option.some.injEq, Prod.mk.injEq, reduceCtorEq] at h
       rename_i hk; subst hk; obtain ⟨rfl, rfl⟩ := h; simp [eqGuard, binOp, Op.intArith, Op.intCmp]; done)
    | (split at h <;> simp only [Option.some.injEq, Prod.mk.injEq, reduceCtorEq] at h
       rename_i hk; subst hk; obtain ⟨rfl, rfl⟩ := h; simp [eqGuard, binOp, Op.intDiv, Op.intBits, hφ]; done)
    | (simp only [Option.some.injEq, Prod.mk.injEq] at h; obtain ⟨rfl, rfl⟩ := h; simp [eqGuard, binOp, Op.stringOp]; done)
    | (simp only [Option.some.injEq, Prod.mk.injEq] at h; obtain ⟨rfl, rfl⟩ := h; rename_i a b
       have hn : ¬ ((a.size + b.size : Nat) : Int) > IntKind.i64.max := by rw [i64_max]; omega
       simp only [eqGuard, binOp, Op.stringOp, if_neg hn]; simp; done)
    | (simp only [reduceCtorEq] at h; done)
end Go.Pv
namespace Go.Pv
open Go.RowKit

theorem add_pl (b o j : Nat) : (⟨b, o, none⟩ : Addr).add j = ⟨b, o + j, none⟩ := by unfold Addr.add; split <;> simp_all

theorem RepL.length {π : Prom} : ∀ {xs : List D} {vs : List Value}, RepL π xs vs → vs.length = xs.length
  | [], _, h => by cases h; rfl
  | x :: xs, _, h => by obtain ⟨v, vs', rfl, _, _, h2⟩ := h; simp [RepL.length h2]
theorem RepL.get {π : Prom} : ∀ {xs : List D} {vs : List Value}, RepL π xs vs → ∀ {i : Nat} {p : D}, xs[i]? = some p → ∃ v, vs[i]? = some v ∧ v.oneCell' = true ∧ RepD π p v
  | [], _, _, i, p, hp => by simp at hp
  | x :: xs, _, h, 0, p, hp => by
    obtain ⟨v, vs', rfl, h0, h1, _⟩ := h
    simp at hp
    subst hp
    exact ⟨v, rfl, h0, h1⟩
  | x :: xs, _, h, i + 1, p, hp => by
    obtain ⟨v, vs', rfl, _, _, h2⟩ := h
    obtain ⟨u, hu, hr⟩ := RepL.get h2 (i := i) (p := p) (by simpa using hp)
    exact ⟨u, by simpa using hu, hr⟩
theorem RepL.of_get {π : Prom} : ∀ {xs : List D} {vs : List Value}, vs.length = xs.length → (∀ (i : Nat) (p : D) (v : Value), xs[i]? = some p → vs[i]? = some v → v.oneCell' = true ∧ RepD π p v) → RepL π xs vs
  | [], vs, hl, _ => by cases vs with | nil => rfl | cons _ _ => simp at hl
  | x :: xs, vs, hl, h => by
    cases vs with
    | nil => simp at hl
    | cons v vs =>
      obtain ⟨h1, h2⟩ := h 0 x v rfl rfl
      exact ⟨v, vs, rfl, h1, h2, RepL.of_get (by simpa using hl) (fun i p u hp hu => h (i + 1) p u (by simpa using hp) (by simpa using hu))⟩
theorem RepL.drop {π : Prom} {xs : List D} {vs : List Value} (h : RepL π xs vs) (n : Nat) : RepL π (xs.drop n) (vs.drop n) :=
  RepL.of_get (by simp [h.length]) (fun i p v hp hv => by
    simp only [List.getElem?_drop] at hp hv
    obtain ⟨u, hu, h1, h2⟩ := h.get hp
    rw [hv] at hu
    cases hu
    exact ⟨h1, h2⟩)
theorem RepL.take {π : Prom} {xs : List D} {vs : List Value} (h : RepL π xs vs) (n : Nat) : RepL π (xs.take n) (vs.take n) :=
  RepL.of_get (by simp [h.length]) (fun i p v hp hv => by
    rw [List.getElem?_take] at hp hv
    split at hp
    · rename_i hlt
      rw [if_pos hlt] at hv
      obtain ⟨u, hu, h1, h2⟩ := h.get hp
      rw [hv] at hu
      cases hu
      exact ⟨h1, h2⟩
    · cases hp)
theorem RepD.one {π : Prom} {x : D} {v : Value} (h : RepD π x v) (hx : ∀ cs, x ≠ .agg cs) : v.oneCell' = true := by
  cases x with
  | lit u => obtain ⟨rfl, h1⟩ := h; exact h1
  | ifc t x => obtain ⟨u, rfl, _⟩ := h; rfl
  | sl k n f => obtain ⟨a, c, rfl, _⟩ := h; rfl
  | agg cs => exact absurd rfl (hx cs)
theorem RepD.cells {π : Prom} {x : D} {v : Value} (h : RepD π x v) : RepL π x.cells v.cells.toList := by
  by_cases hx : ∃ cs, x = .agg cs
  · obtain ⟨cs, rfl⟩ := hx
    obtain ⟨vs, rfl, hl⟩ := h
    simpa [D.cells, Value.cells] using hl
  · have h1 := h.one (fun cs e => hx ⟨cs, e⟩)
    have hc : v.cells = #[v] := by cases v <;> first | rfl | (simp [Value.oneCell'] at h1)
    have hd : x.cells = [x] := by cases x <;> first | rfl | (exact absurd ⟨_, rfl⟩ hx)
    rw [hc, hd]
    exact ⟨v, [], rfl, h1, h, rfl⟩
theorem toD_rep {g : Gh} {p : PV} {x : D} {v : Value} (h : toD p = some x) (hp : RepP g p v) : RepD g.π x v := by
  cases p <;> simp only [toD, Option.some.injEq, reduceCtorEq] at h
  · subst h; exact hp
theorem toDs_rep {g : Gh} : ∀ {ps : List PV} {xs : List D} {vs : List Value}, toDs ps = some xs → RepPL g ps vs → (∀ v ∈ vs, v.oneCell' = true) → RepL g.π xs vs
  | [], xs, vs, h, hp, _ => by simp only [toDs, Option.some.injEq] at h; subst h; cases hp; rfl
  | p :: ps, xs, vs, h, hp, h1 => by
    obtain ⟨v, vs', rfl, h2, h3⟩ := hp
    simp only [toDs] at h
    split at h
    · rename_i x xs' hx hxs
      simp only [Option.some.injEq] at h
      subst h
      exact ⟨v, vs', rfl, h1 v (by simp), toD_rep hx h2, toDs_rep hxs h3 (fun u hu => h1 u (by simp [hu]))⟩
    · cases h
theorem RepPL.drop {g : Gh} {xs : List PV} {vs : List Value} (h : RepPL g xs vs) (n : Nat) : RepPL g (xs.drop n) (vs.drop n) :=
  RepPL.of_get (by simp [h.length]) (fun i p v hp hv => by
    simp only [List.getElem?_drop] at hp hv
    obtain ⟨u, hu, h1⟩ := h.get hp
    rw [hv] at hu
    cases hu
    exact h1)
theorem RepPL.take {g : Gh} {xs : List PV} {vs : List Value} (h : RepPL g xs vs) (n : Nat) : RepPL g (xs.take n) (vs.take n) :=
  RepPL.of_get (by simp [h.length]) (fun i p v hp hv => by
    rw [List.getElem?_take] at hp hv
    split at hp
    · rename_i hlt
      rw [if_pos hlt] at hv
      obtain ⟨u, hu, h1⟩ := h.get hp
      rw [hv] at hu
      cases hu
      exact h1
    · cases hp)

/-! ### Addresses -/
def fieldOf (T : Tab) (s f : Nat) : Option (Nat × TI) :=
  match tyAt T s with
  | some i => match i.tk with
    | .st fs => match fs[f]? with
      | some (off, ft) => match tyAt T ft with
        | some j => bif Nat.beq j.size 0 then none else some (off, j)
        | none => none
      | none => none
    | _ => none
  | none => none
def elemOfT (T : Tab) (t : Nat) : Option (Nat × TI) :=
  match tyAt T t with
  | some i => match i.tk with
    | .sl e => match tyAt T e with
      | some j => some (e, j)
      | none => none
    | _ => none
  | none => none

section
variable {P : Program} {T : Tab} (hT : TabOK P T)
include hT
theorem fieldOf_spec {s f off : Nat} {j : TI} (h : fieldOf T s f = some (off, j)) : ∃ fields fd, P.underlying s = some (.struct fields) ∧ fields[f]? = some fd ∧ fd.offset = off ∧ tyAt T fd.type = some j ∧ j.size ≠ 0 := by
  unfold fieldOf at h
  split at h
  · rename_i i hi
    split at h
    · rename_i fs hfs
      split at h
      · rename_i o ft hf
        split at h
        · rename_i j' hj
          cases hz : Nat.beq j'.size 0 with
          | true => simp [hz] at h
          | false =>
            simp only [hz, cond_false, Option.some.injEq, Prod.mk.injEq] at h
            obtain ⟨rfl, rfl⟩ := h
            obtain ⟨d, hd, ht⟩ := hT.und hi
            rw [hfs] at ht
            cases d <;> simp only [tkOf, TK.st.injEq, reduceCtorEq] at ht
            rename_i fields
            subst ht
            simp only [List.getElem?_map, Array.getElem?_toList, Option.map_eq_some_iff, Prod.mk.injEq] at hf
            obtain ⟨fd, hfd, rfl, rfl⟩ := hf
            exact ⟨fields, fd, hd, hfd, rfl, hj, fun e => by simp [e] at hz⟩
        · cases h
      · cases h
    · cases h
  · cases h
theorem elemOfT_spec {t e : Nat} {j : TI} (h : elemOfT T t = some (e, j)) : P.underlying t = some (.slice e) ∧ tyAt T e = some j := by
  unfold elemOfT at h
  split at h
  · rename_i i hi
    split at h
    · rename_i e' he
      split at h
      · rename_i j' hj
        simp only [Option.some.injEq, Prod.mk.injEq] at h
        obtain ⟨rfl, rfl⟩ := h
        obtain ⟨d, hd, ht⟩ := hT.und hi
        rw [he] at ht
        cases d <;> simp only [tkOf, TK.sl.injEq, reduceCtorEq] at ht
        subst ht
        exact ⟨hd, hj⟩
      · cases h
    · cases h
  · cases h
theorem run_fieldAt {s f off : Nat} {j : TI} (h : fieldOf T s f = some (off, j)) (a : Addr) (w : World) :
    (Instr.fieldAt s (.pointer (some a)) f).run P w = .ok (.pointer (some (a.add off))) w := by
  obtain ⟨fields, fd, h1, h2, h3, h4, h5⟩ := fieldOf_spec hT h
  simp [Instr.fieldAt, run_underlying h1, h2, Instr.sureAddr, fieldPlace, hT.run_size h4, h5, h3]
theorem run_indexAt {t e : Nat} {j : TI} (h : elemOfT T t = some (e, j)) (a : Addr) (n c : Nat) (k : IntKind) (i : Int) (h0 : 0 ≤ i) (h1 : i < n) (w : World) :
    (Instr.indexAt t (.slice (some a) n c) (.int k i)).run P w = .ok (.pointer (some (a.add (i.toNat * j.size)))) w := by
  obtain ⟨h2, h3⟩ := elemOfT_spec hT h
  simp [Instr.indexAt, asIntOf, run_underlying h2, h0, h1, hT.run_size h3]
theorem run_loadAt_one {t : Nat} {j : TI} (h : tyAt T t = some j) (hj : j.tk.isAgg = false) (a : Addr) (v : Value) (w : World) (hc : w.cell? a = some v) :
    (Instr.loadAt t (.pointer (some a))).run P w = .ok v w := by
  simp [Instr.loadAt, Instr.sureAddr, loadVar, hT.run_isAgg h, hj, hc]
theorem run_loadAt_agg {t : Nat} {j : TI} (h : tyAt T t = some j) (hj : j.tk.isAgg = true) (a : Addr) (vs : List Value) (w : World) (hl : vs.length = j.size)
    (hc : ∀ i v, vs[i]? = some v → w.cell? (a.add i) = some v) :
    (Instr.loadAt t (.pointer (some a))).run P w = .ok (.agg vs.toArray) w := by
  simp [Instr.loadAt, Instr.sureAddr, loadVar, hT.run_isAgg h, hj, hT.run_size h, ← hl, run_loadCells_list w a vs hc]
end
theorem mkAg_rep {g : Gh} {ps : List PV} {vs : List Value} (hp : RepPL g ps vs) (h1 : ∀ v ∈ vs, v.oneCell' = true) : RepP g (mkAg ps) (.agg vs.toArray) := by
  unfold mkAg
  split
  · rename_i xs hxs
    exact ⟨vs, rfl, toDs_rep hxs hp h1⟩
  · exact ⟨vs, rfl, hp, h1⟩
theorem RepL.one {π : Prom} : ∀ {xs : List D} {vs : List Value}, RepL π xs vs → ∀ v ∈ vs, v.oneCell' = true
  | [], _, h => by cases h; simp
  | x :: xs, _, h => by
    obtain ⟨v, vs', rfl, h1, h2, h3⟩ := h
    intro u hu
    rcases List.mem_cons.1 hu with rfl | hu
    · exact h1
    · exact h3.one u hu
/-- Where an element of an array lies. -/
theorem ObjOK.elem {g : Gh} {w : World} {l : Loc} {b : Bool} {e k n : Nat} {F : Nat → List D} {foc : Option (Nat × List PV)} (h : ObjOK g w l (.arr b e k n F foc)) {i : Nat} (hi : i < n) :
    ∃ vs, ElemOK g F foc i vs ∧ (∀ v ∈ vs, Value.oneCell' v = true) ∧ vs.length = k ∧ ∀ j v, vs[j]? = some v → w.cell? ⟨g.β l, i * k + j, none⟩ = some v := by
  obtain ⟨u, cs, h1, h2, h3, h4, h5, h6⟩ := h
  obtain ⟨hlen, h2⟩ := h2
  refine ⟨(cs.drop (i * k)).take k, h4 i hi, fun v hv => h3 v (List.mem_of_mem_drop (List.mem_of_mem_take hv)), ?_, fun j v hj => ?_⟩
  · have : i * k + k ≤ n * k := by rw [← Nat.succ_mul]; exact Nat.mul_le_mul_right k hi
    simp only [List.length_take, List.length_drop, hlen]
    omega
  · rcases h2 with ⟨_, h0⟩ | ⟨c, cap, cur, rfl, _, m1, m2, m3, m4, m5⟩
    · omega
    · have hc := (h6 c rfl).1
      subst hc
      rw [cell_of_row w _ _ _ e (0, 0) m1]
      rw [List.getElem?_take] at hj
      split at hj
      · rw [List.getElem?_drop, ← m5, List.getElem?_take] at hj
        split at hj
        · simpa using hj
        · cases hj
      · cases hj
/-- Where an element of an array of arrays lies. -/
theorem ObjOK.nelem {g : Gh} {w : World} {l : Loc} {e n e1 k1 : Nat} {N : Nat → Nat} {F : Nat → Nat → List D} {foc : Option (Nat × List PV)} (h : ObjOK g w l (.nest e n e1 k1 N F foc)) {i : Nat} (hi : i < n) :
    ∃ v, NestElem g w l e1 k1 N F foc i v ∧ Value.oneCell' v = true ∧ w.cell? ⟨g.β l, i, none⟩ = some v := by
  obtain ⟨u, cs, h1, h2, h3, h4, h5, h6, h7⟩ := h
  have hl : cs.length = n := by rw [h2.1, Nat.mul_one]
  obtain ⟨v, hg⟩ : ∃ v, cs[i]? = some v := ⟨_, List.getElem?_eq_getElem (by omega)⟩
  refine ⟨v, h6 i _ hg, h3 _ (List.mem_of_getElem? hg), ?_⟩
  rcases h2.2 with ⟨_, h0⟩ | ⟨c, cap, cur, rfl, _, m1, m2, m3, m4, m5⟩
  · omega
  · have hc := (h5 c rfl).1
    subst hc
    rw [cell_of_row w _ _ _ e (0, 0) m1]
    rw [← m5, List.getElem?_take] at hg
    split at hg
    · simpa using hg
    · cases hg
end Go.Pv
namespace Go.Pv
open Go.RowKit

/-! ### The value of an operation that turns nothing but its own slot; beside it what must hold for it not to panic -/
def litOf : PV → Option Value
  | .d (.lit v) => some v
  | _ => none
def slOf : PV → Option (Nat × Nat × (Nat → D))
  | .d (.sl k n f) => some (k, n, f)
  | _ => none

def evPick (c a b : PV) : Option (PV × Prop) :=
  match litOf c with
  | some (.bool c) => match litOf a, litOf b with
    | some (.bool x), some (.bool y) => some (.d (.lit (.bool (bif c then x else y))), True)
    | _, _ => some (bif c then a else b, True)
  | _ => none
def evBin (op : BinOp) (a b : PV) : Option (PV × Prop) :=
  match litOf a, litOf b with
  | some x, some y => match binL op x y with
    | some (v, φ) => some (.d (.lit v), φ)
    | none => none
  | _, _ => none
def evUn (op : UnOp) (a : PV) : Option (PV × Prop) :=
  match op, litOf a with
  | .not, some (.bool b) => some (.d (.lit (.bool (!b))), True)
  | .neg, some (.int k n) => some (.d (.lit (.int k (k.wrap (0 - n)))), True)
  | _, _ => none
def evConv (T : Tab) (s d : Nat) (a : PV) : Option (PV × Prop) :=
  match tyAt T s, tyAt T d, litOf a with
  | some _, some i, some (.int _ n) => match i.tk with
    | .int k => some (.d (.lit (.int k (k.wrap n))), True)
    | _ => none
  | some _, some i, some (.string s) => match i.tk with
    | .str => some (.d (.lit (.string s)), True)
    | _ => none
  | _, _, _ => none
def evIfc (T : Tab) (t : Nat) (a : PV) : Option (PV × Prop) :=
  match tyAt T t, toD a with
  | some i, some x => match i.tk with
    | .ifc => none
    | _ => some (.d (.ifc t x), True)
  | _, _ => none
def evFieldAddr (T : Tab) (s f : Nat) (a : PV) : Option (PV × Prop) :=
  match fieldOf T s f, a with
  | some (off, _), .ptr l o => some (.ptr l (o + off), True)
  | some (off, _), .pe l k i j => some (.pe l k i (j + off), True)
  | some (off, _), .ea x o => some (.ea x (o + off), True)
  | _, _ => none
def evField (T : Tab) (s f : Nat) (a : PV) : Option (PV × Prop) :=
  match fieldOf T s f, a with
  | some (off, j), .d (.agg cs) => bif j.tk.isAgg then some (.d (.agg ((cs.drop off).take j.size)), True) else
    match cs[off]? with
    | some x => some (.d x, True)
    | none => none
  | some (off, j), .agp ps => bif j.tk.isAgg then some (mkAg ((ps.drop off).take j.size), True) else
    match ps[off]? with
    | some x => some (x, True)
    | none => none
  | _, _ => none
def evIndexAddr (T : Tab) (bs : List (Loc × Obj)) (t : Nat) (a i : PV) : Option (PV × Prop) :=
  match elemOfT T t, litOf i with
  | some (_, j), some (.int _ x) => match slOf a with
    | some (k, n, f) => bif Nat.beq j.size k then some (.ea (f x.toNat) 0, 0 ≤ x ∧ x < (n : Int)) else none
    | none => match a with
      | .sl l n => match objAt bs l with
        | some (.arr _ _ k n' _ _) => bif Nat.beq j.size k then some (.pe l k x.toNat 0, 0 ≤ x ∧ x < (n' : Int) ∧ n = n') else none
        | some (.nest _ n' _ _ _ _ _) => bif Nat.beq j.size 1 then some (.pe l 1 x.toNat 0, 0 ≤ x ∧ x < (n' : Int) ∧ n = n') else none
        | _ => none
      | _ => none
  | _, _ => none
/-- What is loaded of an object's cells from an offset on. -/
def ldC (j : TI) (cs : List PV) (off : Nat) : Option PV :=
  bif j.tk.isAgg then bif Nat.beq ((cs.drop off).take j.size).length j.size then some (mkAg ((cs.drop off).take j.size)) else none
  else cs[off]?
def ldD (j : TI) (cs : List D) (off : Nat) : Option PV :=
  bif j.tk.isAgg then bif Nat.beq ((cs.drop off).take j.size).length j.size then some (.d (.agg ((cs.drop off).take j.size))) else none
  else match cs[off]? with
    | some c => some (.d c)
    | none => none
def evLoad (T : Tab) (bs : List (Loc × Obj)) (t : Nat) (a : PV) : Option (PV × Prop) :=
  match tyAt T t with
  | some j => match a with
    | .ptr l off => match objAt bs l with
      | some (.cells cs) => match ldC j cs off with
        | some p => some (p, True)
        | none => none
      | _ => none
    | .pe l k i o => match objAt bs l with
      | some (.arr _ _ k' n F foc) => bif Nat.beq k k' then
          match foc with
          | some (i', cs) => match ldC j cs o with
            | some p => some (p, i = i' ∧ i < n)
            | none => none
          | none => match ldD j (F i) o with
            | some p => some (p, i < n)
            | none => none
        else none
      | some (.nest _ n _ _ _ _ foc) => bif Nat.beq k 1 then
          match foc with
          | some (i', cs) => match ldC j cs o with
            | some p => some (p, i = i' ∧ i < n)
            | none => none
          | none => none
        else none
      | _ => none
    | .ea x off => match ldD j x.cells off with
      | some p => some (p, True)
      | none => none
    | _ => none
  | none => none
def evIndex (T : Tab) (t : Nat) (a i : PV) : Option (PV × Prop) :=
  match tyAt T t, litOf a, litOf i with
  | some j, some (.string s), some (.int _ x) => match j.tk with
    | .str => some (.d (.lit (.int .u8 (byteAt s x.toNat))), 0 ≤ x ∧ x < (s.size : Int))
    | _ => none
  | _, _, _ => none
def evLen (T : Tab) (bs : List (Loc × Obj)) (t : Nat) (a : PV) : Option (PV × Prop) :=
  match tyAt T t with
  | some j => match j.tk with
    | .str => match litOf a with
      | some (.string s) => some (.d (.lit (.int .i64 s.size)), True)
      | _ => none
    | .sl _ => match slOf a with
      | some (_, n, _) => some (.d (.lit (.int .i64 n)), True)
      | none => match litOf a with
        | some (.slice _ n _) => some (.d (.lit (.int .i64 n)), True)
        | _ => match a with
          | .sl l n => match objAt bs l with
            | some (.arr _ _ _ n' _ _) => some (.d (.lit (.int .i64 n)), n = n')
            | some (.gone _ (some n')) => some (.d (.lit (.int .i64 n)), n = n')
            | some (.nest _ n' _ _ _ _ _) => some (.d (.lit (.int .i64 n)), n = n')
            | _ => none
          | _ => none
    | _ => none
  | none => none
def evExtract (a : PV) (i : Nat) : Option (PV × Prop) :=
  match a with
  | .tup xs => match xs[i]? with
    | some p => some (p, True)
    | none => none
  | _ => none
def evNil (a : PV) : Option (PV × Prop) :=
  match a with
  | .ptr l o => some (.ptr l o, True)
  | .pe l k i o => some (.pe l k i o, True)
  | .ea x o => some (.ea x o, True)
  | .fn (.func f) x y => some (.fn (.func f) x y, True)
  | _ => none
def evLo : Option PV → Option Int
  | none => some 0
  | some p => match litOf p with
    | some (.int _ x) => some x
    | _ => none
def evHi (n : Int) : Option PV → Option Int
  | none => some n
  | some p => match litOf p with
    | some (.int _ x) => some x
    | _ => none
def evSlice (T : Tab) (t : Nat) (a : PV) (lo hi : Option PV) : Option (PV × Prop) :=
  match tyAt T t with
  | some j => match j.tk with
    | .str => match litOf a with
      | some (.string s) => match evLo lo, evHi s.size hi with
        | some l, some h => some (.d (.lit (.string (s.extract l.toNat h.toNat))), 0 ≤ l ∧ l ≤ h ∧ h ≤ (s.size : Int))
        | _, _ => none
      | _ => none
    | .sl e => match tyAt T e, slOf a with
      | some i, some (k, n, f) => match evLo lo, evHi n hi with
        | some l, some h => bif Nat.beq i.size k then some (.d (.sl k (h.toNat - l.toNat) (fun x => f (l.toNat + x))), 0 ≤ l ∧ l ≤ h ∧ h ≤ (n : Int)) else none
        | _, _ => none
      | _, _ => none
    | _ => none
  | none => none

def evMm (mx : Bool) (a b : PV) : Option (PV × Prop) :=
  match litOf a, litOf b with
  | some (.int k x), some (.int _ y) => some (.d (.lit (.int k (bif mx then (if y > x then y else x) else (if y < x then y else x)))), True)
  | _, _ => none
def evCall (T : Tab) (env : List (Nat × PV)) (bs : List (Loc × Obj)) (c : Call) : Option (PV × Prop) :=
  match c.callee with
  | .builtin .len => match c.args.toList, c.argTypes.toList with
    | [x], [t] => evLen T bs t (opnd env x)
    | _, _ => none
  | .builtin .max => match c.args.toList with
    | [x, y] => evMm true (opnd env x) (opnd env y)
    | _ => none
  | .builtin .min => match c.args.toList with
    | [x, y] => evMm false (opnd env x) (opnd env y)
    | _ => none
  | _ => none

def evV (T : Tab) (env : List (Nat × PV)) (bs : List (Loc × Obj)) : Op → Option (PV × Prop)
  | .move x | .assign x => some (opnd env x, True)
  | .pick c a b => evPick (opnd env c) (opnd env a) (opnd env b)
  | .binOp op _ x y _ => evBin op (opnd env x) (opnd env y)
  | .unOp op _ x => evUn op (opnd env x)
  | .convert s d x => evConv T s d (opnd env x)
  | .makeInterface t x => evIfc T t (opnd env x)
  | .makeFunc fn first caps => some (.fn fn (first.toList.map (opnd env)) (caps.toList.map (opnd env)), True)
  | .fieldAddr s x f => evFieldAddr T s f (opnd env x)
  | .field s x f => evField T s f (opnd env x)
  | .indexAddr t x i => evIndexAddr T bs t (opnd env x) (opnd env i)
  | .load t a => evLoad T bs t (opnd env a)
  | .index t x i => evIndex T t (opnd env x) (opnd env i)
  | .slice t x lo hi none => evSlice T t (opnd env x) (lo.map (opnd env)) (hi.map (opnd env))
  | .extract x i => evExtract (opnd env x) i
  | .nilCheck x => evNil (opnd env x)
  | .call c => evCall T env bs c
  | _ => none
end Go.Pv
namespace Go.Pv
open Go.RowKit

theorem litOf_rep {g : Gh} {p : PV} {u v : Value} (h : litOf p = some u) (hp : RepP g p v) : v = u ∧ u.oneCell' = true := by
  unfold litOf at h
  split at h
  · simp only [Option.some.injEq] at h; subst h; exact hp
  · cases h
theorem slOf_rep {g : Gh} {p : PV} {k n : Nat} {f : Nat → D} {v : Value} (h : slOf p = some (k, n, f)) (hp : RepP g p v) : RepD g.π (.sl k n f) v := by
  unfold slOf at h
  split at h
  · simp only [Option.some.injEq, Prod.mk.injEq] at h; obtain ⟨rfl, rfl, rfl⟩ := h; exact hp
  · cases h

section
variable {P : Program} {T : Tab} (hT : TabOK P T) {g : Gh} {w : World}

theorem evPick_sound {c a b p : PV} {φ : Prop} {vc va vb : Value} (hc : RepP g c vc) (ha : RepP g a va) (hb : RepP g b vb) (h : evPick c a b = some (p, φ)) :
    ∃ v, (do pure (Next.value (if ← asBool vc then va else vb)) : Sem Next).run P w = .ok (.value v) w ∧ RepP g p v := by
  unfold evPick at h
  split at h
  · rename_i c' hc'
    obtain ⟨rfl, _⟩ := litOf_rep hc' hc
    split at h
    · rename_i x y hx hy
      obtain ⟨rfl, _⟩ := litOf_rep hx ha
      obtain ⟨rfl, _⟩ := litOf_rep hy hb
      simp only [Option.some.injEq, Prod.mk.injEq] at h
      obtain ⟨rfl, _⟩ := h
      refine ⟨_, by simp [asBool]; rfl, ?_⟩
      cases c' <;> exact ⟨rfl, rfl⟩
    · simp only [Option.some.injEq, Prod.mk.injEq] at h
      obtain ⟨rfl, _⟩ := h
      refine ⟨_, by simp [asBool]; rfl, ?_⟩
      cases c' <;> simpa
  · cases h

theorem evBin_sound {op : BinOp} {a b p : PV} {φ : Prop} {va vb : Value} (ha : RepP g a va) (hb : RepP g b vb) (h : evBin op a b = some (p, φ)) (hφ : φ) (t : TypeId) (x y : Operand) :
    ∃ v, (do eqGuard op t x y va vb; binOp op t va vb : Sem Value).run P w = .ok v w ∧ RepP g p v := by
  unfold evBin at h
  split at h
  · rename_i x' y' hx hy
    obtain ⟨rfl, _⟩ := litOf_rep hx ha
    obtain ⟨rfl, _⟩ := litOf_rep hy hb
    split at h
    · rename_i v ψ hb'
      simp only [Option.some.injEq, Prod.mk.injEq] at h
      obtain ⟨rfl, rfl⟩ := h
      exact ⟨v, binL_sound hb' hφ t x y w, rfl, binL_one hb'⟩
    · cases h
  · cases h

theorem evUn_sound {op : UnOp} {a p : PV} {φ : Prop} {va : Value} (ha : RepP g a va) (h : evUn op a = some (p, φ)) :
    ∃ v, (Op.unary op va).run P w = .ok v w ∧ RepP g p v := by
  unfold evUn at h
  split at h
  · rename_i b hb
    obtain ⟨rfl, _⟩ := litOf_rep hb ha
    simp only [Option.some.injEq, Prod.mk.injEq] at h
    obtain ⟨rfl, _⟩ := h
    exact ⟨.bool (!b), by simp [Op.unary], rfl, rfl⟩
  · rename_i k n hb
    obtain ⟨rfl, _⟩ := litOf_rep hb ha
    simp only [Option.some.injEq, Prod.mk.injEq] at h
    obtain ⟨rfl, _⟩ := h
    exact ⟨.int k (k.wrap (0 - n)), by simp [Op.unary, Op.intArith], rfl, rfl⟩
  · cases h

include hT in
theorem evConv_sound {s d : Nat} {a p : PV} {φ : Prop} {va : Value} (ha : RepP g a va) (h : evConv T s d a = some (p, φ)) :
    ∃ v, (convert s d va).run P w = .ok v w ∧ RepP g p v := by
  unfold evConv at h
  split at h
  · rename_i i1 i n h1 h2 h3
    obtain ⟨rfl, _⟩ := litOf_rep h3 ha
    split at h
    · rename_i k hk
      simp only [Option.some.injEq, Prod.mk.injEq] at h
      obtain ⟨rfl, _⟩ := h
      obtain ⟨ds, hds, _⟩ := hT.und h1
      obtain ⟨dd, hdd, e⟩ := hT.und h2
      rw [hk] at e
      cases dd <;> simp only [tkOf, TK.int.injEq, reduceCtorEq] at e
      subst e
      exact ⟨_, by simp [convert, run_underlying hds, run_underlying hdd, Conv.intToInt], rfl, rfl⟩
    · cases h
  · rename_i i1 i s' h1 h2 h3
    obtain ⟨rfl, _⟩ := litOf_rep h3 ha
    split at h
    · rename_i hk
      simp only [Option.some.injEq, Prod.mk.injEq] at h
      obtain ⟨rfl, _⟩ := h
      obtain ⟨ds, hds, _⟩ := hT.und h1
      obtain ⟨dd, hdd, e⟩ := hT.und h2
      rw [hk] at e
      cases dd <;> simp only [tkOf, reduceCtorEq] at e
      exact ⟨.string s', by simp [convert, run_underlying hds, run_underlying hdd], rfl, rfl⟩
    · cases h
  · cases h

include hT in
theorem evIfc_sound {t : Nat} {a p : PV} {φ : Prop} {va : Value} (ha : RepP g a va) (h : evIfc T t a = some (p, φ)) :
    ∃ v, (Instr.makeInterface t va).run P w = .ok v w ∧ RepP g p v := by
  unfold evIfc at h
  split at h
  · rename_i i x h1 h2
    obtain ⟨d, hd, e⟩ := hT.und h1
    split at h
    · cases h
    · rename_i hk
      simp only [Option.some.injEq, Prod.mk.injEq] at h
      obtain ⟨rfl, _⟩ := h
      refine ⟨.iface t va, ?_, va, rfl, toD_rep h2 ha⟩
      cases d <;> first | (simp [Instr.makeInterface, run_underlying hd]; done) | exact absurd e.symm hk
  · cases h

include hT in
theorem evFieldAddr_sound {s f : Nat} {a p : PV} {φ : Prop} {va : Value} (ha : RepP g a va) (h : evFieldAddr T s f a = some (p, φ)) :
    ∃ v, (Instr.fieldAt s va f).run P w = .ok v w ∧ RepP g p v := by
  unfold evFieldAddr at h
  split at h
  · rename_i off j l o hf
    simp only [Option.some.injEq, Prod.mk.injEq] at h
    obtain ⟨rfl, _⟩ := h
    have e : va = _ := ha
    subst e
    exact ⟨_, run_fieldAt hT hf _ w, by rw [add_pl]; rfl⟩
  · rename_i off j l k i o hf
    simp only [Option.some.injEq, Prod.mk.injEq] at h
    obtain ⟨rfl, _⟩ := h
    have e : va = _ := ha
    subst e
    exact ⟨_, run_fieldAt hT hf _ w, by rw [add_pl, Nat.add_assoc]; rfl⟩
  · rename_i off j x o hf
    simp only [Option.some.injEq, Prod.mk.injEq] at h
    obtain ⟨rfl, _⟩ := h
    obtain ⟨b, o', u, rfl, h1, h2⟩ := ha
    exact ⟨_, run_fieldAt hT hf _ w, b, o', u, by rw [add_pl, Nat.add_assoc], h1, h2⟩
  · cases h

include hT in
theorem evField_sound {s f : Nat} {a p : PV} {φ : Prop} {va : Value} (ha : RepP g a va) (h : evField T s f a = some (p, φ)) :
    ∃ v, (Instr.field s va f).run P w = .ok v w ∧ RepP g p v := by
  unfold evField at h
  split at h
  · rename_i off j cs hf
    obtain ⟨fields, fd, h1, h2, h3, h4, h5⟩ := fieldOf_spec hT hf
    obtain ⟨vs, rfl, hl⟩ := ha
    cases hj : j.tk.isAgg with
    | true =>
      simp only [hj, cond_true, Option.some.injEq, Prod.mk.injEq] at h
      obtain ⟨rfl, _⟩ := h
      refine ⟨.agg (vs.toArray.extract off (off + j.size)), by simp [Instr.field, run_underlying h1, h2, asAgg, part, hT.run_isAgg h4, hj, hT.run_size h4, h3], ?_⟩
      refine ⟨(vs.drop off).take j.size, ?_, (hl.drop off).take j.size⟩
      congr 1
      apply Array.ext'
      simp [List.extract_eq_take_drop]
    | false =>
      simp only [hj, cond_false] at h
      split at h
      · rename_i x hx
        simp only [Option.some.injEq, Prod.mk.injEq] at h
        obtain ⟨rfl, _⟩ := h
        obtain ⟨v, hv, _, hr⟩ := hl.get hx
        exact ⟨v, by simp [Instr.field, run_underlying h1, h2, asAgg, part, hT.run_isAgg h4, hj, h3, hv], hr⟩
      · cases h
  · rename_i off j ps hf
    obtain ⟨fields, fd, h1, h2, h3, h4, h5⟩ := fieldOf_spec hT hf
    obtain ⟨vs, rfl, hl, ho⟩ := ha
    cases hj : j.tk.isAgg with
    | true =>
      simp only [hj, cond_true, Option.some.injEq, Prod.mk.injEq] at h
      obtain ⟨rfl, _⟩ := h
      refine ⟨.agg (vs.toArray.extract off (off + j.size)), by simp [Instr.field, run_underlying h1, h2, asAgg, part, hT.run_isAgg h4, hj, hT.run_size h4, h3], ?_⟩
      have : vs.toArray.extract off (off + j.size) = ((vs.drop off).take j.size).toArray := by
        apply Array.ext'
        simp [List.extract_eq_take_drop]
      rw [this]
      exact mkAg_rep ((hl.drop off).take j.size) (fun v hv => ho v (List.mem_of_mem_drop (List.mem_of_mem_take hv)))
    | false =>
      simp only [hj, cond_false] at h
      split at h
      · rename_i x hx
        simp only [Option.some.injEq, Prod.mk.injEq] at h
        obtain ⟨rfl, _⟩ := h
        obtain ⟨v, hv, hr⟩ := hl.get hx
        exact ⟨v, by simp [Instr.field, run_underlying h1, h2, asAgg, part, hT.run_isAgg h4, hj, h3, hv], hr⟩
      · cases h
  · cases h

include hT in
theorem evIndexAddr_sound {bs : List (Loc × Obj)} (hm : Mem g bs w) {t : Nat} {a i p : PV} {φ : Prop} {va vi : Value} (ha : RepP g a va) (hi : RepP g i vi) (h : evIndexAddr T bs t a i = some (p, φ)) (hφ : φ) :
    ∃ v, (Instr.indexAt t va vi).run P w = .ok v w ∧ RepP g p v := by
  unfold evIndexAddr at h
  split at h
  · rename_i e j kk x h1 h3
    obtain ⟨rfl, _⟩ := litOf_rep h3 hi
    split at h
    · rename_i k n f h2
      obtain ⟨a', c, rfl, _, _, h4⟩ := slOf_rep h2 ha
      cases hk : Nat.beq j.size k with
      | false => simp [hk] at h
      | true =>
        have hk' := Nat.eq_of_beq_eq_true hk
        simp only [hk, cond_true, Option.some.injEq, Prod.mk.injEq] at h
        obtain ⟨rfl, rfl⟩ := h
        obtain ⟨h5, h6⟩ := hφ
        obtain ⟨b, o, rfl, hE⟩ := h4 (by omega)
        obtain ⟨u, hu, hs, hp⟩ := hE x.toNat (by omega)
        refine ⟨_, run_indexAt hT h1 _ n c kk x h5 h6 w, b, o + x.toNat * k, u, ?_, hu, fun q z hz => ?_⟩
        · rw [add_pl, hk']; simp
        · exact hp q z hz
    · split at h
      · rename_i l n _
        split at h
        · rename_i b e' k n' F foc ho
          cases hk : Nat.beq j.size k with
          | false => simp [hk] at h
          | true =>
            have hk' := Nat.eq_of_beq_eq_true hk
            simp only [hk, cond_true, Option.some.injEq, Prod.mk.injEq] at h
            obtain ⟨rfl, rfl⟩ := h
            obtain ⟨h5, h6, rfl⟩ := hφ
            obtain ⟨u, cs, m1, m2, m3, m4, m5, m6⟩ := hm.box l _ ho
            have := ha.2 u m1
            subst this
            rcases m2.2 with ⟨_, h0⟩ | ⟨c, cap, cur, rfl, _⟩
            · omega
            · have hc := (m6 c rfl).1
              subst hc
              refine ⟨_, run_indexAt hT h1 _ n cap kk x h5 h6 w, ?_⟩
              rw [add_pl, hk']
              simp [RepP]
        · rename_i e' n' e1 k1 N F foc ho
          cases hk : Nat.beq j.size 1 with
          | false => simp [hk] at h
          | true =>
            have hk' := Nat.eq_of_beq_eq_true hk
            simp only [hk, cond_true, Option.some.injEq, Prod.mk.injEq] at h
            obtain ⟨rfl, rfl⟩ := h
            obtain ⟨h5, h6, rfl⟩ := hφ
            obtain ⟨u, cs, m1, m2, m3, m4, m5, m6⟩ := hm.box l _ ho
            have := ha.2 u m1
            subst this
            rcases m2.2 with ⟨_, h0⟩ | ⟨c, cap, cur, rfl, _⟩
            · omega
            · have hc := (m5 c rfl).1
              subst hc
              refine ⟨_, run_indexAt hT h1 _ n cap kk x h5 h6 w, ?_⟩
              rw [add_pl, hk']
              simp [RepP]
        · cases h
      · cases h
  · cases h

omit hT in
theorem ldC_sound {j : TI} {cs : List PV} {off : Nat} {p : PV} (h : ldC j cs off = some p) {vs : List Value} (hl : RepPL g cs vs) (h1 : ∀ v ∈ vs, v.oneCell' = true) :
    (j.tk.isAgg = true ∧ ((vs.drop off).take j.size).length = j.size ∧ RepP g p (.agg ((vs.drop off).take j.size).toArray)) ∨ (j.tk.isAgg = false ∧ ∃ v, vs[off]? = some v ∧ RepP g p v) := by
  unfold ldC at h
  cases hA : j.tk.isAgg with
  | true =>
    simp only [hA, cond_true] at h
    cases hb : Nat.beq ((cs.drop off).take j.size).length j.size with
    | false => simp only [hb, cond_false, reduceCtorEq] at h
    | true =>
      have hb' := Nat.eq_of_beq_eq_true hb
      simp only [hb, cond_true, Option.some.injEq] at h
      subst h
      have hl' := (hl.drop off).take j.size
      exact .inl ⟨rfl, by rw [hl'.length, hb'], mkAg_rep hl' (fun v hv => h1 v (List.mem_of_mem_drop (List.mem_of_mem_take hv)))⟩
  | false =>
    simp only [hA, cond_false] at h
    obtain ⟨v, hv, hr⟩ := hl.get h
    exact .inr ⟨rfl, v, hv, hr⟩
omit hT in
theorem ldD_sound {j : TI} {cs : List D} {off : Nat} {p : PV} (h : ldD j cs off = some p) {vs : List Value} (hl : RepL g.π cs vs) :
    (j.tk.isAgg = true ∧ ((vs.drop off).take j.size).length = j.size ∧ RepP g p (.agg ((vs.drop off).take j.size).toArray)) ∨ (j.tk.isAgg = false ∧ ∃ v, vs[off]? = some v ∧ RepP g p v) := by
  unfold ldD at h
  cases hA : j.tk.isAgg with
  | true =>
    simp only [hA, cond_true] at h
    cases hb : Nat.beq ((cs.drop off).take j.size).length j.size with
    | false => simp only [hb, cond_false, reduceCtorEq] at h
    | true =>
      have hb' := Nat.eq_of_beq_eq_true hb
      simp only [hb, cond_true, Option.some.injEq] at h
      subst h
      have hl' := (hl.drop off).take j.size
      exact .inl ⟨rfl, by rw [hl'.length, hb'], _, rfl, hl'⟩
  | false =>
    simp only [hA, cond_false] at h
    split at h
    · rename_i c hc
      simp only [Option.some.injEq] at h
      subst h
      obtain ⟨v, hv, _, hr⟩ := hl.get hc
      exact .inr ⟨rfl, v, hv, hr⟩
    · cases h
include hT in
/-- A load of what lies in cells. -/
theorem run_ld {t : Nat} {j : TI} (hj : tyAt T t = some j) {ad : Addr} {off : Nat} {p : PV} {vs : List Value} (hc : ∀ i v, vs[off + i]? = some v → w.cell? (ad.add i) = some v)
    (h : (j.tk.isAgg = true ∧ ((vs.drop off).take j.size).length = j.size ∧ RepP g p (.agg ((vs.drop off).take j.size).toArray)) ∨ (j.tk.isAgg = false ∧ ∃ v, vs[off]? = some v ∧ RepP g p v)) (h0 : ad.add 0 = ad) :
    ∃ v, (Instr.loadAt t (.pointer (some ad))).run P w = .ok v w ∧ RepP g p v := by
  rcases h with ⟨hA, hl, hr⟩ | ⟨hA, v, hv, hr⟩
  · refine ⟨_, run_loadAt_agg hT hj hA _ ((vs.drop off).take j.size) w hl (fun i v hv => ?_), hr⟩
    rw [List.getElem?_take] at hv
    split at hv
    · rw [List.getElem?_drop] at hv
      exact hc i v hv
    · cases hv
  · exact ⟨v, run_loadAt_one hT hj hA _ v w (by rw [← h0]; exact hc 0 v (by simpa using hv)), hr⟩

include hT in
theorem evLoad_sound {bs : List (Loc × Obj)} (hm : Mem g bs w) {t : Nat} {a p : PV} {φ : Prop} {va : Value} (ha : RepP g a va) (h : evLoad T bs t a = some (p, φ)) (hφ : φ) :
    ∃ v, (Instr.loadAt t va).run P w = .ok v w ∧ RepP g p v := by
  unfold evLoad at h
  split at h
  · rename_i j hj
    split at h
    · rename_i l off
      have e : va = _ := ha
      subst e
      split at h
      · rename_i cs hcs
        split at h
        · rename_i q hq
          simp only [Option.some.injEq, Prod.mk.injEq] at h
          obtain ⟨rfl, _⟩ := h
          obtain ⟨Ty, vs, h1, h2, h3, _⟩ := hm.box l _ hcs
          have hcell : ∀ i, w.cell? ⟨g.β l, i, none⟩ = vs[i]? := fun i => by rw [cell_of_row w _ i _ Ty (0, 0) h1]; simp
          exact run_ld hT hj (off := off) (fun i v hv => by rw [add_pl, hcell]; exact hv) (ldC_sound hq h2 h3) (by rw [add_pl]; rfl)
        · cases h
      · cases h
    · rename_i l k i o
      have e : va = _ := ha
      subst e
      split at h
      · rename_i b e' k' n F foc ho
        cases hk : Nat.beq k k' with
        | false => simp [hk] at h
        | true =>
          have hk' := Nat.eq_of_beq_eq_true hk
          subst hk'
          simp only [hk, cond_true] at h
          split at h
          · rename_i i' cs
            split at h
            · rename_i q hq
              simp only [Option.some.injEq, Prod.mk.injEq] at h
              obtain ⟨rfl, rfl⟩ := h
              obtain ⟨rfl, hi⟩ := hφ
              obtain ⟨vs, e1, e2, e3, e4⟩ := (hm.box l _ ho).elem hi
              exact run_ld hT hj (off := o) (fun q v hv => by rw [add_pl, Nat.add_assoc]; exact e4 _ v hv) (ldC_sound hq (e1.1 rfl) e2) (by rw [add_pl]; rfl)
            · cases h
          · split at h
            · rename_i q hq
              simp only [Option.some.injEq, Prod.mk.injEq] at h
              obtain ⟨rfl, rfl⟩ := h
              obtain ⟨vs, e1, e2, e3, e4⟩ := (hm.box l _ ho).elem hφ
              exact run_ld hT hj (off := o) (fun q v hv => by rw [add_pl, Nat.add_assoc]; exact e4 _ v hv) (ldD_sound hq e1) (by rw [add_pl]; rfl)
            · cases h
      · rename_i e' n e1 k1 N F foc ho
        cases hk : Nat.beq k 1 with
        | false => simp [hk] at h
        | true =>
          have hk' := Nat.eq_of_beq_eq_true hk
          subst hk'
          simp only [hk, cond_true] at h
          split at h
          · rename_i i' cs
            split at h
            · rename_i q hq
              simp only [Option.some.injEq, Prod.mk.injEq] at h
              obtain ⟨rfl, rfl⟩ := h
              obtain ⟨rfl, hi⟩ := hφ
              obtain ⟨v, e1, e2, e3⟩ := (hm.box l _ ho).nelem hi
              refine run_ld hT hj (off := o) (vs := [v]) (fun q v' hv => ?_) (ldC_sound hq (e1.1 rfl) (fun u hu => by simp only [List.mem_singleton] at hu; rw [hu]; exact e2)) (by rw [add_pl]; rfl)
              rw [add_pl, Nat.mul_one, Nat.add_assoc]
              have h0 : o + q = 0 := by
                rcases Nat.eq_zero_or_pos (o + q) with h | h
                · exact h
                · rw [List.getElem?_eq_none (by simp; omega)] at hv
                  cases hv
              rw [h0] at hv ⊢
              simp only [List.getElem?_cons_zero, Option.some.injEq] at hv
              rw [← hv]
              exact e3
            · cases h
          · cases h
      · cases h
    · rename_i x off
      obtain ⟨b, o, u, rfl, h1, h2⟩ := ha
      split at h
      · rename_i q hq
        simp only [Option.some.injEq, Prod.mk.injEq] at h
        obtain ⟨rfl, _⟩ := h
        exact run_ld hT hj (off := off) (fun i v hv => by rw [add_pl, Nat.add_assoc]; exact hm.prom _ _ _ (h2 (off + i) v (by simpa using hv))) (ldD_sound hq h1.cells) (by rw [add_pl]; rfl)
      · cases h
    · cases h
  · cases h

include hT in
theorem evIndex_sound {t : Nat} {a i p : PV} {φ : Prop} {va vi : Value} (ha : RepP g a va) (hi : RepP g i vi) (h : evIndex T t a i = some (p, φ)) (hφ : φ) :
    ∃ v, (Instr.index t va vi).run P w = .ok v w ∧ RepP g p v := by
  unfold evIndex at h
  split at h
  · rename_i j s k x h1 h2 h3
    obtain ⟨rfl, _⟩ := litOf_rep h2 ha
    obtain ⟨rfl, _⟩ := litOf_rep h3 hi
    split at h
    · rename_i hk
      simp only [Option.some.injEq, Prod.mk.injEq] at h
      obtain ⟨rfl, rfl⟩ := h
      obtain ⟨d, hd, e⟩ := hT.und h1
      rw [hk] at e
      cases d <;> simp only [tkOf, reduceCtorEq] at e
      have hx : x.toNat < s.size := by omega
      refine ⟨_, ?_, rfl, rfl⟩
      simp [Instr.index, asIntOf, run_underlying hd, hφ.1, byteAt, hx]
    · cases h
  · cases h

include hT in
theorem evLen_sound {bs : List (Loc × Obj)} (hm : Mem g bs w) {t : Nat} {a p : PV} {φ : Prop} {va : Value} (ha : RepP g a va) (h : evLen T bs t a = some (p, φ)) (hφ : φ) (ty : TypeId) :
    ∃ v, (Builtin.len_ #[t] ty #[va]).run P w = .ok v w ∧ RepP g p v := by
  unfold evLen at h
  split at h
  · rename_i j hj
    obtain ⟨d, hd, e⟩ := hT.und hj
    split at h
    · rename_i hk
      rw [hk] at e
      cases d <;> simp only [tkOf, reduceCtorEq] at e
      split at h
      · rename_i s hs
        obtain ⟨rfl, _⟩ := litOf_rep hs ha
        simp only [Option.some.injEq, Prod.mk.injEq] at h
        obtain ⟨rfl, _⟩ := h
        exact ⟨_, by simp [Builtin.len_, run_underlying hd]; rfl, rfl, rfl⟩
      · cases h
    · rename_i el hk
      rw [hk] at e
      cases d <;> simp only [tkOf, TK.sl.injEq, reduceCtorEq] at e
      split at h
      · rename_i k n f hs
        obtain ⟨a', c, rfl, _⟩ := slOf_rep hs ha
        simp only [Option.some.injEq, Prod.mk.injEq] at h
        obtain ⟨rfl, _⟩ := h
        exact ⟨_, by simp [Builtin.len_, run_underlying hd]; rfl, rfl, rfl⟩
      · split at h
        · rename_i a' n c hs
          obtain ⟨rfl, _⟩ := litOf_rep hs ha
          simp only [Option.some.injEq, Prod.mk.injEq] at h
          obtain ⟨rfl, _⟩ := h
          exact ⟨_, by simp [Builtin.len_, run_underlying hd]; rfl, rfl, rfl⟩
        · split at h
          · rename_i l n _ _
            split at h
            · rename_i b e' k n' F foc ho
              simp only [Option.some.injEq, Prod.mk.injEq] at h
              obtain ⟨rfl, rfl⟩ := h
              subst hφ
              obtain ⟨u, cs, m1, m2, m3, m4, m5, m6⟩ := hm.box l _ ho
              have := ha.2 u m1
              subst this
              rcases m2.2 with ⟨rfl, rfl⟩ | ⟨c, cap, cur, rfl, _⟩
              · exact ⟨_, by simp [Builtin.len_, run_underlying hd]; rfl, rfl, rfl⟩
              · exact ⟨_, by simp [Builtin.len_, run_underlying hd]; rfl, rfl, rfl⟩
            · rename_i b n' ho
              simp only [Option.some.injEq, Prod.mk.injEq] at h
              obtain ⟨rfl, rfl⟩ := h
              subst hφ
              obtain ⟨_, m1⟩ := hm.box l _ ho
              obtain ⟨a', c, m2⟩ := m1 n rfl
              have := ha.2 _ m2
              subst this
              exact ⟨_, by simp [Builtin.len_, run_underlying hd]; rfl, rfl, rfl⟩
            · rename_i e' n' e1 k1 N F foc ho
              simp only [Option.some.injEq, Prod.mk.injEq] at h
              obtain ⟨rfl, rfl⟩ := h
              subst hφ
              obtain ⟨u, cs, m1, m2, _⟩ := hm.box l _ ho
              have := ha.2 u m1
              subst this
              rcases m2.2 with ⟨rfl, rfl⟩ | ⟨c, cap, cur, rfl, _⟩
              · exact ⟨_, by simp [Builtin.len_, run_underlying hd]; rfl, rfl, rfl⟩
              · exact ⟨_, by simp [Builtin.len_, run_underlying hd]; rfl, rfl, rfl⟩
            · cases h
          · cases h
    · cases h
  · cases h
end
end Go.Pv
namespace Go.Pv
open Go.RowKit

section
variable {P : Program} {T : Tab} (hT : TabOK P T) {g : Gh} {w : World}

/-- An operand that may be missing. -/
def RepO (g : Gh) (p : Option PV) (v : Option Value) : Prop :=
  match p, v with
  | none, none => True
  | some p, some v => RepP g p v
  | _, _ => False
theorem RepO.map {env : List (Nat × PV)} {ρ : Operand → Value} (h : ∀ x, RepP g (opnd env x) (ρ x)) (x : Option Operand) : RepO g (x.map (opnd env)) (x.map ρ) := by
  cases x with
  | none => trivial
  | some x => exact h x

theorem run_sliceBounds {b : Bool} {n cap : Nat} {lo hi : Option PV} {vlo vhi : Option Value} (hlo : RepO g lo vlo) (hhi : RepO g hi vhi) {l h : Int}
    (h1 : evLo lo = some l) (h2 : evHi n hi = some h) (h3 : 0 ≤ l) (h4 : l ≤ h) (h5 : h ≤ (n : Int)) (h6 : n ≤ cap) :
    (Instr.sliceBounds b n cap vlo vhi none).run P w = .ok (l.toNat, h.toNat, cap) w := by
  have hc : h ≤ (cap : Int) := by omega
  have h0 : 0 ≤ h := by omega
  have hl' : l ≤ (h.toNat : Int) := by omega
  cases hi with
  | none =>
    cases vhi with
    | some v => exact hhi.elim
    | none =>
      simp only [evHi, Option.some.injEq] at h2
      subst h2
      cases lo with
      | none =>
        cases vlo with
        | some v => exact hlo.elim
        | none =>
          simp only [evLo, Option.some.injEq] at h1
          subst h1
          simp [Instr.sliceBounds]
      | some p =>
        cases vlo with
        | none => exact hlo.elim
        | some v =>
          simp only [evLo] at h1
          split at h1
          · rename_i k x hx
            simp only [Option.some.injEq] at h1
            subst h1
            obtain ⟨rfl, _⟩ := litOf_rep hx hlo
            have : x ≤ (n : Int) := by omega
            simp [Instr.sliceBounds, Instr.sliceBound, asIntOf, h3, this]
          · cases h1
  | some q =>
    cases vhi with
    | none => exact hhi.elim
    | some v =>
      simp only [evHi] at h2
      split at h2
      · rename_i k x hx
        simp only [Option.some.injEq] at h2
        subst h2
        obtain ⟨rfl, _⟩ := litOf_rep hx hhi
        cases lo with
        | none =>
          cases vlo with
          | some v => exact hlo.elim
          | none =>
            simp only [evLo, Option.some.injEq] at h1
            subst h1
            simp [Instr.sliceBounds, Instr.sliceBound, asIntOf, h0, hc]
        | some p =>
          cases vlo with
          | none => exact hlo.elim
          | some v =>
            simp only [evLo] at h1
            split at h1
            · rename_i k' y hy
              simp only [Option.some.injEq] at h1
              subst h1
              obtain ⟨rfl, _⟩ := litOf_rep hy hlo
              simp [Instr.sliceBounds, Instr.sliceBound, asIntOf, h0, hc, h3]
              omega
            · cases h1
      · cases h2

include hT in
theorem evSlice_sound {t : Nat} {a p : PV} {lo hi : Option PV} {φ : Prop} {va : Value} {vlo vhi : Option Value} (ha : RepP g a va) (hlo : RepO g lo vlo) (hhi : RepO g hi vhi)
    (h : evSlice T t a lo hi = some (p, φ)) (hφ : φ) : ∃ v, (Instr.sliceAt t va vlo vhi none).run P w = .ok v w ∧ RepP g p v := by
  unfold evSlice at h
  split at h
  · rename_i j hj
    obtain ⟨d, hd, e⟩ := hT.und hj
    split at h
    · rename_i hk
      rw [hk] at e
      cases d <;> simp only [tkOf, reduceCtorEq] at e
      split at h
      · rename_i s hs
        obtain ⟨rfl, _⟩ := litOf_rep hs ha
        split at h
        · rename_i l hh h1 h2
          simp only [Option.some.injEq, Prod.mk.injEq] at h
          obtain ⟨rfl, rfl⟩ := h
          obtain ⟨h3, h4, h5⟩ := hφ
          have hb := run_sliceBounds (P := P) (w := w) (b := false) hlo hhi h1 h2 h3 h4 h5 (Nat.le_refl _)
          exact ⟨.string (s.extract l.toNat hh.toNat), by simp [Instr.sliceAt, Instr.slice, run_underlying hd, hb], rfl, rfl⟩
        · cases h
      · cases h
    · rename_i el hk
      rw [hk] at e
      cases d <;> simp only [tkOf, TK.sl.injEq, reduceCtorEq] at e
      subst e
      split at h
      · rename_i i k n f hi' hs
        obtain ⟨a', c, rfl, hnc, hcm, hE⟩ := slOf_rep hs ha
        split at h
        · rename_i l hh h1 h2
          cases hb : Nat.beq i.size k with
          | false => simp [hb] at h
          | true =>
            have hbk := Nat.eq_of_beq_eq_true hb
            simp only [hb, cond_true, Option.some.injEq, Prod.mk.injEq] at h
            obtain ⟨rfl, rfl⟩ := h
            obtain ⟨h3, h4, h5⟩ := hφ
            have hbd := run_sliceBounds (P := P) (w := w) (b := true) hlo hhi h1 h2 h3 h4 h5 hnc
            refine ⟨.slice (if c = l.toNat then a' else a'.map (·.add (l.toNat * i.size))) (hh.toNat - l.toNat) (c - l.toNat),
              by simp [Instr.sliceAt, Instr.slice, run_underlying hd, hbd, hT.run_size hi'], ?_⟩
            refine ⟨_, _, rfl, by omega, by omega, fun hpos => ?_⟩
            obtain ⟨b, o, rfl, hE'⟩ := hE (by omega)
            rw [if_neg (by omega)]
            refine ⟨b, o + l.toNat * k, by simp [add_pl, hbk], fun q hq => ?_⟩
            obtain ⟨u, hu1, hu2, hu3⟩ := hE' (l.toNat + q) (by omega)
            refine ⟨u, hu1, hu2, fun z cc hz => ?_⟩
            have := hu3 z cc hz
            rw [Nat.add_mul] at this
            rw [show o + l.toNat * k + q * k + z = o + (l.toNat * k + q * k) + z by omega]
            exact this
        · cases h
      · cases h
    · cases h
  · cases h

theorem evExtract_sound {a p : PV} {i : Nat} {φ : Prop} {va : Value} (ha : RepP g a va) (h : evExtract a i = some (p, φ)) :
    ∃ v, (Instr.extract va i).run P w = .ok v w ∧ RepP g p v := by
  unfold evExtract at h
  split at h
  · split at h
    · rename_i xs q hq
      simp only [Option.some.injEq, Prod.mk.injEq] at h
      obtain ⟨rfl, _⟩ := h
      obtain ⟨vs, rfl, hl⟩ := ha
      obtain ⟨v, hv, hr⟩ := hl.get hq
      exact ⟨v, by simp [Instr.extract, hv], hr⟩
    · cases h
  · cases h

theorem repPL_map {env : List (Nat × PV)} {ρ : Operand → Value} (h : ∀ x, RepP g (opnd env x) (ρ x)) : ∀ (xs : List Operand), RepPL g (xs.map (opnd env)) (xs.map ρ)
  | [] => rfl
  | x :: xs => ⟨_, _, rfl, h x, repPL_map h xs⟩

include hT in
/-- THE VALUE OPERATIONS. -/
theorem evV_sound {env : List (Nat × PV)} {bs : List (Loc × Obj)} {ρ : Operand → Value} (hρ : ∀ x, RepP g (opnd env x) (ρ x)) (hm : Mem g bs w)
    (o : Oper) {p : PV} {φ : Prop} (h : evV T env bs o.op = some (p, φ)) (hφ : φ) :
    ∃ v, (execOp ρ o).run P w = .ok (.value v) w ∧ RepP g p v := by
  unfold evV at h
  split at h
  case h_1 x e => simp only [Option.some.injEq, Prod.mk.injEq] at h; obtain ⟨rfl, _⟩ := h; exact ⟨ρ x, by simp [execOp, e], hρ x⟩
  case h_2 x e => simp only [Option.some.injEq, Prod.mk.injEq] at h; obtain ⟨rfl, _⟩ := h; exact ⟨ρ x, by simp [execOp, e], hρ x⟩
  case h_3 c a b e =>
    obtain ⟨v, h1, h2⟩ := evPick_sound (P := P) (w := w) (hρ c) (hρ a) (hρ b) h
    exact ⟨v, by simpa [execOp, e] using h1, h2⟩
  case h_4 op t x y _ e =>
    obtain ⟨v, h1, h2⟩ := evBin_sound (P := P) (w := w) (hρ x) (hρ y) h hφ t x y
    exact ⟨v, by simp only [execOp, e]; rw [Sem.run_bind, h1]; rfl, h2⟩
  case h_5 op t x e =>
    obtain ⟨v, h1, h2⟩ := evUn_sound (P := P) (w := w) (hρ x) h
    exact ⟨v, by simp only [execOp, e]; rw [Sem.run_bind, h1]; rfl, h2⟩
  case h_6 s d x e =>
    obtain ⟨v, h1, h2⟩ := evConv_sound hT (w := w) (hρ x) h
    exact ⟨v, by simp only [execOp, e]; rw [Sem.run_bind, h1]; rfl, h2⟩
  case h_7 t x e =>
    obtain ⟨v, h1, h2⟩ := evIfc_sound hT (w := w) (hρ x) h
    exact ⟨v, by simp only [execOp, e]; rw [Sem.run_bind, h1]; rfl, h2⟩
  case h_8 fn first caps e =>
    simp only [Option.some.injEq, Prod.mk.injEq] at h
    obtain ⟨rfl, _⟩ := h
    refine ⟨.func fn (first.map ρ) (caps.map ρ), by simp [execOp, e, Instr.makeFunc], (first.toList.map ρ), (caps.toList.map ρ), ?_, repPL_map hρ _, repPL_map hρ _⟩
    congr 1 <;> (apply Array.ext'; simp)
  case h_9 s x f e =>
    obtain ⟨v, h1, h2⟩ := evFieldAddr_sound hT (w := w) (hρ x) h
    exact ⟨v, by simp only [execOp, e]; rw [Sem.run_bind, h1]; rfl, h2⟩
  case h_10 s x f e =>
    obtain ⟨v, h1, h2⟩ := evField_sound hT (w := w) (hρ x) h
    exact ⟨v, by simp only [execOp, e]; rw [Sem.run_bind, h1]; rfl, h2⟩
  case h_11 t x i e =>
    obtain ⟨v, h1, h2⟩ := evIndexAddr_sound hT hm (hρ x) (hρ i) h hφ
    exact ⟨v, by simp only [execOp, e]; rw [Sem.run_bind, h1]; rfl, h2⟩
  case h_12 t a e =>
    obtain ⟨v, h1, h2⟩ := evLoad_sound hT hm (hρ a) h hφ
    exact ⟨v, by simp only [execOp, e]; rw [Sem.run_bind, h1]; rfl, h2⟩
  case h_13 t x i e =>
    obtain ⟨v, h1, h2⟩ := evIndex_sound hT (w := w) (hρ x) (hρ i) h hφ
    exact ⟨v, by simp only [execOp, e]; rw [Sem.run_bind, h1]; rfl, h2⟩
  case h_14 t x lo hi e =>
    obtain ⟨v, h1, h2⟩ := evSlice_sound hT (w := w) (hρ x) (RepO.map hρ lo) (RepO.map hρ hi) h hφ
    exact ⟨v, by simp only [execOp, e]; rw [Sem.run_bind]; simp only [Option.map_none]; rw [h1]; rfl, h2⟩
  case h_15 x i e =>
    obtain ⟨v, h1, h2⟩ := evExtract_sound (P := P) (w := w) (hρ x) h
    exact ⟨v, by simp only [execOp, e]; rw [Sem.run_bind, h1]; rfl, h2⟩
  case h_16 x e =>
    have hx := hρ x
    unfold evNil at h
    split at h
    · rename_i l o he
      rw [he] at hx
      simp only [Option.some.injEq, Prod.mk.injEq] at h
      obtain ⟨rfl, _⟩ := h
      have e' : ρ x = _ := hx
      exact ⟨ρ x, by simp [execOp, e, e'], hx⟩
    · rename_i l k i o he
      rw [he] at hx
      simp only [Option.some.injEq, Prod.mk.injEq] at h
      obtain ⟨rfl, _⟩ := h
      have e' : ρ x = _ := hx
      exact ⟨ρ x, by simp [execOp, e, e'], hx⟩
    · rename_i y o he
      rw [he] at hx
      simp only [Option.some.injEq, Prod.mk.injEq] at h
      obtain ⟨rfl, _⟩ := h
      obtain ⟨b, o', u, e', _⟩ := id hx
      exact ⟨ρ x, by simp [execOp, e, e'], hx⟩
    · rename_i f y z he
      rw [he] at hx
      simp only [Option.some.injEq, Prod.mk.injEq] at h
      obtain ⟨rfl, _⟩ := h
      obtain ⟨vs, us, e', _⟩ := id hx
      exact ⟨ρ x, by simp [execOp, e, e'], hx⟩
    · cases h
  case h_17 c e =>
    unfold evCall at h
    split at h
    · rename_i hc
      split at h
      · rename_i x t hx ht
        obtain ⟨v, h1, h2⟩ := evLen_sound hT hm (hρ x) h hφ o.type
        refine ⟨v, ?_, h2⟩
        have ex : c.args = #[x] := by apply Array.ext'; simpa using hx
        have et : c.argTypes = #[t] := by apply Array.ext'; simpa using ht
        simp [execOp, e, resolve, hc, ex, et, invoke, builtin, h1]
      · cases h
    · rename_i hc
      split at h
      · rename_i x y hx
        unfold evMm at h
        split at h
        · rename_i k a k' b ha hb
          simp only [Option.some.injEq, Prod.mk.injEq] at h
          obtain ⟨rfl, _⟩ := h
          have ea := (litOf_rep ha (hρ x)).1
          have eb := (litOf_rep hb (hρ y)).1
          have ex : c.args = #[x, y] := by apply Array.ext'; simpa using hx
          exact ⟨.int k (if b > a then b else a), by simp [execOp, e, resolve, hc, ex, invoke, builtin, ea, eb, Builtin.max_, Builtin.max2], rfl, rfl⟩
        · cases h
      · cases h
    · rename_i hc
      split at h
      · rename_i x y hx
        unfold evMm at h
        split at h
        · rename_i k a k' b ha hb
          simp only [Option.some.injEq, Prod.mk.injEq] at h
          obtain ⟨rfl, _⟩ := h
          have ea := (litOf_rep ha (hρ x)).1
          have eb := (litOf_rep hb (hρ y)).1
          have ex : c.args = #[x, y] := by apply Array.ext'; simpa using hx
          exact ⟨.int k (if b < a then b else a), by simp [execOp, e, resolve, hc, ex, invoke, builtin, ea, eb, Builtin.min_, Builtin.min2], rfl, rfl⟩
        · cases h
      · cases h
    · cases h
  case h_18 => cases h
end
end Go.Pv
namespace Go.Pv
open Go.RowKit

/-! ### Judgements -/
inductive AEx where
  | normal
  | exit (id : Nat)
  | ret
  | panic (x : D)

/-- An abstract post, as a post of the machine's. -/
def lift (Q : AEx → St → Prop) (g : Gh) (w : World) (ds : List Deferred) : Exit → Act → World → Prop
  | .normal, a, w' => ∃ st g', Q .normal st ∧ Rel g' st a.tmps w' ∧ Ext g w g' w' ∧ a.defers = ds
  | .exit id, a, w' => ∃ st g', Q (.exit id) st ∧ Rel g' st a.tmps w' ∧ Ext g w g' w' ∧ a.defers = ds
  | .ret, a, w' => ∃ st g', Q .ret st ∧ Rel g' st a.tmps w' ∧ Ext g w g' w' ∧ a.defers = ds
  | .panic ch, a, w' => ∃ x st g' v, ch = [{ v, recovered := false }] ∧ RepD g'.π x v ∧ Q (.panic x) st ∧ Mem g' st.boxes w' ∧ Ext g w g' w' ∧ a.defers = ds
  | _, _, _ => False

theorem lift_from {Q : AEx → St → Prop} {g g1 : Gh} {w w1 : World} {ds : List Deferred} (hx : Ext g w g1 w1) {e : Exit} {a : Act} {w' : World} (h : lift Q g1 w1 ds e a w') : lift Q g w ds e a w' := by
  cases e with
  | normal => obtain ⟨st, g', h1, h2, h3, h4⟩ := h; exact ⟨st, g', h1, h2, hx.trans h3, h4⟩
  | exit id => obtain ⟨st, g', h1, h2, h3, h4⟩ := h; exact ⟨st, g', h1, h2, hx.trans h3, h4⟩
  | ret => obtain ⟨st, g', h1, h2, h3, h4⟩ := h; exact ⟨st, g', h1, h2, hx.trans h3, h4⟩
  | panic ch => obtain ⟨x, st, g', v, h1, h2, h3, h4, h5, h6⟩ := h; exact ⟨x, st, g', v, h1, h2, h3, h4, hx.trans h5, h6⟩
  | goto l => exact h.elim
  | outgrown => exact h.elim
theorem lift_mono {Q Q' : AEx → St → Prop} (hq : ∀ e s, Q e s → Q' e s) {g : Gh} {w : World} {ds : List Deferred} {e : Exit} {a : Act} {w' : World} (h : lift Q g w ds e a w') : lift Q' g w ds e a w' := by
  cases e with
  | normal => obtain ⟨st, g', h1, h2, h3, h4⟩ := h; exact ⟨st, g', hq _ _ h1, h2, h3, h4⟩
  | exit id => obtain ⟨st, g', h1, h2, h3, h4⟩ := h; exact ⟨st, g', hq _ _ h1, h2, h3, h4⟩
  | ret => obtain ⟨st, g', h1, h2, h3, h4⟩ := h; exact ⟨st, g', hq _ _ h1, h2, h3, h4⟩
  | panic ch => obtain ⟨x, st, g', v, h1, h2, h3, h4, h5, h6⟩ := h; exact ⟨x, st, g', v, h1, h2, hq _ _ h3, h4, h5, h6⟩
  | goto l => exact h.elim
  | outgrown => exact h.elim

/-- Code, from a state. -/
def AW (P : Program) (c : Code) (Q : AEx → St → Prop) (st : St) : Prop :=
  ∀ g tmps ds w, Rel g st tmps w → c.wp P (lift Q g w ds) ⟨tmps, ds⟩ w
/-- The operations of a region that are still to come. -/
def AL (P : Program) (ops : Array Oper) (rest : List Oper) (Q : AEx → St → Prop) (st : St) : Prop :=
  ∀ g tmps ds w, Rel g st tmps w → wpList P ops (lift Q g w ds) rest ⟨tmps, ds⟩ w

theorem wpList_mono {P : Program} {ops : Array Oper} {Q Q' : Exit → Act → World → Prop} (h : ∀ e a w, Q e a w → Q' e a w) : ∀ (l : List Oper) (a : Act) (w : World), wpList P ops Q l a w → wpList P ops Q' l a w
  | [], a, w, hh => h _ _ _ hh
  | o :: l, a, w, hh => by
    simp only [wpList] at hh ⊢
    split
    · rename_i hw
      rw [if_pos hw] at hh
      rcases hh with hh | ⟨h1, a0, w0, h2⟩
      · refine .inl ?_
        unfold Oper.wp at *
        generalize (execOp a.eval o).run P w = r at *
        cases r with
        | ok n w' =>
          cases n <;> simp only [Oper.upon] at hh ⊢ <;>
            first
              | exact wpList_mono h l _ _ hh
              | exact Calls.mono hh (fun e w'' he => by
                  cases e with
                  | returned v => exact wpList_mono h l _ _ he
                  | panicked ch => exact h _ _ _ he
                  | outgrown => obtain ⟨a1, w1, h1⟩ := he; exact ⟨a1, w1, h _ _ _ h1⟩)
              | exact Rows.mono hh (fun _ _ he => wpList_mono h l _ _ he)
        | halt x w' => cases x <;> simp only [Oper.upon] at hh ⊢ <;> exact h _ _ _ hh
      · exact .inr ⟨h1, a0, w0, h _ _ _ h2⟩
    · rename_i hw
      rw [if_neg hw] at hh
      exact wpList_mono h l _ _ hh

section
variable {P : Program} {Q : AEx → St → Prop} {st : St}

theorem AW.mono {c : Code} {Q' : AEx → St → Prop} (h : AW P c Q st) (hq : ∀ e s, Q e s → Q' e s) : AW P c Q' st :=
  fun g tmps ds w hr => wp_mono (h g tmps ds w hr) (fun _ _ _ hl => lift_mono hq hl)

def thenQ (K : St → Prop) (Q : AEx → St → Prop) : AEx → St → Prop
  | .normal, s => K s
  | e, s => Q e s

theorem AW.seq {x y : Code} (h : AW P x (thenQ (AW P y Q) Q) st) : AW P (.seq x y) Q st := by
  intro g tmps ds w hr
  refine wp_seq (wp_mono (h g tmps ds w hr) fun e a w' hl => ?_)
  cases e with
  | normal =>
    obtain ⟨s, g', h1, h2, h3, rfl⟩ := hl
    exact wp_mono (h1 g' a.tmps a.defers w' h2) (fun _ _ _ hl => lift_from h3 hl)
  | exit id => exact lift_mono (Q := thenQ (AW P y Q) Q) (Q' := fun e s => match e with | .normal => True | e => Q e s) (fun e s h => by cases e <;> first | trivial | exact h) hl
  | ret => exact lift_mono (Q := thenQ (AW P y Q) Q) (Q' := fun e s => match e with | .normal => True | e => Q e s) (fun e s h => by cases e <;> first | trivial | exact h) hl
  | panic ch => exact lift_mono (Q := thenQ (AW P y Q) Q) (Q' := fun e s => match e with | .normal => True | e => Q e s) (fun e s h => by cases e <;> first | trivial | exact h) hl
  | goto l => exact hl.elim
  | outgrown => exact hl.elim

theorem AW.skip (h : Q .normal st) : AW P .skip Q st := fun g _ _ w hr => wp_skip ⟨st, g, h, hr, Ext.refl g w, rfl⟩
theorem AW.exit {id : Nat} (h : Q (.exit id) st) : AW P (.exit id) Q st := fun g _ _ w hr => wp_exit ⟨st, g, h, hr, Ext.refl g w, rfl⟩
theorem AW.ret (h : Q .ret st) : AW P .ret Q st := fun g _ _ w hr => wp_ret ⟨st, g, h, hr, Ext.refl g w, rfl⟩

theorem AW.cond {c : Operand} {x y : Code} {b : Bool} (hc : litOf (opnd st.env c) = some (.bool b)) (ht : b = true → AW P x Q st) (hf : b = false → AW P y Q st) : AW P (.cond c x y) Q st := by
  intro g tmps ds w hr
  have he := (litOf_rep hc (opnd_rep hr ds c)).1
  refine wp_cond_split he (fun h => ht h g tmps ds w hr) (fun h => hf h g tmps ds w hr)

def blockQ (id : Nat) (Q : AEx → St → Prop) : AEx → St → Prop
  | .exit id', s => bif Nat.beq id' id then Q .normal s else Q (.exit id') s
  | e, s => Q e s
theorem AW.block {id : Nat} {c : Code} (h : AW P c (blockQ id Q) st) : AW P (.block id c) Q st := by
  intro g tmps ds w hr
  refine wp_block (wp_mono (h g tmps ds w hr) fun e a w' hl => ?_)
  cases e with
  | exit id' =>
    obtain ⟨s, g', h1, h2, h3, h4⟩ := hl
    simp only [Exit.inBlock]
    by_cases hid : id' = id
    · subst hid
      simp only [blockQ, Nat.beq_refl, cond_true] at h1
      rw [if_pos rfl]
      exact ⟨s, g', h1, h2, h3, h4⟩
    · simp only [blockQ, nbeqF hid, cond_false] at h1
      rw [if_neg hid]
      exact ⟨s, g', h1, h2, h3, h4⟩
  | normal => exact hl
  | ret => exact hl
  | panic ch => exact hl
  | goto l => exact hl.elim
  | outgrown => exact hl.elim

/-- A loop: an invariant with an index that falls. -/
theorem wp_loop_idx {c : Code} {R : Exit → Act → World → Prop} (I : Nat → Act → World → Prop)
    (round : ∀ n a w, I n a w → c.wp P (Exit.then (fun a' w' => ∃ m, m < n ∧ I m a' w') R) a w) (n : Nat) (a : Act) (w : World) (h0 : I n a w) : (Code.loop c).wp P R a w := by
  intro b k cs
  have key : ∀ n a w, I n a w → ∃ e a' w', R e a' w' ∧ Arrives P (lone (b.at a (.code c :: .inLoop c :: k)) cs w) b k cs e a' w' := by
    intro n
    induction n using Nat.strongRecOn with
    | _ n ih =>
      intro a w hI
      obtain ⟨e, a₁, w₁, hq, harr⟩ := round n a w hI b (.inLoop c :: k) cs
      cases e with
      | normal =>
        obtain ⟨m, hm, hI₁⟩ := hq
        obtain ⟨e₂, a₂, w₂, hq₂, harr₂⟩ := ih m hm a₁ w₁ hI₁
        exact ⟨e₂, a₂, w₂, hq₂, .of_steps (Steps.trans harr (.one step_inLoop)) harr₂⟩
      | exit id => exact ⟨_, a₁, w₁, hq, .pass (x := .inLoop c) rfl (fun _ _ => .inl (by simp)) harr⟩
      | goto l => exact ⟨_, a₁, w₁, hq, .pass (x := .inLoop c) rfl (fun _ _ => .inl (by simp)) harr⟩
      | ret => exact ⟨_, a₁, w₁, hq, .pass (x := .inLoop c) rfl (fun _ _ => .inl (by simp)) harr⟩
      | panic ch => exact ⟨_, a₁, w₁, hq, .pass (x := .inLoop c) rfl (fun _ _ => .inl (by simp)) harr⟩
      | outgrown => exact ⟨_, a₁, w₁, hq, .pass (x := .inLoop c) rfl (fun _ _ => .inl (by simp)) harr⟩
  obtain ⟨e, a', w', hq, harr⟩ := key n a w h0
  exact ⟨e, a', w', hq, .of_steps (.one step_loop) harr⟩

/-- What is known may be forgotten. -/
def Weak (s s' : St) : Prop := ∀ g tmps w, Rel g s tmps w → ∃ g', Rel g' s' tmps w ∧ Ext g w g' w
theorem Weak.refl (s : St) : Weak s s := fun g _ w h => ⟨g, h, Ext.refl g w⟩
theorem Weak.trans {a b c : St} (h : Weak a b) (k : Weak b c) : Weak a c := fun g t w hr => by
  obtain ⟨g', h1, h2⟩ := h g t w hr
  obtain ⟨g2, k1, k2⟩ := k g' t w h1
  exact ⟨g2, k1, h2.trans k2⟩
theorem AW.weak {c : Code} {s' : St} (hw : Weak st s') (h : AW P c Q s') : AW P c Q st := fun g tmps ds w hr => by
  obtain ⟨g', h1, h2⟩ := hw g tmps w hr
  exact wp_mono (h g' tmps ds w h1) (fun _ _ _ hl => lift_from h2 hl)
theorem AL.weak {ops : Array Oper} {rest : List Oper} {s' : St} (hw : Weak st s') (h : AL P ops rest Q s') : AL P ops rest Q st := fun g tmps ds w hr => by
  obtain ⟨g', h1, h2⟩ := hw g tmps w hr
  exact wpList_mono (fun _ _ _ hl => lift_from h2 hl) _ _ _ (h g' tmps ds w h1)

theorem AW.loop {c : Code} (I : Nat → St → Prop) (n : Nat) (h0 : I n st)
    (round : ∀ n s, I n s → AW P c (thenQ (fun s' => ∃ m s'', m < n ∧ Weak s' s'' ∧ I m s'') Q) s) : AW P (.loop c) Q st := by
  intro g tmps ds w hr
  refine wp_loop_idx (P := P) (fun n a w' => ∃ s g', I n s ∧ Rel g' s a.tmps w' ∧ Ext g w g' w' ∧ a.defers = ds) ?_ n ⟨tmps, ds⟩ w ⟨st, g, h0, hr, Ext.refl g w, rfl⟩
  rintro n a w' ⟨s, g', hI, hrel, hx, rfl⟩
  refine wp_mono (round n s hI g' a.tmps a.defers w' hrel) fun e a' w'' hl => ?_
  cases e with
  | normal =>
    obtain ⟨s1, g1, ⟨m, s2, hm, hw, hI2⟩, h2, h3, h4⟩ := hl
    obtain ⟨g2, k1, k2⟩ := hw g1 a'.tmps w'' h2
    exact ⟨m, hm, s2, g2, hI2, k1, (hx.trans h3).trans k2, h4⟩
  | exit id => exact lift_from hx (lift_mono (Q' := fun e s => match e with | .normal => True | e => Q e s) (fun e s h => by cases e <;> first | trivial | exact h) hl)
  | ret => exact lift_from hx (lift_mono (Q' := fun e s => match e with | .normal => True | e => Q e s) (fun e s h => by cases e <;> first | trivial | exact h) hl)
  | panic ch => exact lift_from hx (lift_mono (Q' := fun e s => match e with | .normal => True | e => Q e s) (fun e s h => by cases e <;> first | trivial | exact h) hl)
  | goto l => exact hl.elim
  | outgrown => exact hl.elim
end
end Go.Pv
namespace Go.Pv
open Go.RowKit

/-! ### Regions in the text's order -/
def dstAt : List Oper → Nat → Option Nat
  | [], _ => none
  | o :: _, 0 => o.dst
  | _ :: l, n + 1 => dstAt l n
theorem dstAt_eq : ∀ (l : List Oper) (j : Nat), dstAt l j = (l[j]?).bind (·.dst)
  | [], j => by simp [dstAt]
  | o :: l, 0 => by simp [dstAt]
  | o :: l, j + 1 => by simp [dstAt, dstAt_eq l j]
def guardV (ops : List Oper) (env : List (Nat × PV)) : Option (Nat × Bool) → Option Bool
  | none => some true
  | some (j, want) => match dstAt ops j with
    | some d => match litOf (envAt env d) with
      | some (.bool b) => some (b == want)
      | _ => none
    | none => none

theorem guardV_wanted {l : List Oper} {g : Gh} {st : St} {tmps : Array Value} {w : World} (hr : Rel g st tmps w) {o : Oper} {b : Bool} (h : guardV l st.env o.guard = some b) :
    Region.wanted o (yielded l.toArray tmps) = b := by
  unfold Region.wanted
  cases hg : o.guard with
  | none => simp only [guardV, hg, Option.some.injEq] at h; exact h
  | some jw =>
    obtain ⟨j, want⟩ := jw
    rw [hg] at h
    simp only [guardV] at h
    split at h
    · rename_i d hd
      split at h
      · rename_i c hc
        simp only [Option.some.injEq] at h
        subst h
        have h1 := (litOf_rep hc (hr.env d)).1
        have hlt : d < tmps.size := by
          rcases Nat.lt_or_ge d tmps.size with h2 | h2
          · exact h2
          · simp [Array.getD_eq_getD_getElem?, Array.getElem?_eq_none h2, undef] at h1
        have h2 : tmps[d]? = some (.bool c) := by
          rw [← h1]
          simp [hlt]
        rw [dstAt_eq] at hd
        simp only [yielded, List.getElem?_toArray, hd, Option.bind_some, h2]
        cases c <;> cases want <;> rfl
      · cases h
    · cases h

section
variable {P : Program} {Q : AEx → St → Prop} {st : St} {l rest : List Oper} {o : Oper}

theorem AW.region {id : Nat} (h : AL P l.toArray l Q st) : AW P (.region id l.toArray false) Q st := fun g t ds w hr => wp_region_lit (h g t ds w hr)
theorem AL.nil (h : Q .normal st) : AL P l.toArray [] Q st := fun g _ _ w hr => ⟨st, g, h, hr, Ext.refl g w, rfl⟩

theorem put_eta (tmps : Array Value) (ds : List Deferred) (dst : Option Nat) (v : Value) : (⟨tmps, ds⟩ : Act).put dst v = ⟨((⟨tmps, ds⟩ : Act).put dst v).tmps, ds⟩ := by
  cases dst <;> rfl

/-- A value operation. -/
theorem AL.val {T : Tab} (hT : TabOK P T) {nt : Nat} {env : List (Nat × PV)} {bs : List (Loc × Obj)} {p : PV} {φ : Prop} (hg : guardV l env o.guard = some true)
    (he : evV T env bs o.op = some (p, φ)) (hφ : φ) {d : Nat} (hdst : o.dst = some d) (hd : Nat.blt d nt = true)
    (h : AL P l.toArray rest Q ⟨nt, (d, p) :: env, bs⟩) : AL P l.toArray (o :: rest) Q ⟨nt, env, bs⟩ := by
  intro g tmps ds w hr
  obtain ⟨v, h1, h2⟩ := evV_sound hT (opnd_rep hr ds) hr.mem o he hφ
  simp only [wpList]
  rw [if_pos (guardV_wanted hr hg)]
  refine .inl ?_
  unfold Oper.wp
  rw [h1]
  simp only [Oper.upon]
  rw [put_eta]
  have := hr.put o.dst (by rw [hdst]; exact hd) p v h2 ds
  rw [hdst] at this ⊢
  exact h g _ ds w this
/-- An operation that is not wanted. -/
theorem AL.off {nt : Nat} {env : List (Nat × PV)} {bs : List (Loc × Obj)} (hg : guardV l env o.guard = some false) (hd : fits nt o.dst = true)
    (h : AL P l.toArray rest Q ⟨nt, put env o.dst .any, bs⟩) : AL P l.toArray (o :: rest) Q ⟨nt, env, bs⟩ := by
  intro g tmps ds w hr
  simp only [wpList]
  rw [if_neg (by rw [guardV_wanted hr hg]; simp)]
  rw [put_eta]
  exact h g _ ds w (hr.put o.dst hd .any undef trivial ds)
end

/-! ### Functions -/
def parFrom : Nat → List Obj → List (Loc × Obj)
  | _, [] => []
  | i, c :: r => (.par i, c) :: parFrom (i + 1) r
/-- The objects that a function is given, or gives. -/
def parBoxes (par : List Obj) : List (Loc × Obj) := parFrom 0 par

inductive AOut where
  | ret (p : PV)
  | panic (x : D)

def Outs (g' : Gh) (e : Ending) : AOut → Prop
  | .ret p => ∃ v, e = .returned v ∧ RepP g' p v
  | .panic x => ∃ v, e = .panicked [{ v, recovered := false }] ∧ RepD g'.π x v
structure Post (g : Gh) (w : World) (R : AOut → List Obj → Prop) (e : Ending) (w' : World) (out : AOut) (par : List Obj) (g' : Gh) : Prop where
  holds : R out par
  outs : Outs g' e out
  mem : Mem g' (parBoxes par) w'
  ext : Ext g w g' w'

/-- A function that can be entered. -/
def Enters (P : Program) (f : FuncId) : Prop := (P.funcs[f]?).map (fun fn => (fn.name == "runtime.NumGoroutine", fn.body.isNone)) = some (false, false)
theorem Enters.run {P : Program} {f : FuncId} (h : Enters P f) (args : Array Value) (w : World) : (callFunc f args).run P w = .ok (.enter f args) w := by
  unfold Enters at h
  cases hf : P.funcs[f]? with
  | none => simp [hf] at h
  | some fn =>
    simp only [hf, Option.map_some, Option.some.injEq, Prod.mk.injEq] at h
    obtain ⟨h1, h2⟩ := h
    have hn : fn.name ≠ "runtime.NumGoroutine" := by simpa using h1
    have hb : fn.body ≠ none := by intro e; simp [e] at h2
    simp [callFunc, hf, hn, hb]

/-- The contract of a function: arguments, the objects that it is given (names 'par i'), what comes of it (the objects that it gives beyond those are new). -/
structure AF (P : Program) (f : FuncId) (args : List PV) (par : List Obj) (R : AOut → List Obj → Prop) : Prop where
  enters : Enters P f
  calls : ∀ (g : Gh) (w : World) (vs : List Value), (∀ i, par.length ≤ i → g.fx (.par i) = false) → RepPL g args vs → Mem g (parBoxes par) w →
    Calls P f vs.toArray w (fun e w' => ∃ out par' g', par.length ≤ par'.length ∧ Post g w R e w' out par' g')
theorem AF.mono {P : Program} {f : FuncId} {args : List PV} {par : List Obj} {R R' : AOut → List Obj → Prop} (h : AF P f args par R) (hR : ∀ o p, R o p → R' o p) : AF P f args par R' :=
  ⟨h.enters, fun g w vs h0 h1 h2 => (h.calls g w vs h0 h1 h2).mono fun _ _ ⟨out, par', g', hl, hp⟩ => ⟨out, par', g', hl, ⟨hR _ _ hp.holds, hp.outs, hp.mem, hp.ext⟩⟩⟩

theorem objAt_parFrom : ∀ (par : List Obj) (i : Nat) (l : Loc) (c : Obj), objAt (parFrom i par) l = some c ↔ ∃ j, l = .par (i + j) ∧ par[j]? = some c
  | [], i, l, c => by simp [parFrom, objAt]
  | a :: r, i, l, c => by
    simp only [parFrom, objAt]
    by_cases h : Loc.eqb (.par i) l = true
    · have e := Loc.eqb_iff.1 h
      subst e
      simp only [h, cond_true]
      constructor
      · intro h1; exact ⟨0, rfl, by simpa using h1⟩
      · rintro ⟨j, h1, h2⟩
        have : j = 0 := by injection h1; omega
        subst this
        simpa using h2
    · have hn : Loc.eqb (.par i) l = false := by simpa using h
      simp only [hn, cond_false]
      rw [objAt_parFrom r (i + 1) l c]
      constructor
      · rintro ⟨j, h1, h2⟩; exact ⟨j + 1, by rw [h1]; congr 1; omega, by simpa using h2⟩
      · rintro ⟨j, h1, h2⟩
        cases j with
        | zero => exact absurd (Loc.eqb_iff.2 (by rw [h1]; rfl)) h
        | succ j => exact ⟨j, by rw [h1]; congr 1; omega, by simpa using h2⟩
end Go.Pv
namespace Go.Pv
open Go.RowKit

/-! ### Windows: the objects at 'js' by the names 'par 0', 'par 1', .. -/
def locIdx : List Loc → Nat → Loc → Option Nat
  | [], _, _ => none
  | l :: r, i, l' => bif Loc.eqb l l' then some i else locIdx r (i + 1) l'
mutual
def ren (js : List Loc) : PV → PV
  | .ptr l off => match locIdx js 0 l with
    | some i => .ptr (.par i) off
    | none => .any
  | .pe l k x j => match locIdx js 0 l with
    | some i => .pe (.par i) k x j
    | none => .any
  | .sl l n => match locIdx js 0 l with
    | some i => .sl (.par i) n
    | none => .any
  | .agp ps => .agp (renL js ps)
  | .fn f first caps => .fn f (renL js first) (renL js caps)
  | .tup xs => .tup (renL js xs)
  | .cond c p => .cond c (ren js p)
  | p => p
def renL (js : List Loc) : List PV → List PV
  | [] => []
  | p :: ps => ren js p :: renL js ps
end
mutual
def unren (js : List Loc) : PV → PV
  | .ptr (.par i) off => match js[i]? with
    | some l => .ptr l off
    | none => .any
  | .pe (.par i) k x j => match js[i]? with
    | some l => .pe l k x j
    | none => .any
  | .sl (.par i) n => match js[i]? with
    | some l => .sl l n
    | none => .any
  | .ptr (.loc _) _ => .any
  | .pe (.loc _) _ _ _ => .any
  | .sl (.loc _) _ => .any
  | .agp ps => .agp (unrenL js ps)
  | .fn f first caps => .fn f (unrenL js first) (unrenL js caps)
  | .tup xs => .tup (unrenL js xs)
  | .cond c p => .cond c (unren js p)
  | p => p
def unrenL (js : List Loc) : List PV → List PV
  | [] => []
  | p :: ps => unren js p :: unrenL js ps
end
theorem locIdx_get : ∀ {js : List Loc} {i : Nat} {l : Loc} {k : Nat}, locIdx js i l = some k → ∃ j, k = i + j ∧ js[j]? = some l
  | [], i, l, k, h => by simp [locIdx] at h
  | a :: r, i, l, k, h => by
    simp only [locIdx] at h
    by_cases hb : Loc.eqb a l = true
    · rw [hb] at h
      simp only [cond_true, Option.some.injEq] at h
      exact ⟨0, by omega, by simp [Loc.eqb_iff.1 hb]⟩
    · have hn : Loc.eqb a l = false := by simpa using hb
      rw [hn] at h
      obtain ⟨j, h1, h2⟩ := locIdx_get (js := r) h
      exact ⟨j + 1, by omega, by simpa using h2⟩

/-- The ghost by these names. -/
def Gh.win (g : Gh) (js : List Loc) : Gh where
  π := g.π
  β := fun l => match l with
    | .par i => match js[i]? with
      | some l => g.β l
      | none => 0
    | .loc _ => 0
  ρ := fun l => match l with
    | .par i => match js[i]? with
      | some l => g.ρ l
      | none => none
    | .loc _ => none
  ω := fun b => match g.ω b with
    | .box l => match locIdx js 0 l with
      | some i => .box (.par i)
      | none => .none
    | _ => .none
  fx := fun l => match l with
    | .par i => match js[i]? with
      | some l => g.fx l
      | none => false
    | .loc _ => false

mutual
theorem ren_rep {g : Gh} {js : List Loc} : ∀ (p : PV) (v : Value), RepP g p v → RepP (g.win js) (ren js p) v
  | .any, _, _ => trivial
  | .d x, v, h => h
  | .ptr l off, v, h => by
    simp only [ren]
    split
    · rename_i i hi
      obtain ⟨j, h1, h2⟩ := locIdx_get hi
      have h' : v = .pointer (some ⟨g.β l, off, none⟩) := h
      rw [h']
      simp [RepP, Gh.win, show i = j by omega, h2]
    · trivial
  | .pe l k x o, v, h => by
    simp only [ren]
    split
    · rename_i i hi
      obtain ⟨j, h1, h2⟩ := locIdx_get hi
      have h' : v = .pointer (some ⟨g.β l, x * k + o, none⟩) := h
      rw [h']
      simp [RepP, Gh.win, show i = j by omega, h2]
    · trivial
  | .sl l n, v, h => by
    simp only [ren]
    split
    · rename_i i hi
      obtain ⟨j, h1, h2⟩ := locIdx_get hi
      refine ⟨h.1, fun u hu => h.2 u ?_⟩
      simpa [Gh.win, show i = j by omega, h2] using hu
    · trivial
  | .agp ps, v, h => by
    obtain ⟨vs, e, h1, h2⟩ := h
    exact ⟨vs, e, renL_rep ps vs h1, h2⟩
  | .ea x off, v, h => h
  | .fn f first caps, v, h => by
    obtain ⟨vs, us, e, h1, h2⟩ := h
    exact ⟨vs, us, e, renL_rep first vs h1, renL_rep caps us h2⟩
  | .tup xs, v, h => by
    obtain ⟨vs, e, h1⟩ := h
    exact ⟨vs, e, renL_rep xs vs h1⟩
  | .cond c p, v, h => ⟨fun hc => ren_rep p v (h.1 hc), h.2⟩
theorem renL_rep {g : Gh} {js : List Loc} : ∀ (ps : List PV) (vs : List Value), RepPL g ps vs → RepPL (g.win js) (renL js ps) vs
  | [], _, h => h
  | p :: ps, vs, h => by
    obtain ⟨v, vs', e, h1, h2⟩ := h
    exact ⟨v, vs', e, ren_rep p v h1, renL_rep ps vs' h2⟩
end
mutual
theorem unren_rep {g' g2 : Gh} {js : List Loc} (hπ : g2.π = g'.π) (hβ : ∀ i l, js[i]? = some l → g'.β (.par i) = g2.β l ∧ g'.ρ (.par i) = g2.ρ l) : ∀ (p : PV) (v : Value), RepP g' p v → RepP g2 (unren js p) v
  | .any, _, _ => trivial
  | .d x, v, h => by unfold unren RepP at *; rw [hπ]; exact h
  | .ptr (.par i) off, v, h => by
    simp only [unren]
    split
    · rename_i l hl
      have h' : v = .pointer (some ⟨g'.β (.par i), off, none⟩) := h
      rw [h', (hβ i l hl).1]
      rfl
    · trivial
  | .pe (.par i) k x o, v, h => by
    simp only [unren]
    split
    · rename_i l hl
      have h' : v = .pointer (some ⟨g'.β (.par i), x * k + o, none⟩) := h
      rw [h', (hβ i l hl).1]
      rfl
    · trivial
  | .sl (.par i) n, v, h => by
    simp only [unren]
    split
    · rename_i l hl
      exact ⟨h.1, fun u hu => h.2 u (by rw [(hβ i l hl).2]; exact hu)⟩
    · trivial
  | .ptr (.loc _) off, v, h => trivial
  | .pe (.loc _) k x o, v, h => trivial
  | .sl (.loc _) n, v, h => trivial
  | .agp ps, v, h => by
    obtain ⟨vs, e, h1, h2⟩ := h
    exact ⟨vs, e, unrenL_rep hπ hβ ps vs h1, h2⟩
  | .ea x off, v, h => by unfold unren RepP at *; rw [hπ]; exact h
  | .fn f first caps, v, h => by
    obtain ⟨vs, us, e, h1, h2⟩ := h
    exact ⟨vs, us, e, unrenL_rep hπ hβ first vs h1, unrenL_rep hπ hβ caps us h2⟩
  | .tup xs, v, h => by
    obtain ⟨vs, e, h1⟩ := h
    exact ⟨vs, e, unrenL_rep hπ hβ xs vs h1⟩
  | .cond c p, v, h => ⟨fun hc => unren_rep hπ hβ p v (h.1 hc), h.2⟩
theorem unrenL_rep {g' g2 : Gh} {js : List Loc} (hπ : g2.π = g'.π) (hβ : ∀ i l, js[i]? = some l → g'.β (.par i) = g2.β l ∧ g'.ρ (.par i) = g2.ρ l) : ∀ (ps : List PV) (vs : List Value), RepPL g' ps vs → RepPL g2 (unrenL js ps) vs
  | [], _, h => h
  | p :: ps, vs, h => by
    obtain ⟨v, vs', e, h1, h2⟩ := h
    exact ⟨v, vs', e, unren_rep hπ hβ p v h1, unrenL_rep hπ hβ ps vs' h2⟩
end

/-- The objects at 'js', by the window's names. -/
def winIn (js0 : List Loc) (bs : List (Loc × Obj)) : List Loc → Option (List Obj)
  | [] => some []
  | l :: r => match objAt bs l, winIn js0 bs r with
    | some c, some cs => some (c.map (renL js0) :: cs)
    | _, _ => none
def distinct : List Loc → Bool
  | [] => true
  | l :: r => !(r.any (Loc.eqb l)) && distinct r

theorem winIn_get {js0 : List Loc} {bs : List (Loc × Obj)} : ∀ {js : List Loc} {par : List Obj}, winIn js0 bs js = some par → par.length = js.length ∧
    ∀ (j : Nat) (c : Obj), par[j]? = some c → ∃ l c0, js[j]? = some l ∧ objAt bs l = some c0 ∧ c = c0.map (renL js0)
  | [], par, h => by simp only [winIn, Option.some.injEq] at h; subst h; simp
  | l :: r, par, h => by
    simp only [winIn] at h
    split at h
    · rename_i c cs hc hcs
      simp only [Option.some.injEq] at h
      subst h
      obtain ⟨h1, h2⟩ := winIn_get hcs
      refine ⟨by simp [h1], fun j c' hj => ?_⟩
      cases j with
      | zero => simp at hj; subst hj; exact ⟨l, c, rfl, hc, rfl⟩
      | succ j =>
        obtain ⟨l', c0, h3, h4⟩ := h2 j c' (by simpa using hj)
        exact ⟨l', c0, by simpa using h3, h4⟩
    · cases h

theorem locIdx_of_distinct : ∀ {js : List Loc} {i j : Nat} {l : Loc}, distinct js = true → js[j]? = some l → locIdx js i l = some (i + j)
  | [], i, j, l, _, h => by simp at h
  | a :: r, i, 0, l, hd, h => by
    simp at h
    subst h
    simp [locIdx, Loc.eqb_iff.2 rfl]
  | a :: r, i, j + 1, l, hd, h => by
    simp only [distinct, Bool.and_eq_true, Bool.not_eq_true', List.any_eq_false] at hd
    have h' : r[j]? = some l := by simpa using h
    have hn : Loc.eqb a l = false := by
      have := hd.1 l (List.mem_of_getElem? h')
      simpa using this
    simp only [locIdx, hn, cond_false]
    rw [locIdx_of_distinct (js := r) hd.2 h']
    congr 1
    omega

/-- The window's memory. -/
theorem Mem.win {g : Gh} {bs : List (Loc × Obj)} {w : World} {js : List Loc} {par : List Obj} (hm : Mem g bs w) (hd : distinct js = true) (hin : winIn js bs js = some par) :
    Mem (g.win js) (parBoxes par) w := by
  obtain ⟨hl1, hin2⟩ := winIn_get hin
  refine ⟨fun l cs hl => ?_, hm.prom, hm.glob.to (fun b _ ho => ⟨rfl, by simp [Gh.win, ho]⟩)⟩
  obtain ⟨j, rfl, hj⟩ := (objAt_parFrom par 0 l cs).1 hl
  obtain ⟨l, c0, h1, h2, rfl⟩ := hin2 j cs hj
  have h1' : js[0 + j]? = some l := by simpa using h1
  refine (hm.box l c0 h2).tr (renL js) (renL_rep (g := g)) (Prom.le_refl _) (by simp [Gh.win, h1]) (by simp [Gh.win, h1]) (by simp [Gh.win, h1]) (fun b hb _ => ⟨rfl, ?_, fun _ => rfl⟩)
  simp [Gh.win, hb, locIdx_of_distinct hd h1]
end Go.Pv
namespace Go.Pv
open Go.RowKit

/-! ### Results -/
def resV (T : Tab) (st : St) : ResultVar → Option PV
  | .tmp t => some (envAt st.env t)
  | .cell a t => match envAt st.env a with
    | .ptr l off => match evLoad T st.boxes t (.ptr l off) with
      | some (p, _) => some p
      | none => none
    | _ => none
def resL (T : Tab) (st : St) : List ResultVar → Option (List PV)
  | [] => some []
  | r :: rs => match resV T st r, resL T st rs with
    | some p, some ps => some (p :: ps)
    | _, _ => none
def pack : List PV → PV
  | [p] => p
  | ps => .tup ps
def resP (T : Tab) (st : St) (js : List Loc) (rs : List ResultVar) : Option PV :=
  match resL T st rs with
  | some ps => some (ren js (pack ps))
  | none => none

def runRes (tmps : Array Value) : ResultVar → Sem Value
  | .tmp t => pure (tmps.getD t undef)
  | .cell a t => do loadVar t (← asAddr (tmps.getD a undef))
theorem results_eq (fn : Func) (tmps : Array Value) : results fn tmps = (do
    let vs ← fn.results.mapM (runRes tmps)
    pure (if h : vs.size = 1 then vs[0] else .tuple vs)) := by
  unfold results
  congr 1
theorem evLoad_ptr {T : Tab} {bs : List (Loc × Obj)} {t : Nat} {l : Loc} {off : Nat} {p : PV} {φ : Prop} (h : evLoad T bs t (.ptr l off) = some (p, φ)) : φ := by
  unfold evLoad at h
  split at h
  · dsimp only at h
    split at h
    · split at h
      · simp only [Option.some.injEq, Prod.mk.injEq] at h; rw [← h.2]; trivial
      · cases h
    · cases h
  · cases h

section
variable {P : Program} {T : Tab} (hT : TabOK P T)
include hT
theorem resV_run {g : Gh} {st : St} {tmps : Array Value} {w : World} (hr : Rel g st tmps w) {r : ResultVar} {p : PV} (h : resV T st r = some p) :
    ∃ v, (runRes tmps r).run P w = .ok v w ∧ RepP g p v := by
  cases r with
  | tmp t =>
    simp only [resV, Option.some.injEq] at h
    subst h
    exact ⟨tmps.getD t undef, by simp [runRes], hr.env t⟩
  | cell a t =>
    simp only [resV] at h
    split at h
    · rename_i l off he
      split at h
      · rename_i q φ hq
        simp only [Option.some.injEq] at h
        subst h
        have ha := hr.env a
        rw [he] at ha
        obtain ⟨v, h1, h2⟩ := evLoad_sound hT hr.mem ha hq (evLoad_ptr hq)
        refine ⟨v, ?_, h2⟩
        have had : tmps.getD a undef = .pointer (some ⟨g.β l, off, none⟩) := ha
        rw [had] at h1
        simp only [Instr.loadAt, Instr.sureAddr] at h1
        simp only [runRes, had, asAddr]
        exact h1
      · cases h
    · cases h
theorem resL_run {g : Gh} {st : St} {tmps : Array Value} {w : World} (hr : Rel g st tmps w) : ∀ {rs : List ResultVar} {ps : List PV}, resL T st rs = some ps →
    ∃ vs : List Value, (rs.mapM (runRes tmps)).run P w = .ok vs w ∧ RepPL g ps vs
  | [], ps, h => by
    simp only [resL, Option.some.injEq] at h
    subst h
    exact ⟨[], by simp, rfl⟩
  | r :: rs, ps, h => by
    simp only [resL] at h
    split at h
    · rename_i p ps' hp hps
      simp only [Option.some.injEq] at h
      subst h
      obtain ⟨v, h1, h2⟩ := resV_run hT hr hp
      obtain ⟨vs, h3, h4⟩ := resL_run hr hps
      exact ⟨v :: vs, by simp [List.mapM_cons, h1, h3], v, vs, rfl, h2, h4⟩
    · cases h
end
theorem run_mapM_array {P : Program} {w : World} {α : Type} (f : α → Sem Value) : ∀ (rs : List α) (vs : List Value), (rs.mapM f).run P w = .ok vs w → (rs.toArray.mapM f).run P w = .ok vs.toArray w := by
  intro rs vs h
  rw [List.mapM_toArray]
  simp [h]

section
variable {P : Program} {T : Tab} (hT : TabOK P T)
include hT
theorem resP_run {g : Gh} {st : St} {tmps : Array Value} {w : World} (hr : Rel g st tmps w) {fn : Func} {p : PV} {js : List Loc} (h : resP T st js fn.results.toList = some p) :
    ∃ v, (results fn tmps).run P w = .ok v w ∧ RepP (g.win js) p v := by
  unfold resP at h
  split at h
  · rename_i ps hps
    simp only [Option.some.injEq] at h
    subst h
    obtain ⟨vs, h1, h2⟩ := resL_run hT hr hps
    have h3 := run_mapM_array (runRes tmps) fn.results.toList vs h1
    simp only [Array.toArray_toList] at h3
    rw [results_eq, Sem.run_bind, h3]
    simp only [Result.andThen_ok]
    match ps, vs, h2 with
    | [], [], _ => exact ⟨.tuple #[], by simp, [], rfl, rfl⟩
    | [q], [v], h2 =>
      obtain ⟨v', vs', e, h4, h5⟩ := h2
      simp only [List.cons.injEq] at e
      obtain ⟨rfl, rfl⟩ := e
      exact ⟨v, by simp, ren_rep q v h4⟩
    | q :: q' :: ps, v :: v' :: vs, h2 =>
      exact ⟨.tuple (v :: v' :: vs).toArray, by simp, ren_rep (.tup (q :: q' :: ps)) _ ⟨_, rfl, h2⟩⟩
    | [], _ :: _, h2 => cases h2
    | [q], [], h2 => obtain ⟨_, _, e, _⟩ := h2; cases e
    | [q], _ :: _ :: _, h2 => obtain ⟨_, _, e, _, e2⟩ := h2; cases e; cases e2
    | _ :: _ :: _, [], h2 => obtain ⟨_, _, e, _⟩ := h2; cases e
    | _ :: _ :: _, [_], h2 => obtain ⟨_, _, e, _, e2⟩ := h2; cases e; obtain ⟨_, _, e3, _⟩ := e2; cases e3
  · cases h
end

/-! ### A function out of its body -/
def argEnv : Nat → List PV → List (Nat × PV)
  | _, [] => []
  | i, p :: r => (i, p) :: argEnv (i + 1) r
theorem envAt_argEnv : ∀ (ps : List PV) (i j : Nat), envAt (argEnv i ps) j = if i ≤ j then ps.getD (j - i) .any else .any
  | [], i, j => by simp [argEnv, envAt]
  | p :: r, i, j => by
    simp only [argEnv, envAt]
    by_cases h : i = j
    · subst h; simp
    · rw [nbeqF h, cond_false, envAt_argEnv r (i + 1) j]
      by_cases h1 : i ≤ j
      · rw [if_pos (by omega), if_pos h1, show j - i = (j - (i + 1)) + 1 by omega]; rfl
      · rw [if_neg (by omega), if_neg h1]

def parLabs : Nat → Nat → List Loc
  | _, 0 => []
  | i, n + 1 => .par i :: parLabs (i + 1) n
theorem parLabs_get : ∀ (n i j : Nat), j < n → (parLabs i n)[j]? = some (.par (i + j))
  | 0, _, _, h => by omega
  | n + 1, i, 0, _ => rfl
  | n + 1, i, j + 1, h => by
    simp only [parLabs, List.getElem?_cons_succ]
    rw [parLabs_get n (i + 1) j (by omega)]
    congr 2
    omega
theorem parLabs_length : ∀ (n i : Nat), (parLabs i n).length = n
  | 0, _ => rfl
  | n + 1, i => by simp [parLabs, parLabs_length n (i + 1)]

/-- What the end of a function's body must give: 'ex' names the new objects that it hands out. -/
def retQ (T : Tab) (rs : List ResultVar) (np : Nat) (R : AOut → List Obj → Prop) : AEx → St → Prop
  | .normal, st => ∃ ex p par', resP T st (parLabs 0 np ++ ex) rs = some p ∧ winIn (parLabs 0 np ++ ex) st.boxes (parLabs 0 np ++ ex) = some par' ∧ R (.ret p) par' ∧ distinct (parLabs 0 np ++ ex) = true
  | .ret, st => ∃ ex p par', resP T st (parLabs 0 np ++ ex) rs = some p ∧ winIn (parLabs 0 np ++ ex) st.boxes (parLabs 0 np ++ ex) = some par' ∧ R (.ret p) par' ∧ distinct (parLabs 0 np ++ ex) = true
  | .panic x, st => ∃ par', winIn (parLabs 0 np) st.boxes (parLabs 0 np) = some par' ∧ R (.panic x) par' ∧ distinct (parLabs 0 np) = true
  | .exit _, _ => False

theorem entry_rel {g : Gh} {w : World} {args : List PV} {vs : List Value} {par : List Obj} (hv : RepPL g args vs) (hm : Mem g (parBoxes par) w) (n : Nat) (hn : args.length ≤ n) :
    Rel g ⟨n, argEnv 0 args, parBoxes par⟩ (vs.toArray ++ Array.replicate (n - vs.toArray.size) undef) w := by
  have hl := hv.length
  refine ⟨by simp; omega, fun i => ?_, hm⟩
  simp only [envAt_argEnv, Nat.zero_le, if_true, Nat.sub_zero]
  cases hp : args[i]? with
  | none => simp [List.getD_eq_getElem?_getD, hp]; trivial
  | some p =>
    obtain ⟨v, h1, h2⟩ := hv.get hp
    have hlt : i < vs.length := (List.getElem?_eq_some_iff.1 h1).1
    rw [List.getD_eq_getElem?_getD, hp]
    have : (vs.toArray ++ Array.replicate (n - vs.toArray.size) undef).getD i undef = v := by
      rw [Array.getD_eq_getD_getElem?, Array.getElem?_append_left (by simpa using hlt)]
      simp [h1]
    rw [this]
    exact h2

theorem Ext.win {g g' : Gh} {w w' : World} (h : Ext g w g' w') {np : Nat} (h0 : ∀ i, np ≤ i → g.fx (.par i) = false) (ex : List Loc) : Ext g w (g'.win (parLabs 0 np ++ ex)) w' := by
  refine ⟨h.π, h.size, h.os, h.tape, h.output, fun i hi => ?_, fun b hb ho => ?_⟩
  · have hlt : i < np := by
      rcases Nat.lt_or_ge i np with h1 | h1
      · exact h1
      · rw [h0 i h1] at hi; cases hi
    have hj : (parLabs 0 np ++ ex)[i]? = some (.par i) := by
      rw [List.getElem?_append_left (by rw [parLabs_length]; exact hlt), parLabs_get np 0 i hlt, Nat.zero_add]
    simpa only [Gh.win, hj] using h.par i hi
  · obtain ⟨h1, h2, h3⟩ := h.keep b hb ho
    exact ⟨h1, by simp [Gh.win, h2], h3⟩

theorem AF.intro {P : Program} {T : Tab} (hT : TabOK P T) {f : FuncId} {F : Func} {c : Code} {args : List PV} {par : List Obj} {R : AOut → List Obj → Prop}
    (hF : P.funcs[f]? = some F) (hb : F.body = some c) (hname : (F.name == "runtime.NumGoroutine") = false) (hn : args.length ≤ F.ntmps)
    (h : AW P c (retQ T F.results.toList par.length R) ⟨F.ntmps, argEnv 0 args, parBoxes par⟩) : AF P f args par R := by
  refine ⟨by simp [Enters, hF, hb]; simpa using hname, fun g w vs h0 hv hm => ?_⟩
  refine calls_of_wp hF hb (wp_mono (h g _ [] w (entry_rel hv hm F.ntmps hn)) fun e a w' hl => ?_)
  have key : ∀ st g', (∃ ex p par', resP T st (parLabs 0 par.length ++ ex) F.results.toList = some p ∧ winIn (parLabs 0 par.length ++ ex) st.boxes (parLabs 0 par.length ++ ex) = some par' ∧ R (.ret p) par' ∧ distinct (parLabs 0 par.length ++ ex) = true) →
      Rel g' st a.tmps w' → Ext g w g' w' → a.defers = [] →
      a.defers = [] ∧ ∃ v, (results F a.tmps).run P w' = .ok v w' ∧ ∃ out par' g'', par.length ≤ par'.length ∧ Post g w R (.returned v) w' out par' g'' := by
    rintro st g' ⟨ex, p, par', h1, h2, h3, h4⟩ hr hx hd
    obtain ⟨v, h5, h6⟩ := resP_run hT hr h1
    exact ⟨hd, v, h5, .ret p, par', g'.win (parLabs 0 par.length ++ ex), by rw [(winIn_get h2).1]; simp [parLabs_length], h3, ⟨v, rfl, h6⟩, hr.mem.win h4 h2, hx.win h0 ex⟩
  cases e with
  | normal => obtain ⟨st, g', h1, h2, h3, h4⟩ := hl; exact key st g' h1 h2 h3 h4
  | ret => obtain ⟨st, g', h1, h2, h3, h4⟩ := hl; exact key st g' h1 h2 h3 h4
  | exit id => obtain ⟨st, g', h1, _⟩ := hl; exact h1.elim
  | panic ch =>
    obtain ⟨x, st, g', v, rfl, h2, ⟨par', h3, h4, h4'⟩, h5, h6, h7⟩ := hl
    have h8 := h6.win h0 []
    rw [List.append_nil] at h8
    exact ⟨h7, .panic x, par', g'.win (parLabs 0 par.length), by rw [(winIn_get h3).1]; simp [parLabs_length], h4, ⟨v, rfl, h2⟩, h5.win h4' h3, h8⟩
  | goto l => exact hl.elim
  | outgrown => exact hl.elim
end Go.Pv
namespace Go.Pv
open Go.RowKit

/-! ### A call by contract: the callee sees the objects at 'js' as its 'par 0', 'par 1', ..; what it gives beyond them gets the names 'ex'. -/
mutual
/-- Forget what points to these. -/
def san (ms : List Loc) : PV → PV
  | .ptr l off => match locIdx ms 0 l with
    | some _ => .any
    | none => .ptr l off
  | .pe l k x j => match locIdx ms 0 l with
    | some _ => .any
    | none => .pe l k x j
  | .sl l n => match locIdx ms 0 l with
    | some _ => .any
    | none => .sl l n
  | .agp ps => .agp (sanL ms ps)
  | .fn f first caps => .fn f (sanL ms first) (sanL ms caps)
  | .tup xs => .tup (sanL ms xs)
  | .cond c p => .cond c (san ms p)
  | p => p
def sanL (ms : List Loc) : List PV → List PV
  | [] => []
  | p :: ps => san ms p :: sanL ms ps
end
section
variable {g g2 : Gh} {ms : List Loc}
mutual
theorem san_rep (hπ : Prom.le g.π g2.π) (hβ : ∀ l, locIdx ms 0 l = none → g2.β l = g.β l ∧ g2.ρ l = g.ρ l) : ∀ (p : PV) (v : Value), RepP g p v → RepP g2 (san ms p) v
  | .any, _, _ => trivial
  | .d x, v, h => RepD.mono hπ x v h
  | .ptr l off, v, h => by
    simp only [san]
    split
    · trivial
    · rename_i hn
      have h' : v = .pointer (some ⟨g.β l, off, none⟩) := h
      rw [h', ← (hβ l hn).1]
      rfl
  | .pe l k x o, v, h => by
    simp only [san]
    split
    · trivial
    · rename_i hn
      have h' : v = .pointer (some ⟨g.β l, x * k + o, none⟩) := h
      rw [h', ← (hβ l hn).1]
      rfl
  | .sl l n, v, h => by
    simp only [san]
    split
    · trivial
    · rename_i hn
      exact ⟨h.1, fun u hu => h.2 u (by rw [← (hβ l hn).2]; exact hu)⟩
  | .agp ps, v, h => by
    obtain ⟨vs, e, h1, h2⟩ := h
    exact ⟨vs, e, sanL_rep hπ hβ ps vs h1, h2⟩
  | .ea x off, v, h => by
    obtain ⟨b, o, u, e, h1, h2⟩ := h
    exact ⟨b, o, u, e, RepD.mono hπ x u h1, fun j c hc => hπ _ _ _ (h2 j c hc)⟩
  | .fn f first caps, v, h => by
    obtain ⟨vs, us, e, h1, h2⟩ := h
    exact ⟨vs, us, e, sanL_rep hπ hβ first vs h1, sanL_rep hπ hβ caps us h2⟩
  | .tup xs, v, h => by
    obtain ⟨vs, e, h1⟩ := h
    exact ⟨vs, e, sanL_rep hπ hβ xs vs h1⟩
  | .cond c p, v, h => ⟨fun hc => san_rep hπ hβ p v (h.1 hc), h.2⟩
theorem sanL_rep (hπ : Prom.le g.π g2.π) (hβ : ∀ l, locIdx ms 0 l = none → g2.β l = g.β l ∧ g2.ρ l = g.ρ l) : ∀ (ps : List PV) (vs : List Value), RepPL g ps vs → RepPL g2 (sanL ms ps) vs
  | [], _, h => h
  | p :: ps, vs, h => by
    obtain ⟨v, vs', e, h1, h2⟩ := h
    exact ⟨v, vs', e, san_rep hπ hβ p v h1, sanL_rep hπ hβ ps vs' h2⟩
end
end
def sanE0 (ms : List Loc) : List (Nat × PV) → List (Nat × PV)
  | [] => []
  | (i, p) :: r => (i, san ms p) :: sanE0 ms r
def sanE (ms : List Loc) (env : List (Nat × PV)) : List (Nat × PV) := bif ms.isEmpty then env else sanE0 ms env
def sanB0 (ms : List Loc) : List (Loc × Obj) → List (Loc × Obj)
  | [] => []
  | (l, o) :: r => (l, o.map (sanL ms)) :: sanB0 ms r
def sanB (ms : List Loc) (bs : List (Loc × Obj)) : List (Loc × Obj) := bif ms.isEmpty then bs else sanB0 ms bs
theorem sanE_rep {g g2 : Gh} {ms : List Loc} (hπ : Prom.le g.π g2.π) (hβ : ∀ l, locIdx ms 0 l = none → g2.β l = g.β l ∧ g2.ρ l = g.ρ l) (env : List (Nat × PV)) (i : Nat) (v : Value) (h : RepP g (envAt env i) v) : RepP g2 (envAt (sanE ms env) i) v := by
  have key : envAt (sanE0 ms env) i = san ms (envAt env i) := by
    clear h
    induction env with
    | nil => rfl
    | cons x r ih =>
      obtain ⟨j, p⟩ := x
      simp only [sanE0, envAt]
      cases Nat.beq j i with
      | true => rfl
      | false => exact ih
  unfold sanE
  cases ms with
  | nil => exact RepP.mono ⟨hπ, fun l => (hβ l rfl).1, fun l => (hβ l rfl).2⟩ _ _ h
  | cons a b =>
    show RepP g2 (envAt (sanE0 (a :: b) env) i) v
    rw [key]
    exact san_rep hπ hβ _ _ h
theorem objAt_sanB {ms : List Loc} {bs : List (Loc × Obj)} {l : Loc} {o : Obj} (h : objAt (sanB ms bs) l = some o) : ∃ o0, objAt bs l = some o0 ∧ (o = o0.map (sanL ms) ∨ (ms = [] ∧ o = o0)) := by
  unfold sanB at h
  cases ms with
  | nil => exact ⟨o, h, .inr ⟨rfl, rfl⟩⟩
  | cons a b =>
    have h' : objAt (sanB0 (a :: b) bs) l = some o := h
    clear h
    induction bs with
    | nil => simp [sanB0, objAt] at h'
    | cons x r ih =>
      obtain ⟨m, q⟩ := x
      simp only [sanB0, objAt] at h' ⊢
      cases hb : Loc.eqb m l with
      | true =>
        rw [hb] at h'
        simp only [cond_true, Option.some.injEq] at h'
        exact ⟨q, rfl, .inl h'.symm⟩
      | false =>
        rw [hb] at h'
        exact ih h'

/-- Which of the objects may move. -/
def moved (bs : List (Loc × Obj)) : List Loc → List Loc
  | [] => []
  | l :: r => match objAt bs l with
    | some (.arr false _ _ _ _ _) => l :: moved bs r
    | some (.gone _ _) => l :: moved bs r
    | _ => moved bs r
theorem moved_spec {bs : List (Loc × Obj)} : ∀ {js : List Loc} {l : Loc}, l ∈ js → l ∉ moved bs js → ∀ o, objAt bs l = some o → (∀ e k n F foc, o ≠ .arr false e k n F foc) ∧ ∀ b n, o ≠ .gone b n
  | a :: r, l, hl, hn, o, ho => by
    rcases List.mem_cons.1 hl with rfl | hl
    · refine ⟨fun e k n F foc he => ?_, fun b n he => ?_⟩ <;> (subst he; simp [moved, ho] at hn)
    · refine moved_spec (js := r) hl (fun hm => hn ?_) _ ho
      simp only [moved]
      split
      · exact List.mem_cons_of_mem _ hm
      · exact List.mem_cons_of_mem _ hm
      · exact hm
theorem locIdx_mem : ∀ {js : List Loc} {i : Nat} {l : Loc}, locIdx js i l = none ↔ l ∉ js
  | [], i, l => by simp [locIdx]
  | a :: r, i, l => by
    simp only [locIdx]
    by_cases hb : Loc.eqb a l = true
    · have := Loc.eqb_iff.1 hb
      subst this
      simp [hb]
    · have hn : Loc.eqb a l = false := by simpa using hb
      have hne : ¬ l = a := fun e => hb (Loc.eqb_iff.2 e.symm)
      rw [hn, cond_false, locIdx_mem (js := r)]
      simp [hne]

def outObjs (js0 : List Loc) : List Loc → List Obj → List (Loc × Obj)
  | l :: r, o :: os => (l, o.map (unrenL js0)) :: outObjs js0 r os
  | _, _ => []
/-- The objects behind the call. -/
def outBoxes (js ms : List Loc) (par' : List Obj) (bs : List (Loc × Obj)) : List (Loc × Obj) := outObjs js js par' ++ sanB ms bs
theorem objAt_append : ∀ (qs bs : List (Loc × Obj)) (l : Loc) (o : Obj), objAt (qs ++ bs) l = some o → objAt qs l = some o ∨ (objAt qs l = none ∧ objAt bs l = some o)
  | [], bs, l, o, h => .inr ⟨rfl, h⟩
  | (m, q) :: r, bs, l, o, h => by
    simp only [List.cons_append, objAt] at h ⊢
    cases hb : Loc.eqb m l with
    | true => rw [hb] at h; exact .inl h
    | false => rw [hb] at h; exact objAt_append r bs l o h
theorem objAt_outObjs {js0 : List Loc} : ∀ {js : List Loc} {cs : List Obj} {l : Loc}, cs.length = js.length →
    (∀ o, objAt (outObjs js0 js cs) l = some o → ∃ (j : Nat) (o0 : Obj), js[j]? = some l ∧ cs[j]? = some o0 ∧ o = o0.map (unrenL js0)) ∧ (objAt (outObjs js0 js cs) l = none → l ∉ js)
  | [], [], l, _ => by simp [outObjs, objAt]
  | [], _ :: _, _, hl => by simp at hl
  | _ :: _, [], _, hl => by simp at hl
  | a :: r, c :: cs, l, hl => by
    obtain ⟨h1, h2⟩ := objAt_outObjs (js0 := js0) (js := r) (cs := cs) (l := l) (by simpa using hl)
    simp only [outObjs, objAt]
    by_cases hb : Loc.eqb a l = true
    · have := Loc.eqb_iff.1 hb
      subst this
      rw [hb]
      refine ⟨fun o ho => ⟨0, c, rfl, rfl, ?_⟩, by simp⟩
      simpa using ho.symm
    · have hn : Loc.eqb a l = false := by simpa using hb
      have hne : ¬ l = a := fun e => hb (Loc.eqb_iff.2 e.symm)
      rw [hn]
      refine ⟨fun o ho => ?_, fun ho => ?_⟩
      · obtain ⟨j, o0, h3, h4, h5⟩ := h1 o ho
        exact ⟨j + 1, o0, by simpa using h3, by simpa using h4, h5⟩
      · simp [hne, h2 ho]

/-- The ghost behind the call. -/
def Gh.back (g g' : Gh) (n : Nat) (js : List Loc) : Gh where
  π := g'.π
  β := fun l => match locIdx js 0 l with
    | some i => g'.β (.par i)
    | none => g.β l
  ρ := fun l => match locIdx js 0 l with
    | some i => g'.ρ (.par i)
    | none => g.ρ l
  ω := fun b => match g'.ω b with
    | .box (.par i) => match js[i]? with
      | some l => .box l
      | none => .none
    | _ => if b < n then (match g.ω b with
      | .box l => match locIdx js 0 l with
        | some _ => .none
        | none => .box l
      | .none => .none) else .none
  fx := fun l => match locIdx js 0 l with
    | some i => g'.fx (.par i)
    | none => g.fx l

def locsOnly : List Loc → Bool
  | [] => true
  | .loc _ :: r => locsOnly r
  | .par _ :: _ => false
theorem locsOnly_spec : ∀ {ex : List Loc}, locsOnly ex = true → ∀ i, Loc.par i ∉ ex
  | [], _, i, h => by cases h
  | .loc d :: r, hl, i, h => by
    rcases List.mem_cons.1 h with h | h
    · cases h
    · exact locsOnly_spec (ex := r) hl i h
  | .par j :: r, hl, i, h => by simp [locsOnly] at hl
/-- What the caller has behind a call. -/
theorem call_back {g g' : Gh} {st : St} {tmps : Array Value} {w w' : World} {js ex : List Loc} {par par' : List Obj} {R : AOut → List Obj → Prop} {e : Ending} {out : AOut}
    (hr : Rel g st tmps w) (hd : distinct (js ++ ex) = true) (hex : locsOnly ex = true) (hin : winIn js st.boxes js = some par) (hlen : par'.length = (js ++ ex).length) (hp : Post (g.win js) w R e w' out par' g') :
    Rel (g.back g' w.heap.size (js ++ ex)) ⟨st.nt, sanE (moved st.boxes js ++ ex) st.env, outBoxes (js ++ ex) (moved st.boxes js ++ ex) par' st.boxes⟩ tmps w' ∧ Ext g w (g.back g' w.heap.size (js ++ ex)) w' ∧
    (∀ p v, RepP g' p v → RepP (g.back g' w.heap.size (js ++ ex)) (unren (js ++ ex) p) v) := by
  obtain ⟨hl1, hin2⟩ := winIn_get hin
  have hx := hp.ext
  have hpar : ∀ (j : Nat) (l : Loc), js[j]? = some l → ∃ o, objAt st.boxes l = some o := by
    intro j l hl
    have hj : j < par.length := by rw [hl1]; exact (List.getElem?_eq_some_iff.1 hl).1
    obtain ⟨l', c0, h1, h2, _⟩ := hin2 j par[j] (List.getElem?_eq_getElem hj)
    rw [hl] at h1
    cases h1
    exact ⟨c0, h2⟩
  have hidx : ∀ (j : Nat) (l : Loc), (js ++ ex)[j]? = some l → locIdx (js ++ ex) 0 l = some j := fun j l hl => by
    have := locIdx_of_distinct (i := 0) hd hl
    simpa using this
  have hβ : ∀ (i : Nat) (l : Loc), (js ++ ex)[i]? = some l → g'.β (.par i) = (g.back g' w.heap.size (js ++ ex)).β l ∧ g'.ρ (.par i) = (g.back g' w.heap.size (js ++ ex)).ρ l := by
    intro i l hl
    simp [Gh.back, hidx i l hl]
  have hsan : ∀ l, locIdx (moved st.boxes js ++ ex) 0 l = none → (g.back g' w.heap.size (js ++ ex)).β l = g.β l ∧ (g.back g' w.heap.size (js ++ ex)).ρ l = g.ρ l := by
    intro l hl
    have hl' := locIdx_mem.1 hl
    simp only [List.mem_append, not_or] at hl'
    by_cases hmem : l ∈ js
    · obtain ⟨j, hj, hjl⟩ := List.getElem_of_mem hmem
      have hj1 : js[j]? = some l := by rw [List.getElem?_eq_getElem hj, hjl]
      have hj2 : (js ++ ex)[j]? = some l := by rw [List.getElem?_append_left hj]; exact hj1
      obtain ⟨o, ho⟩ := hpar j l hj1
      have hfx : g.fx l = true := by
        have h1 := hr.mem.box l o ho
        have h2 := moved_spec hmem hl'.1 o ho
        cases o with
        | cells cs => obtain ⟨_, _, _, _, _, h3, _⟩ := h1; exact h3
        | arr b e k n F foc =>
          obtain ⟨_, _, _, _, _, _, h3, _⟩ := h1
          cases b with
          | true => exact h3
          | false => exact absurd rfl (h2.1 e k n F foc)
        | gone b n => exact absurd rfl (h2.2 b n)
        | nest e n e1 k1 N F foc => obtain ⟨_, _, _, _, _, h3, _⟩ := h1; exact h3
      have := hx.par j (by simp [Gh.win, hj1, hfx])
      simp only [Gh.back, hidx j l hj2]
      have e1 : (g.win js).β (.par j) = g.β l := by simp [Gh.win, hj1]
      have e2 : (g.win js).ρ (.par j) = g.ρ l := by simp [Gh.win, hj1]
      exact ⟨this.1.trans e1, this.2.1.trans e2⟩
    · have hnone : locIdx (js ++ ex) 0 l = none := locIdx_mem.2 (by simp [hmem, hl'.2])
      simp [Gh.back, hnone]
  have hkeep : ∀ b, b < w.heap.size → (g.win js).ω b = .none → w'.heap[b]? = w.heap[b]? ∧ g'.ω b = .none ∧ ∀ o, g'.π b o = g.π b o := fun b hb ho => hx.keep b hb ho
  have hπg : Prom.le g.π (g.back g' w.heap.size (js ++ ex)).π := hx.π
  refine ⟨⟨hr.len, fun i => sanE_rep hπg hsan _ _ _ (hr.env i), ⟨fun l o ho => ?_, hp.mem.prom, hr.mem.glob.to (fun b hb ho => by
      obtain ⟨k1, k2, _⟩ := hkeep b hb (by simp [Gh.win, ho])
      exact ⟨k1, by simp [Gh.back, k2, hb, ho]⟩)⟩⟩, ⟨hx.π, hx.size, hx.os, hx.tape, hx.output, fun i hi => ?_, fun b hb ho => ?_⟩, fun p v h => unren_rep (g' := g') (g2 := g.back g' w.heap.size (js ++ ex)) rfl hβ p v h⟩
  · rcases objAt_append _ _ l o ho with h1 | ⟨h1, h2⟩
    · obtain ⟨j, o0, h3, h4, rfl⟩ := (objAt_outObjs (js0 := js ++ ex) hlen).1 o h1
      refine (hp.mem.box (.par j) o0 ((objAt_parFrom par' 0 _ _).2 ⟨j, by simp, h4⟩)).tr (unrenL (js ++ ex)) (fun ps vs h => unrenL_rep (g' := g') (g2 := g.back g' w.heap.size (js ++ ex)) rfl hβ ps vs h) (Prom.le_refl _)
        (hβ j l h3).1.symm (hβ j l h3).2.symm (by simp [Gh.back, hidx j l h3]) (fun b hb _ => ⟨rfl, ?_, fun _ => rfl⟩)
      simp [Gh.back, hb, h3]
    · have hnot := (objAt_outObjs (js0 := js ++ ex) hlen).2 h1
      have hnone : locIdx (js ++ ex) 0 l = none := locIdx_mem.2 hnot
      obtain ⟨o0, h3, h4⟩ := objAt_sanB h2
      have hblk : ∀ b, g.ω b = .box l → b < w.heap.size → w'.heap[b]? = w.heap[b]? ∧ (g.back g' w.heap.size (js ++ ex)).ω b = .box l ∧ ∀ o, (g.back g' w.heap.size (js ++ ex)).π b o = g.π b o := by
        intro b hb hlt
        have hw : (g.win js).ω b = .none := by
          have : locIdx js 0 l = none := locIdx_mem.2 (fun hm => hnot (by simp [hm]))
          simp [Gh.win, hb, this]
        obtain ⟨k1, k2, k3⟩ := hkeep b hlt hw
        exact ⟨k1, by simp [Gh.back, k2, hlt, hb, hnone], k3⟩
      have hfx : (g.back g' w.heap.size (js ++ ex)).fx l = g.fx l := by simp [Gh.back, hnone]
      have hll : (g.back g' w.heap.size (js ++ ex)).β l = g.β l ∧ (g.back g' w.heap.size (js ++ ex)).ρ l = g.ρ l := by simp [Gh.back, hnone]
      rcases h4 with rfl | ⟨he, rfl⟩
      · exact (hr.mem.box l o0 h3).tr _ (fun ps vs h => sanL_rep hπg hsan ps vs h) hπg hll.1 hll.2 hfx hblk
      · have := (hr.mem.box l _ h3).tr (g' := g.back g' w.heap.size (js ++ ex)) (w' := w') (l' := l) id (fun ps vs h => RepPL.mono ⟨hπg, fun l => (hsan l (by rw [he]; rfl)).1, fun l => (hsan l (by rw [he]; rfl)).2⟩ ps vs h) hπg hll.1 hll.2 hfx hblk
        rwa [Obj.map_id] at this
  · by_cases hmem : Loc.par i ∈ js ++ ex
    · have hmj : Loc.par i ∈ js := by
        rcases List.mem_append.1 hmem with h | h
        · exact h
        · exact absurd h (locsOnly_spec hex i)
      obtain ⟨j, hj, hjl⟩ := List.getElem_of_mem hmj
      have hj1 : js[j]? = some (.par i) := by rw [List.getElem?_eq_getElem hj, hjl]
      have hj2 : (js ++ ex)[j]? = some (.par i) := by rw [List.getElem?_append_left hj]; exact hj1
      have := hx.par j (by simp [Gh.win, hj1, hi])
      simp only [Gh.back, hidx j _ hj2]
      have e1 : (g.win js).β (.par j) = g.β (.par i) := by simp [Gh.win, hj1]
      have e2 : (g.win js).ρ (.par j) = g.ρ (.par i) := by simp [Gh.win, hj1]
      exact ⟨this.1.trans e1, this.2.1.trans e2, this.2.2⟩
    · have hnone : locIdx (js ++ ex) 0 (.par i) = none := locIdx_mem.2 hmem
      exact ⟨by simp [Gh.back, hnone], by simp [Gh.back, hnone], by simpa [Gh.back, hnone] using hi⟩
  · have hw : (g.win js).ω b = .none := by simp [Gh.win, ho]
    obtain ⟨k1, k2, k3⟩ := hkeep b hb hw
    exact ⟨k1, by simp [Gh.back, k2, hb, ho], k3⟩
end Go.Pv
namespace Go.Pv
open Go.RowKit

/-! ### The rule of a call -/
/-- Whom a call calls, with which arguments. -/
def callOf (env : List (Nat × PV)) (op : Op) : Option (FuncId × List PV) :=
  match op with
  | .call c => match c.callee with
    | .value fo => match opnd env fo with
      | .fn (.func f) first caps => some (f, first ++ c.args.toList.map (opnd env) ++ caps)
      | _ => none
    | _ => none
  | _ => none

theorem RepPL.append {g : Gh} : ∀ {xs ys : List PV} {vs us : List Value}, RepPL g xs vs → RepPL g ys us → RepPL g (xs ++ ys) (vs ++ us)
  | [], ys, _, us, h, k => by cases h; exact k
  | x :: xs, ys, _, us, h, k => by obtain ⟨v, vs', rfl, h1, h2⟩ := h; exact ⟨v, vs' ++ us, rfl, h1, h2.append k⟩

theorem callOf_run {P : Program} {g : Gh} {env : List (Nat × PV)} {ρ : Operand → Value} (hρ : ∀ x, RepP g (opnd env x) (ρ x)) {o : Oper} {f : FuncId} {ps : List PV} (h : callOf env o.op = some (f, ps)) (he : Enters P f) (w : World) :
    ∃ vs : List Value, (execOp ρ o).run P w = .ok (.enter f vs.toArray) w ∧ RepPL g ps vs := by
  unfold callOf at h
  split at h
  · rename_i c hc
    split at h
    · rename_i fo hfo
      split at h
      · rename_i f' first caps hf
        simp only [Option.some.injEq, Prod.mk.injEq] at h
        obtain ⟨rfl, rfl⟩ := h
        have h1 := hρ fo
        rw [hf] at h1
        obtain ⟨vs, us, e, h2, h3⟩ := h1
        refine ⟨vs ++ c.args.toList.map ρ ++ us, ?_, (h2.append (repPL_map hρ _)).append h3⟩
        have ha : (vs.toArray ++ c.args.map ρ) ++ us.toArray = (vs ++ c.args.toList.map ρ ++ us).toArray := by apply Array.ext'; simp
        simp only [execOp, hc, resolve, hfo, e, Deferred.ofValue, Sem.run_bind, Sem.run_pure, Result.andThen_ok, invoke]
        rw [ha, he.run]
      · cases h
    · cases h
  · cases h

section
variable {P : Program} {Q : AEx → St → Prop} {st : St} {l rest : List Oper} {o : Oper}
theorem AL.call {nt : Nat} {env : List (Nat × PV)} {bs : List (Loc × Obj)} {f : FuncId} {ps : List PV} {par : List Obj} {R : AOut → List Obj → Prop} (js ex : List Loc) (hg : guardV l env o.guard = some true) (hc : callOf env o.op = some (f, ps))
    (hd : (distinct (js ++ ex) && locsOnly ex) = true) (hin : winIn js bs js = some par) (hf : fits nt o.dst = true) (h : AF P f (renL js ps) par R)
    (hlen : ∀ out par', R out par' → par'.length = (js ++ ex).length)
    (hret : ∀ p par', R (.ret p) par' → AL P l.toArray rest Q ⟨nt, put (sanE (moved bs js ++ ex) env) o.dst (unren (js ++ ex) p), outBoxes (js ++ ex) (moved bs js ++ ex) par' bs⟩)
    (hpanic : ∀ x par', R (.panic x) par' → Q (.panic x) ⟨nt, sanE (moved bs js ++ ex) env, outBoxes (js ++ ex) (moved bs js ++ ex) par' bs⟩) : AL P l.toArray (o :: rest) Q ⟨nt, env, bs⟩ := by
  intro g tmps ds w hr
  simp only [Bool.and_eq_true] at hd
  obtain ⟨vs, h1, h2⟩ := callOf_run (P := P) (opnd_rep hr ds) hc h.enters w
  simp only [wpList]
  rw [if_pos (guardV_wanted hr hg)]
  refine .inl ?_
  unfold Oper.wp
  rw [h1]
  simp only [Oper.upon]
  have hd' : distinct js = true := by
    have h0 := hd.1
    clear hret hpanic hlen hin h hc h2 hr
    induction js with
    | nil => rfl
    | cons a r ih =>
      simp only [List.cons_append, distinct, Bool.and_eq_true, Bool.not_eq_true', List.any_eq_false, List.mem_append] at h0 ⊢
      exact ⟨fun x hx => h0.1 x (.inl hx), ih ⟨h0.2, hd.2⟩ h0.2⟩
  have hfx : ∀ i, par.length ≤ i → (g.win js).fx (.par i) = false := by
    intro i hi
    have : js[i]? = none := by rw [List.getElem?_eq_none_iff, ← (winIn_get hin).1]; exact hi
    simp [Gh.win, this]
  refine (h.calls (g.win js) w vs hfx (renL_rep _ _ h2) (hr.mem.win hd' hin)).mono ?_
  rintro e w' ⟨out, par', g', hlen', hp⟩
  obtain ⟨hrel, hx, hun⟩ := call_back hr hd.1 hd.2 hin (hlen _ _ hp.holds) hp
  have hO := hp.outs
  have hR := hp.holds
  cases out with
  | ret p =>
    obtain ⟨v, rfl, hv⟩ := hO
    simp only []
    rw [put_eta]
    exact wpList_mono (fun _ _ _ hl => lift_from hx hl) _ _ _ (hret p par' hR _ _ ds w' (hrel.put o.dst hf _ v (hun p v hv) ds))
  | panic x =>
    obtain ⟨v, rfl, hv⟩ := hO
    simp only []
    exact ⟨x, _, g.back g' w.heap.size (js ++ ex), v, rfl, hv, hpanic x par' hR, hrel.mem, hx, rfl⟩
end
end Go.Pv
