/- Part of the proofs over this seat: Ty Ty2 Pv46. -/
import Derived.Test.YteohopnpcanfpaaGreatDoorZKc
import Derived.Test.YteohopnpcanfpaaGreatDoorProg
import Derived.Test.YteohopnpcanfpaaGreatDoorZKb
import Derived.Test.YteohopnpcanfpaaGreatDoorZKd
set_option maxRecDepth 100000
namespace Go.Pv
open Go.RowKit Go.Proofs
def z0 : Value := .int .i64 0
def zs : Value := .string ⟨#[]⟩
def zn : Value := .slice none 0 0
/-- The types of the seat that the code touches. -/
def T : Tab := [(3, ⟨.int .i64, 1, 8, z0⟩), (4, ⟨.bool, 1, 1, .bool false⟩), (5, ⟨.int .u8, 1, 1, .int .u8 0⟩), (9, ⟨.str, 1, 16, zs⟩), (22, ⟨.sl 44, 1, 24, zn⟩), (24, ⟨.st [(0, 22)], 1, 24, .agg #[zn]⟩),
  (26, ⟨.st [(0, 3), (1, 3), (2, 9)], 3, 32, .agg #[z0, z0, zs]⟩), (28, ⟨.st [(0, 3), (1, 9), (2, 9), (3, 9), (4, 3), (5, 26)], 8, 96, .agg #[z0, zs, zs, zs, z0, z0, z0, zs]⟩), (29, ⟨.sl 26, 1, 24, zn⟩),
  (32, ⟨.int .i64, 1, 8, z0⟩), (41, ⟨.sl 53, 1, 24, zn⟩), (42, ⟨.sl 3, 1, 24, zn⟩), (44, ⟨.st [(0, 9), (1, 41), (2, 42)], 3, 64, .agg #[zs, zn, zn]⟩), (51, ⟨.sl 9, 1, 24, zn⟩), (53, ⟨.st [(0, 9), (1, 3), (2, 51), (3, 26)], 6, 80, .agg #[zs, z0, zn, z0, z0, zs]⟩),
  (84, ⟨.fn, 1, 8, .nilFunc⟩), (85, ⟨.fn, 1, 8, .nilFunc⟩), (86, ⟨.fn, 1, 8, .nilFunc⟩), (88, ⟨.st [(0, 4), (1, 84), (2, 85), (3, 86)], 4, 32, .agg #[.bool false, .nilFunc, .nilFunc, .nilFunc]⟩), (92, ⟨.ptr 44, 1, 8, .pointer none⟩),
  (58, ⟨.sl 79, 1, 24, zn⟩), (59, ⟨.sl 68, 1, 24, zn⟩), (61, ⟨.ptr 118, 1, 8, .pointer none⟩), (64, ⟨.ptr 120, 1, 8, .pointer none⟩), (68, ⟨.st [(0, 5), (1, 3), (2, 29)], 3, 40, .agg #[.int .u8 0, z0, zn]⟩), (79, ⟨.sl 29, 1, 24, zn⟩), (116, ⟨.fn, 1, 8, .nilFunc⟩),
  (118, ⟨.st [(0, 24), (1, 24), (2, 3), (3, 58), (4, 79), (5, 116), (6, 4), (7, 4)], 8, 120, .agg #[zn, zn, z0, zn, zn, .nilFunc, .bool false, .bool false]⟩),
  (120, ⟨.st [(0, 24), (1, 28), (9, 24), (10, 3), (11, 58), (12, 79), (13, 4), (14, 4)], 15, 208, .agg #[zn, z0, zs, zs, zs, z0, z0, z0, zs, zn, z0, zn, zn, .bool false, .bool false]⟩), (185, ⟨.int .u64, 1, 8, .int .u64 0⟩)]
theorem tabOK_of {P : Program} {T : Tab} (h : ∀ x ∈ T, (P.underlying x.1).map tkOf = some x.2.tk ∧ (P.info? x.1).map (fun i => (i.size, i.bytes, i.zero)) = some (x.2.size, x.2.bytes, some x.2.zero)) : TabOK P T := by
  intro t i hi
  induction T with
  | nil => simp [tyAt] at hi
  | cons x r ih =>
    obtain ⟨t', i'⟩ := x
    simp only [tyAt] at hi
    cases hb : Nat.beq t' t with
    | true =>
      have e := Nat.eq_of_beq_eq_true hb
      subst e
      rw [hb] at hi
      simp at hi
      subst hi
      exact h (t', i') (by simp)
    | false => rw [hb] at hi; exact ih (fun x hx => h x (by simp [hx])) hi
theorem hT : TabOK Tryz.prog T := tabOK_of (by
  intro x hx
  simp only [T, List.mem_cons, List.mem_nil_iff, or_false] at hx
  rcases hx with rfl | rfl | rfl | rfl | rfl | rfl | rfl | rfl | rfl | rfl | rfl | rfl | rfl | rfl | rfl | rfl | rfl | rfl | rfl | rfl | rfl | rfl | rfl | rfl | rfl | rfl | rfl | rfl | rfl | rfl <;> exact ⟨by kernel_rfl, by kernel_rfl⟩)

/-! What the program's data are -/
abbrev Bs := ByteArray
instance : Inhabited Bs := ⟨⟨#[]⟩⟩
structure Vl where
  kind : Int
  n : Int
  text : Bs
instance : Inhabited Vl := ⟨⟨0, 0, ⟨#[]⟩⟩⟩
structure At where
  name : Bs
  kind : Int
  was : List Bs
  dflt : Vl
instance : Inhabited At := ⟨⟨⟨#[]⟩, 0, [], default⟩⟩
structure Tb where
  name : Bs
  attrs : List At
  key : List Int
structure Ch where
  kind : Int
  table : Bs
  attr : Bs
  name : Bs
  to : Int
  dflt : Vl
instance : Inhabited Tb := ⟨⟨⟨#[]⟩, [], []⟩⟩
def eS (s : Bs) : D := .lit (.string s)
def eI (n : Int) : D := .lit (.int .i64 n)
def eV (v : Vl) : D := .agg [eI v.kind, eI v.n, eS v.text]
def eSs (l : List Bs) : D := .sl 1 l.length (fun i => eS (l.getD i default))
def eIs (l : List Int) : D := .sl 1 l.length (fun i => eI (l.getD i 0))
def eA (a : At) : D := .agg [eS a.name, eI a.kind, eSs a.was, eI a.dflt.kind, eI a.dflt.n, eS a.dflt.text]
def eC (c : Ch) : D := .agg [eI c.kind, eS c.table, eS c.attr, eS c.name, eI c.to, eI c.dflt.kind, eI c.dflt.n, eS c.dflt.text]
def eAs (l : List At) : D := .sl 6 l.length (fun i => eA (l.getD i default))
def eT (t : Tb) : D := .agg [eS t.name, eAs t.attrs, eIs t.key]
def eTs (l : List Tb) : D := .sl 3 l.length (fun i => eT (l.getD i default))
end Go.Pv
namespace Go.Pv
open Go.RowKit Go.Proofs

/-- Comparisons of the seat: bool, Value, Change. -/
def E0 : EqTab := fun t x y => match t, x, y with
  | 4, .lit (.bool a), .lit (.bool b) => some (a == b)
  | 26, .agg [.lit (.int .i64 a), .lit (.int .i64 b), .lit (.string c)], .agg [.lit (.int .i64 a'), .lit (.int .i64 b'), .lit (.string c')] => some (a == a' && (b == b' && c.toList == c'.toList))
  | 28, .agg [.lit (.int .i64 a), .lit (.string b), .lit (.string c), .lit (.string d), .lit (.int .i64 e), .lit (.int .i64 f), .lit (.int .i64 g), .lit (.string h)],
      .agg [.lit (.int .i64 a'), .lit (.string b'), .lit (.string c'), .lit (.string d'), .lit (.int .i64 e'), .lit (.int .i64 f'), .lit (.int .i64 g'), .lit (.string h')] =>
    some (a == a' && (b.toList == b'.toList && (c.toList == c'.toList && (d.toList == d'.toList && (e == e' && (f == f' && (g == g' && h.toList == h'.toList)))))))
  | _, _, _ => none

theorem eq26 (d : Nat) (a b a' b' : Int) (c c' : Bs) (w : World) : (Op.equalIn (d + 2) 26 (.agg #[.int .i64 a, .int .i64 b, .string c]) (.agg #[.int .i64 a', .int .i64 b', .string c'])).run Tryz.prog w = .ok (a == a' && (b == b' && c.toList == c'.toList)) w := by
  have hf : Tryz.prog.fieldsOf 26 = #[{ name := "Kind", type := 3, offset := 0, embedded := false, tag := "", pkgPath := "", byteOffset := 0 }, { name := "N", type := 3, offset := 1, embedded := false, tag := "", pkgPath := "", byteOffset := 8 }, { name := "Text", type := 9, offset := 2, embedded := false, tag := "", pkgPath := "", byteOffset := 16 }] := by
    unfold Program.fieldsOf; rw [Tryz.underlying26]
  have h3 := (hT.und (t := 3) rfl)
  have h9 := (hT.und (t := 9) rfl)
  obtain ⟨d3, u3, k3⟩ := h3
  obtain ⟨d9, u9, k9⟩ := h9
  have a3 : ∀ w, (isAgg 3).run Tryz.prog w = .ok false w := fun w => hT.run_isAgg (t := 3) rfl w
  have a9 : ∀ w, (isAgg 9).run Tryz.prog w = .ok false w := fun w => hT.run_isAgg (t := 9) rfl w
  cases d3 <;> simp only [tkOf, reduceCtorEq, TK.int.injEq] at k3
  cases d9 <;> simp only [tkOf, reduceCtorEq] at k9
  rw [run_equalIn_agg w (d + 1) 26 _ _ (by rw [hf]; exact Tryz.underlying26) (by kernel_rfl), hf]
  have e3 : ∀ (x y : Int) (w : World), (Op.equalIn (d + 1) 3 (.int .i64 x) (.int .i64 y)).run Tryz.prog w = .ok (x == y) w := fun x y w => run_equalIn_int w d 3 _ _ x y u3
  have e9 : ∀ (x y : Bs) (w : World), (Op.equalIn (d + 1) 9 (.string x) (.string y)).run Tryz.prog w = .ok (x.toList == y.toList) w := fun x y w => run_equalIn_string w d 9 x y u9
  simp only [Op.eqFields, part]
  cases h1 : a == a' <;> cases h2 : b == b' <;> cases h4 : c.toList == c'.toList <;> simp [e3, e9, h1, h2, h4, a3, a9]
theorem eq28 (d0 : Nat) (a e f g a' e' f' g' : Int) (b c d h b' c' d' h' : Bs) (w : World) : (Op.equalIn (d0 + 4) 28 (.agg #[.int .i64 a, .string b, .string c, .string d, .int .i64 e, .int .i64 f, .int .i64 g, .string h])
    (.agg #[.int .i64 a', .string b', .string c', .string d', .int .i64 e', .int .i64 f', .int .i64 g', .string h'])).run Tryz.prog w =
    .ok (a == a' && (b.toList == b'.toList && (c.toList == c'.toList && (d.toList == d'.toList && (e == e' && (f == f' && (g == g' && h.toList == h'.toList))))))) w := by
  have hf : Tryz.prog.fieldsOf 28 = #[{ name := "Kind", type := 3, offset := 0, embedded := false, tag := "", pkgPath := "", byteOffset := 0 },
        { name := "Table", type := 9, offset := 1, embedded := false, tag := "", pkgPath := "", byteOffset := 8 },
        { name := "Attr", type := 9, offset := 2, embedded := false, tag := "", pkgPath := "", byteOffset := 24 },
        { name := "Name", type := 9, offset := 3, embedded := false, tag := "", pkgPath := "", byteOffset := 40 },
        { name := "To", type := 3, offset := 4, embedded := false, tag := "", pkgPath := "", byteOffset := 56 },
        { name := "Default", type := 26, offset := 5, embedded := false, tag := "", pkgPath := "", byteOffset := 64 }] := by
    unfold Program.fieldsOf; rw [Tryz.underlying28]
  obtain ⟨d3, u3, k3⟩ := hT.und (t := 3) rfl
  obtain ⟨d9, u9, k9⟩ := hT.und (t := 9) rfl
  have a3 : ∀ w, (isAgg 3).run Tryz.prog w = .ok false w := fun w => hT.run_isAgg (t := 3) rfl w
  have a9 : ∀ w, (isAgg 9).run Tryz.prog w = .ok false w := fun w => hT.run_isAgg (t := 9) rfl w
  have a26 : ∀ w, (isAgg 26).run Tryz.prog w = .ok true w := fun w => hT.run_isAgg (t := 26) rfl w
  have s26 : ∀ w, (sizeOf 26).run Tryz.prog w = .ok 3 w := fun w => hT.run_size (t := 26) rfl w
  cases d3 <;> simp only [tkOf, reduceCtorEq, TK.int.injEq] at k3
  cases d9 <;> simp only [tkOf, reduceCtorEq] at k9
  rw [run_equalIn_agg w (d0 + 3) 28 _ _ (by rw [hf]; exact Tryz.underlying28) (by kernel_rfl), hf]
  have e3 : ∀ (x y : Int) (w : World), (Op.equalIn (d0 + 3) 3 (.int .i64 x) (.int .i64 y)).run Tryz.prog w = .ok (x == y) w := fun x y w => run_equalIn_int w (d0 + 2) 3 _ _ x y u3
  have e9 : ∀ (x y : Bs) (w : World), (Op.equalIn (d0 + 3) 9 (.string x) (.string y)).run Tryz.prog w = .ok (x.toList == y.toList) w := fun x y w => run_equalIn_string w (d0 + 2) 9 x y u9
  have e26 := eq26 (d0 + 1) f g f' g' h h'
  simp only [Op.eqFields, part]
  have e26' := e26
  generalize (f == f' && (g == g' && h.toList == h'.toList)) = z at *
  cases h1 : a == a' with
  | false => simp [e3, e9, e26', a3, a9, a26, s26, h1]
  | true =>
    cases h2 : b.toList == b'.toList with
    | false => simp [e3, e9, e26', a3, a9, a26, s26, h1, h2]
    | true =>
      cases h3 : c.toList == c'.toList with
      | false => simp [e3, e9, e26', a3, a9, a26, s26, h1, h2, h3]
      | true =>
        cases h4 : d.toList == d'.toList with
        | false => simp [e3, e9, e26', a3, a9, a26, s26, h1, h2, h3, h4]
        | true =>
          cases h5 : e == e' with
          | false => simp [e3, e9, e26', a3, a9, a26, s26, h1, h2, h3, h4, h5]
          | true =>
            cases z <;> simp [e3, e9, e26', a3, a9, a26, s26, h1, h2, h3, h4, h5]
theorem hE : EqOK Tryz.prog E0 := by
  intro t x y b h π v u hv hu w xo yo
  unfold E0 at h
  split at h
  · simp only [Option.some.injEq] at h
    subst h
    obtain ⟨rfl, _⟩ := hv
    obtain ⟨rfl, _⟩ := hu
    obtain ⟨d4, u4, k4⟩ := hT.und (t := 4) rfl
    cases d4 <;> simp only [tkOf, reduceCtorEq] at k4
    constructor <;> simp [eqGuard, binOp, Op.equal, Op.maxDepth, run_equalIn_bool' w 9999 4 _ _ u4]
  · simp only [Option.some.injEq] at h
    subst h
    obtain ⟨vs, rfl, v1, r1, rfl, _, ⟨rfl, _⟩, v2, r2, rfl, _, ⟨rfl, _⟩, v3, r3, rfl, _, ⟨rfl, _⟩, rfl⟩ := hv
    obtain ⟨us, rfl, u1, s1, rfl, _, ⟨rfl, _⟩, u2, s2, rfl, _, ⟨rfl, _⟩, u3, s3, rfl, _, ⟨rfl, _⟩, rfl⟩ := hu
    have hg : Tryz.prog.eqGuardType Tryz.prog.depth 26 = false := by kernel_rfl
    constructor
    · rw [Sem.run_bind, run_eqGuard_agg w .eql 26 xo yo _ _ hg, Result.andThen_ok, run_eql_struct, eq26 9998]; rfl
    · rw [Sem.run_bind, run_eqGuard_agg w .neq 26 xo yo _ _ hg, Result.andThen_ok, run_neq_struct, eq26 9998]; rfl
  · simp only [Option.some.injEq] at h
    subst h
    obtain ⟨vs, rfl, v1, r1, rfl, _, ⟨rfl, _⟩, v2, r2, rfl, _, ⟨rfl, _⟩, v3, r3, rfl, _, ⟨rfl, _⟩, v4, r4, rfl, _, ⟨rfl, _⟩, v5, r5, rfl, _, ⟨rfl, _⟩, v6, r6, rfl, _, ⟨rfl, _⟩, v7, r7, rfl, _, ⟨rfl, _⟩, v8, r8, rfl, _, ⟨rfl, _⟩, rfl⟩ := hv
    obtain ⟨us, rfl, u1, s1, rfl, _, ⟨rfl, _⟩, u2, s2, rfl, _, ⟨rfl, _⟩, u3, s3, rfl, _, ⟨rfl, _⟩, u4, s4, rfl, _, ⟨rfl, _⟩, u5, s5, rfl, _, ⟨rfl, _⟩, u6, s6, rfl, _, ⟨rfl, _⟩, u7, s7, rfl, _, ⟨rfl, _⟩, u8, s8, rfl, _, ⟨rfl, _⟩, rfl⟩ := hu
    have hg : Tryz.prog.eqGuardType Tryz.prog.depth 28 = false := by kernel_rfl
    constructor
    · rw [Sem.run_bind, run_eqGuard_agg w .eql 28 xo yo _ _ hg, Result.andThen_ok, run_eql_struct, eq28 9996]; rfl
    · rw [Sem.run_bind, run_eqGuard_agg w .neq 28 xo yo _ _ hg, Result.andThen_ok, run_neq_struct, eq28 9996]; rfl
  · cases h
end Go.Pv
namespace Go.Pv
open Go.RowKit Go.Proofs

/-! ### The steps of a walk over this seat's program, with their side conditions found -/
section
variable {l rest : List Oper} {nt : Nat} {o : Oper} {X : List (Nat × PV)} {BX BX' : List (Loc × Obj)} {p q q' : PV} {φ : Prop} {γ cc : Bool} {d : Nat} {Q : AEx → St → Prop} {env0 : List (Nat × PV)} {bs0 : List (Loc × Obj)} {es : List Eff} {f : FuncId} {ps : List PV}
  {t : TypeId} {a x : Operand} {lo : Loc} {off : Nat} {j : TI} {xs cs cs' : List PV} {e : TypeId}
theorem wA0 (hg : o.guard = none) (he : evM T E0 (keepEnv X (looks l o)) (keepBoxes BX (topsM X o.op)) o.op = some (p, φ)) (hdst : o.dst = some d) (hd : Nat.blt d nt = true)
    (h : AL Tryz.prog l.toArray rest Q ⟨nt, (d, p) :: X, BX⟩) (hφ : φ := by first | exact trivial | exact fun h => h | (intro h; simp at h ⊢ <;> exact h) | omega | (simp; done) | (simp_all; done) | grind) : AL Tryz.prog l.toArray (o :: rest) Q ⟨nt, X, BX⟩ := AL.m0 hT hE hg he hφ hdst hd h
theorem wA1 (hg : guardC l (keepEnv X (looks l o)) o.guard = some γ) (hgs : o.guard.isSome = true) (he : evM T E0 (keepEnv X (looks l o)) (keepBoxes BX (topsM X o.op)) o.op = some (p, φ)) (hdst : o.dst = some d) (hd : Nat.blt d nt = true)
    (h : AL Tryz.prog l.toArray rest Q ⟨nt, (d, .cond γ p) :: X, BX⟩) (hφ : γ = true → φ := by first | exact fun _ => trivial | exact fun h => ⟨trivial, h⟩ | exact fun _ h => h | exact fun h => h | exact fun _ => rfl | (intro hγ; (try simp only [Bool.and_eq_true, Bool.not_eq_true'] at hγ); simp only [hγ, Bool.true_and, Bool.not_true, Bool.not_false, cond_true, cond_false, imp_self, and_self, implies_true, true_and, and_true, Bool.not_eq_true', Bool.and_eq_true]; done) | (intro hγ; simp at hγ ⊢; done) | (intro hγ; simp only [Bool.and_eq_true, Bool.not_eq_true', Bool.not_eq_false', Bool.not_not, Bool.not_true, Bool.not_false] at hγ ⊢; simp only [hγ, and_self, and_true, true_and]; first | done | omega) | (intro hγ; simp at hγ ⊢; simp [hγ]; done) | (intro hγ; simp_all; done) | grind) : AL Tryz.prog l.toArray (o :: rest) Q ⟨nt, X, BX⟩ := AL.m1 hT hE hg hgs he hφ hdst hd h
theorem wG0 (hg : o.guard = none) (he : evM T E0 (keepEnv X (looks l o)) (keepBoxes BX (topsM X o.op)) o.op = some (p, φ)) (hdst : o.dst = some d) (hd : Nat.blt d nt = true)
    (h : DG Tryz.prog l Q nt env0 bs0 rest (es ++ [⟨p, topsM X o.op, [], []⟩]) ((d, p) :: X) BX) (hφ : φ := by first | exact trivial | exact fun h => h | (intro h; simp at h ⊢ <;> exact h) | omega | (simp; done) | (simp_all; done) | grind) : DG Tryz.prog l Q nt env0 bs0 (o :: rest) es X BX := DG.m0 hT hE hg he hφ hdst hd h
theorem wG1 (hg : guardC l (keepEnv X (looks l o)) o.guard = some γ) (hgs : o.guard.isSome = true) (he : evM T E0 (keepEnv X (looks l o)) (keepBoxes BX (topsM X o.op)) o.op = some (p, φ)) (hdst : o.dst = some d) (hd : Nat.blt d nt = true)
    (h : DG Tryz.prog l Q nt env0 bs0 rest (es ++ [⟨.cond γ p, topsM X o.op, [], []⟩]) ((d, .cond γ p) :: X) BX) (hφ : γ = true → φ := by first | exact fun _ => trivial | exact fun h => ⟨trivial, h⟩ | exact fun _ h => h | exact fun h => h | exact fun _ => rfl | (intro hγ; (try simp only [Bool.and_eq_true, Bool.not_eq_true'] at hγ); simp only [hγ, Bool.true_and, Bool.not_true, Bool.not_false, cond_true, cond_false, imp_self, and_self, implies_true, true_and, and_true, Bool.not_eq_true', Bool.and_eq_true]; done) | (intro hγ; simp at hγ ⊢; done) | (intro hγ; simp only [Bool.and_eq_true, Bool.not_eq_true', Bool.not_eq_false', Bool.not_not, Bool.not_true, Bool.not_false] at hγ ⊢; simp only [hγ, and_self, and_true, true_and]; first | done | omega) | (intro hγ; simp at hγ ⊢; simp [hγ]; done) | (intro hγ; simp_all; done) | grind) : DG Tryz.prog l Q nt env0 bs0 (o :: rest) es X BX := DG.m1 hT hE hg hgs he hφ hdst hd h
theorem kA1 (hg : guardC l (keepEnv X (looks l o)) o.guard = some γ) (hgs : o.guard.isSome = true) (hc : callOf (uncE (keepEnv X (looks l o)) (opSlots o.op)) o.op = some (f, ps)) (hco : cndS (keepEnv X (looks l o)) (opSlots o.op) = some cc)
    (h0 : γ = true → AF Tryz.prog f (renL [] ps) [] (fun out par' => out = .ret q ∧ par' = [])) (hq : nf1 (unren [] q) = some q') (hdst : o.dst = some d) (hd : Nat.blt d nt = true)
    (h : AL Tryz.prog l.toArray rest Q ⟨nt, (d, .cond γ q') :: X, BX⟩) (hcn : γ = true → cc = true := by first | exact fun _ => trivial | exact fun h => ⟨trivial, h⟩ | exact fun _ h => h | exact fun h => h | exact fun _ => rfl | (intro hγ; (try simp only [Bool.and_eq_true, Bool.not_eq_true'] at hγ); simp only [hγ, Bool.true_and, Bool.not_true, Bool.not_false, cond_true, cond_false, imp_self, and_self, implies_true, true_and, and_true, Bool.not_eq_true', Bool.and_eq_true]; done) | (intro hγ; simp at hγ ⊢; done) | (intro hγ; simp only [Bool.and_eq_true, Bool.not_eq_true', Bool.not_eq_false', Bool.not_not, Bool.not_true, Bool.not_false] at hγ ⊢; simp only [hγ, and_self, and_true, true_and]; first | done | omega) | (intro hγ; simp at hγ ⊢; simp [hγ]; done) | (intro hγ; simp_all; done) | grind) : AL Tryz.prog l.toArray (o :: rest) Q ⟨nt, X, BX⟩ := AL.call1 hg hgs hc hco hcn h0 hq hdst hd h
theorem kG1 (hg : guardC l (keepEnv X (looks l o)) o.guard = some γ) (hgs : o.guard.isSome = true) (hc : callOf (uncE (keepEnv X (looks l o)) (opSlots o.op)) o.op = some (f, ps)) (hco : cndS (keepEnv X (looks l o)) (opSlots o.op) = some cc)
    (h0 : γ = true → AF Tryz.prog f (renL [] ps) [] (fun out par' => out = .ret q ∧ par' = [])) (hq : nf1 (unren [] q) = some q') (hdst : o.dst = some d) (hd : Nat.blt d nt = true)
    (h : DG Tryz.prog l Q nt env0 bs0 rest (es ++ [⟨.cond γ q', [], [], []⟩]) ((d, .cond γ q') :: X) BX) (hcn : γ = true → cc = true := by first | exact fun _ => trivial | exact fun h => ⟨trivial, h⟩ | exact fun _ h => h | exact fun h => h | exact fun _ => rfl | (intro hγ; (try simp only [Bool.and_eq_true, Bool.not_eq_true'] at hγ); simp only [hγ, Bool.true_and, Bool.not_true, Bool.not_false, cond_true, cond_false, imp_self, and_self, implies_true, true_and, and_true, Bool.not_eq_true', Bool.and_eq_true]; done) | (intro hγ; simp at hγ ⊢; done) | (intro hγ; simp only [Bool.and_eq_true, Bool.not_eq_true', Bool.not_eq_false', Bool.not_not, Bool.not_true, Bool.not_false] at hγ ⊢; simp only [hγ, and_self, and_true, true_and]; first | done | omega) | (intro hγ; simp at hγ ⊢; simp [hγ]; done) | (intro hγ; simp_all; done) | grind) : DG Tryz.prog l Q nt env0 bs0 (o :: rest) es X BX := DG.call1 hg hgs hc hco hcn h0 hq hdst hd h
theorem sA (hg : guardV l (keepEnv X (looks l o)) o.guard = some true) (hop : o.op = .store t a x) (htj : tyAt T t = some j) (ha : opnd (keepEnv X (looks l o)) a = .ptr lo off) (hx : cellsP (opnd (keepEnv X (looks l o)) x) = some xs) (hcs : objAt BX lo = some (.cells cs))
    (hb : (Nat.beq xs.length j.size && Nat.ble (off + xs.length) cs.length) = true) (hdst : o.dst = none) (hb' : nfB (setB BX [(lo, some (.cells (splice cs off xs)))]) = some BX')
    (h : AL Tryz.prog l.toArray rest Q ⟨nt, X, BX'⟩) : AL Tryz.prog l.toArray (o :: rest) Q ⟨nt, X, BX⟩ := AL.effS _ (VE.store hT hg hop htj ha hx hcs hb) hdst rfl hb' h
theorem sG (hg : guardV l (keepEnv X (looks l o)) o.guard = some true) (hop : o.op = .store t a x) (htj : tyAt T t = some j) (ha : opnd (keepEnv X (looks l o)) a = .ptr lo off) (hx : cellsP (opnd (keepEnv X (looks l o)) x) = some xs) (hcs : objAt BX lo = some (.cells cs))
    (hb : (Nat.beq xs.length j.size && Nat.ble (off + xs.length) cs.length) = true) (hdst : o.dst = none) (hb' : nfB (setB BX [(lo, some (.cells (splice cs off xs)))]) = some BX')
    (h : DG Tryz.prog l Q nt env0 bs0 rest (es ++ [⟨.any, [lo], [(lo, some (.cells (splice cs off xs)))], []⟩]) X BX') : DG Tryz.prog l Q nt env0 bs0 (o :: rest) es X BX := DG.effS _ (VE.store hT hg hop htj ha hx hcs hb) hdst hb' h
theorem bA (hg : o.guard = none) (hdst : o.dst = some d) (hc : newCells T X o.op = some (e, cs)) (hn : nfL cs = some cs') (hd : Nat.blt d nt = true) (hcl : (cleanE d X && cleanB d BX && cleanL d cs') = true)
    (h : AL Tryz.prog l.toArray rest Q ⟨nt, (d, .ptr (.loc d) 0) :: X, (.loc d, .cells cs') :: BX⟩) : AL Tryz.prog l.toArray (o :: rest) Q ⟨nt, X, BX⟩ := AL.boxN hT hg hdst hc hn hd hcl h
theorem bG (hg : o.guard = none) (hdst : o.dst = some d) (hd : Nat.blt d nt = true) (hc : newCells T (keepEnv X (looks l o)) o.op = some (e, cs)) (hn : nfL cs = some cs') (hcs : namesOKL (An [d]) cs' = true) (hb : nfB (setB BX [(.loc d, some (.cells cs'))]) = some BX')
    (h : DG Tryz.prog l Q nt env0 bs0 rest (es ++ [⟨.ptr (.loc d) 0, [.loc d], [(.loc d, some (.cells cs'))], [d]⟩]) ((d, .ptr (.loc d) 0) :: X) BX') : DG Tryz.prog l Q nt env0 bs0 (o :: rest) es X BX := DG.box hT hg hdst hd hc hn hcs hb h
theorem nG (h : Q .normal ⟨nt, X, BX⟩) (hO : effOk l es env0 bs0 = true := by kernel_rfl) : DG Tryz.prog l Q nt env0 bs0 [] es X BX := DG.nil hO h
end
theorem hmix : Tryz.prog.follows .mixedOrders = true := by kernel_rfl
theorem dW {l : List Oper} {nt : Nat} {env0 : List (Nat × PV)} {bs0 : List (Loc × Obj)} {id : Nat} {Q : AEx → St → Prop} (h : DG Tryz.prog l Q nt env0 bs0 l [] env0 bs0) : AW Tryz.prog (.region id l.toArray true) Q ⟨nt, env0, bs0⟩ := AW.drawnG hmix h
end Go.Pv
