/- Part of the proofs over this seat: R4. -/
import Derived.Test.YteohopnpcanfpaaGreatDoorZLe
import Derived.Test.YteohopnpcanfpaaGreatDoorZMc
set_option maxRecDepth 100000
namespace Go.Pv
open Go.RowKit Go.Proofs Go.ChangeShapes Go.WideShapes

/-! ### Tables and operations, out of their readings -/
structure RsW (l : List Rw) : Prop where
  n : l.length ≤ maxLen
  rows : ∀ r, r ∈ l → VsW r
structure TtW (l : List (List Rw)) : Prop where
  n : l.length ≤ maxLen
  tabs : ∀ r, r ∈ l → RsW r
structure OpW (o : Opn) : Prop where
  kind : 0 ≤ o.kind ∧ o.kind ≤ 255
  n : I64 o.n
  row : VsW o.row
structure OsW (l : List Opn) : Prop where
  n : l.length ≤ maxLen
  ops : ∀ o, o ∈ l → OpW o
theorem wideM {S : List Tb} {c : Ch} {tabs : List (List Rw)} {ops : List Opn} (h0 : TsW S) (h1 : ChW c) (h2 : TtW tabs) (h3 : OsW ops) : WideM S c tabs ops :=
  ⟨h0.wide, h1.name, h2.n, fun r hr x hx => ((h2.tabs r hr).rows x hx).n, fun o ho => (h3.ops o ho).row.n⟩
theorem uz58 : Tryz.prog.underlying 58 = some (.slice 79) := by kernel_rfl
theorem uz59 : Tryz.prog.underlying 59 = some (.slice 68) := by kernel_rfl
theorem uz79 : Tryz.prog.underlying 79 = some (.slice 29) := by kernel_rfl
theorem uz5 : Tryz.prog.underlying 5 = some (.int .u8) := by kernel_rfl
theorem uz4 : Tryz.prog.underlying 4 = some .bool := by kernel_rfl
theorem cz5 : Tryz.prog.cellsOf 5 = 1 := by kernel_rfl
theorem cz29 : Tryz.prog.cellsOf 29 = 1 := by kernel_rfl
theorem cz68 : Tryz.prog.cellsOf 68 = 3 := by kernel_rfl
theorem cz79 : Tryz.prog.cellsOf 79 = 1 := by kernel_rfl
section
variable {H : Type} {enc : TypeId × Value → H} {w : World} {sp : Nat → Bool} {held : Bool} {cs : List Value}
theorem cells1 {v : Value} (h : v.oneCell' = true) : v.cells.toList = [v] := by rw [one_cells h]
theorem Tr.byte {t : Nat} (h : Tr enc w sp held t cs) (ht : Tryz.prog.underlying t = some (.int .u8)) : ∃ n, cs = [.int .u8 n] ∧ (0 ≤ n ∧ n ≤ 255) := by
  obtain ⟨n, x, h⟩ := h
  obtain ⟨m, e, _, hw⟩ := DataW.trod_int ht h
  refine ⟨m, e, ?_⟩
  have e1 : IntKind.u8.min = 0 := rfl
  have e2 : IntKind.u8.max = 255 := rfl
  simp only [Lit.wf, Bool.and_eq_true, decide_eq_true_eq, e1, e2] at hw
  exact hw
theorem Tr.rows (h : Tr enc w sp held 79 cs) : ∃ (l : List Rw) (v : Value), cs = [v] ∧ v.oneCell' = true ∧ RsW l ∧ RepD (allC w) (eRs l) v := by
  obtain ⟨l, v, h1, h2, h3, h4, h5⟩ := h.sl (α := Rw) eVs VsW uz79 cz29 (by omega) (fun cs hc => by
    obtain ⟨l, v, rfl, o1, w1, r1⟩ := hc.vals
    exact ⟨l, v, w1, r1, cells1 o1⟩)
  exact ⟨l, v, h1, h2, ⟨h4, h3⟩, h5⟩
theorem Tr.tables (h : Tr enc w sp held 58 cs) : ∃ (l : List (List Rw)) (v : Value), cs = [v] ∧ v.oneCell' = true ∧ TtW l ∧ RepD (allC w) (eTt l) v := by
  obtain ⟨l, v, h1, h2, h3, h4, h5⟩ := h.sl (α := List Rw) eRs RsW uz58 cz79 (by omega) (fun cs hc => by
    obtain ⟨l, v, rfl, o1, w1, r1⟩ := hc.rows
    exact ⟨l, v, w1, r1, cells1 o1⟩)
  exact ⟨l, v, h1, h2, ⟨h4, h3⟩, h5⟩
theorem Tr.op (h : Tr enc w sp held 68 cs) : ∃ (o : Opn) (u : Value), OpW o ∧ RepD (allC w) (eO o) u ∧ u.cells.toList = cs := by
  obtain ⟨hl, hf⟩ := h.st (i := _) rfl rfl
  rw [cz68] at hl
  obtain ⟨a, b, c, rfl⟩ : ∃ a b c, cs = [a, b, c] := by
    match cs, hl with
    | [a, b, c], _ => exact ⟨a, b, c, rfl⟩
  obtain ⟨n0, h0, w0⟩ := (hf 0 0 5 rfl).byte uz5
  obtain ⟨n1, h1, w1⟩ := (hf 1 1 3 rfl).int uz3
  obtain ⟨l2, v2, h2, o2, w2, r2⟩ := (hf 2 2 29 rfl).vals
  rw [cz5] at h0
  rw [cz3] at h1
  rw [cz29] at h2
  simp at h0 h1 h2
  subst h0 h1 h2
  exact ⟨⟨n0, n1, l2⟩, .agg #[.int .u8 n0, .int .i64 n1, c], ⟨w0, w1, w2⟩, ⟨_, rfl, repL_cons rfl ⟨rfl, rfl⟩ (repL_cons rfl (rep_int _ _) (repL_cons o2 r2 (repL_nil _)))⟩, rfl⟩
theorem Tr.ops (h : Tr enc w sp held 59 cs) : ∃ (l : List Opn) (v : Value), cs = [v] ∧ v.oneCell' = true ∧ OsW l ∧ RepD (allC w) (eOs l) v := by
  obtain ⟨l, v, h1, h2, h3, h4, h5⟩ := h.sl eO OpW uz59 cz68 (by omega) (fun cs hc => hc.op)
  exact ⟨l, v, h1, h2, ⟨h4, h3⟩, h5⟩
end
section
variable {H : Type} {enc : TypeId × Value → H} {W : World} {base : Nat} {v : Value} {d : DataW H} {p : List MemPlace} {sp : Nat → Bool} {held : Bool}
theorem arg_tabs (hv : Value.okWide Tryz.prog W .any base 58 v) (h : DataW.Trod enc Tryz.prog W 0 sp held 58 v d p) : ∃ l : List (List Rw), TtW l ∧ RepD (allC W) (eTt l) v := by
  obtain ⟨a, n, c, rfl⟩ := okWide_slice uz58 hv
  obtain ⟨l, u, e, _, w, r⟩ := (Tr.of h).tables
  have : Value.slice a n c = u := by simpa [Value.cells] using e
  exact ⟨l, w, by rw [this]; exact r⟩
theorem arg_ops (hv : Value.okWide Tryz.prog W .any base 59 v) (h : DataW.Trod enc Tryz.prog W 0 sp held 59 v d p) : ∃ l : List Opn, OsW l ∧ RepD (allC W) (eOs l) v := by
  obtain ⟨a, n, c, rfl⟩ := okWide_slice uz59 hv
  obtain ⟨l, u, e, _, w, r⟩ := (Tr.of h).ops
  have : Value.slice a n c = u := by simpa [Value.cells] using e
  exact ⟨l, w, by rw [this]; exact r⟩
theorem arg_bool (hv : Value.okWide Tryz.prog W .any base 4 v) (_ : DataW.Trod enc Tryz.prog W 0 sp held 4 v d p) : ∃ b : Bool, True ∧ RepD (allC W) (.lit (.bool b)) v := by
  obtain ⟨b, rfl⟩ := okWide_bool uz4 hv
  exact ⟨b, trivial, rfl, rfl⟩
end
end Go.Pv
