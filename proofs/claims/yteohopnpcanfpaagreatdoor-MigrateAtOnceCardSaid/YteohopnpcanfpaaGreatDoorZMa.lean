/- Part of the proofs over this seat: R1. -/
import Derived.Test.YteohopnpcanfpaaGreatDoorZKe
import Derived.Handed
import Derived.Carry
import Derived.Stop.LaidErr
set_option maxRecDepth 100000
namespace Go.Pv
open Go.RowKit Go.Proofs Go.ChangeShapes

/-! ### What the reading of an argument gives -/
def I64 (n : Int) : Prop := -9223372036854775808 ≤ n ∧ n ≤ 9223372036854775807
structure VlW (v : Vl) : Prop where
  kind : I64 v.kind
  n : I64 v.n
  text : v.text.size ≤ maxLen
structure AtW (a : At) : Prop where
  name : a.name.size ≤ maxLen
  kind : I64 a.kind
  wasn : a.was.length ≤ maxLen
  was : ∀ s ∈ a.was, s.size ≤ maxLen
  dflt : VlW a.dflt
structure TbW (t : Tb) : Prop where
  name : t.name.size ≤ maxLen
  attrsn : t.attrs.length ≤ maxLen
  attrs : ∀ a ∈ t.attrs, AtW a
  keyn : t.key.length ≤ maxLen
  key : ∀ k ∈ t.key, I64 k
structure TsW (l : List Tb) : Prop where
  n : l.length ≤ maxLen
  tabs : ∀ t ∈ l, TbW t
structure ChW (c : Ch) : Prop where
  kind : I64 c.kind
  table : c.table.size ≤ maxLen
  attr : c.attr.size ≤ maxLen
  name : c.name.size ≤ maxLen
  to : I64 c.to
  dflt : VlW c.dflt
structure VsW (l : List Vl) : Prop where
  n : l.length ≤ maxLen
  vals : ∀ v ∈ l, VlW v

/-- All that lies in memory. -/
def allC (w : World) : Prom := fun b o => w.cell? ⟨b, o, none⟩

section
variable {H : Type} {enc : TypeId × Value → H} {w : World} {sp : Nat → Bool} {held : Bool} {t : Nat} {cs : List Value}
def Tr (enc : TypeId × Value → H) (w : World) (sp : Nat → Bool) (held : Bool) (t : TypeId) (cs : List Value) : Prop := ∃ n x, DataW.trod enc Tryz.prog w 0 sp held n t cs = some x
theorem Tr.of {v : Value} {d : DataW H} {ps : List MemPlace} (h : DataW.Trod enc Tryz.prog w 0 sp held t v d ps) : Tr enc w sp held t v.cells.toList := ⟨_, _, h.choose_spec⟩
theorem Tr.int (h : Tr enc w sp held t cs) (ht : Tryz.prog.underlying t = some (.int .i64)) : ∃ n, cs = [.int .i64 n] ∧ I64 n := by
  obtain ⟨n, x, h⟩ := h
  obtain ⟨m, e, _, hw⟩ := DataW.trod_int ht h
  refine ⟨m, e, ?_⟩
  have e1 : IntKind.i64.min = -9223372036854775808 := rfl
  have e2 : IntKind.i64.max = 9223372036854775807 := rfl
  simp only [Lit.wf, Bool.and_eq_true, decide_eq_true_eq, e1, e2] at hw
  exact hw
theorem Tr.str (h : Tr enc w sp held t cs) (ht : Tryz.prog.underlying t = some .string) : ∃ s : Bs, cs = [.string s] ∧ s.size ≤ maxLen := by
  obtain ⟨n, x, h⟩ := h
  obtain ⟨s, e, _, hs⟩ := DataW.trod_string ht h
  exact ⟨s, e, hs⟩
theorem Tr.st (h : Tr enc w sp held t cs) {i : TI} {fs : List (Nat × Nat)} (hi : tyAt T t = some i) (hs : i.tk = .st fs) : cs.length = Tryz.prog.cellsOf t ∧ ∀ (j off ty : Nat), fs[j]? = some (off, ty) → Tr enc w sp held ty ((cs.drop off).take (Tryz.prog.cellsOf ty)) := by
  obtain ⟨n, x, h⟩ := h
  obtain ⟨d, hd, hk⟩ := hT.und hi
  rw [hs] at hk
  cases d with
  | struct gs =>
    simp only [tkOf, TK.st.injEq] at hk
    obtain ⟨xs, m, _, _, hl, hlen, hf⟩ := DataW.trod_struct hd h
    refine ⟨hl, fun j off ty hj => ?_⟩
    subst hk
    rw [List.getElem?_map] at hj
    cases hg : gs.toList[j]? with
    | none => rw [hg] at hj; cases hj
    | some f =>
      rw [hg] at hj
      simp only [Option.map_some, Option.some.injEq, Prod.mk.injEq] at hj
      obtain ⟨rfl, rfl⟩ := hj
      have hg' : gs[j]? = some f := by simpa using hg
      have := hf j f hg'
      have hlt : j < xs.length := by rw [hlen]; exact (Array.getElem?_eq_some_iff.1 hg').1
      rw [List.getElem?_eq_getElem hlt] at this
      exact ⟨m, _, this⟩
  | _ => simp [tkOf] at hk
theorem Tr.sl {α : Type} [Inhabited α] {e k : Nat} (E : α → D) (Q : α → Prop) (h : Tr enc w sp held t cs) (ht : Tryz.prog.underlying t = some (.slice e)) (hk : Tryz.prog.cellsOf e = k) (hk0 : 0 < k)
    (he : ∀ cs, Tr enc w sp held e cs → ∃ (y : α) (u : Value), Q y ∧ RepD (allC w) (E y) u ∧ u.cells.toList = cs) :
    ∃ (l : List α) (v : Value), cs = [v] ∧ v.oneCell' = true ∧ (∀ y ∈ l, Q y) ∧ l.length ≤ maxLen ∧ RepD (allC w) (.sl k l.length (fun i => E (l.getD i default))) v := by
  obtain ⟨n, x, h⟩ := h
  rcases DataW.trod_slice ht h with ⟨rfl, _⟩ | ⟨a, len, cap, elems, rest, m, _, rfl, _, _, hl, hc, hel, helem, _⟩
  · exact ⟨[], _, rfl, rfl, fun y hy => by simp at hy, by simp, none, 0, rfl, Nat.le_refl _, by simp, fun h => absurd h (by simp)⟩
  · rw [hk] at helem
    have hget : ∀ i, ∃ (y : α), i < len → ∃ u : Value, Q y ∧ RepD (allC w) (E y) u ∧ u.cells.size = k ∧ ∀ j c, u.cells[j]? = some c → w.cell? ((a.add (i * k)).add j) = some c := by
      intro i
      by_cases hi : i < len
      · have h1 := helem i hi
        rw [List.getElem?_eq_getElem (by omega)] at h1
        rw [Option.bind_eq_some_iff] at h1
        obtain ⟨ci, h2, h3⟩ := h1
        obtain ⟨y, u, hQ, hR, hu⟩ := he ci ⟨_, _, h3⟩
        refine ⟨y, fun _ => ⟨u, hQ, hR, ?_, fun j c hj => ?_⟩⟩
        · rw [← Array.length_toList, hu]
          unfold World.cells? at h2
          rw [if_pos (Nat.zero_le _)] at h2
          simpa using mapM_some_length h2
        · have hj' : ci[j]? = some c := by rw [← hu]; simpa using hj
          unfold World.cells? at h2
          rw [if_pos (Nat.zero_le _)] at h2
          have hjl : j < k := by
            have := (List.getElem?_eq_some_iff.1 hj').1
            have hl := mapM_some_length h2
            simp at hl
            omega
          have := mapM_some_get h2 j j (by simp [hjl])
          rw [this, hj']
      · exact ⟨default, fun h => absurd h hi⟩
    let f : Nat → α := fun i => (hget i).choose
    have hf : ∀ i, i < len → ∃ u : Value, Q (f i) ∧ RepD (allC w) (E (f i)) u ∧ u.cells.size = k ∧ ∀ j c, u.cells[j]? = some c → w.cell? ((a.add (i * k)).add j) = some c := fun i hi => (hget i).choose_spec hi
    have hlen : ((List.range len).map f).length = len := by simp
    have hgd : ∀ i, i < len → ((List.range len).map f).getD i default = f i := fun i hi => by simp [List.getD_eq_getElem?_getD, hi]
    refine ⟨(List.range len).map f, _, rfl, rfl, fun y hy => ?_, by rw [hlen]; omega, ?_⟩
    · obtain ⟨i, hi, rfl⟩ := List.mem_map.1 hy
      obtain ⟨u, hQ, _⟩ := hf i (List.mem_range.1 hi)
      exact hQ
    · rw [hlen]
      refine ⟨some a, cap, rfl, hl, hc, fun h0 => ?_⟩
      have hspot : a.spot = none := by
        obtain ⟨u, _, _, hs, hcell⟩ := hf 0 h0
        have h1 : ∃ c, u.cells[0]? = some c := ⟨_, Array.getElem?_eq_getElem (by omega)⟩
        obtain ⟨c, h1⟩ := h1
        have h2 := hcell 0 c h1
        simp only [Nat.zero_mul, Addr.add, if_true] at h2
        unfold World.cell? at h2
        split at h2
        · split at h2
          · cases h2
          · rename_i hn
            simpa using hn
        · cases h2
      obtain ⟨b, o, s⟩ := a
      subst hspot
      refine ⟨b, o, rfl, fun i hi => ?_⟩
      obtain ⟨u, _, hR, hs, hcell⟩ := hf i hi
      show ∃ u, RepD (allC w) (E (((List.range len).map f).getD i default)) u ∧ _
      rw [hgd i hi]
      refine ⟨u, hR, hs, fun j c hj => ?_⟩
      have h2 := hcell j c hj
      have e1 : ((⟨b, o, none⟩ : Addr).add (i * k)).add j = ⟨b, o + i * k + j, none⟩ := by
        unfold Addr.add
        split <;> split <;> simp_all
      rw [e1] at h2
      exact h2
theorem cz3 : Tryz.prog.cellsOf 3 = 1 := by kernel_rfl
theorem cz9 : Tryz.prog.cellsOf 9 = 1 := by kernel_rfl
theorem cz22 : Tryz.prog.cellsOf 22 = 1 := by kernel_rfl
theorem cz24 : Tryz.prog.cellsOf 24 = 1 := by kernel_rfl
theorem cz26 : Tryz.prog.cellsOf 26 = 3 := by kernel_rfl
theorem cz28 : Tryz.prog.cellsOf 28 = 8 := by kernel_rfl
theorem cz41 : Tryz.prog.cellsOf 41 = 1 := by kernel_rfl
theorem cz42 : Tryz.prog.cellsOf 42 = 1 := by kernel_rfl
theorem cz44 : Tryz.prog.cellsOf 44 = 3 := by kernel_rfl
theorem cz51 : Tryz.prog.cellsOf 51 = 1 := by kernel_rfl
theorem cz53 : Tryz.prog.cellsOf 53 = 6 := by kernel_rfl
theorem uz3 : Tryz.prog.underlying 3 = some (.int .i64) := by kernel_rfl
theorem uz32 : Tryz.prog.underlying 32 = some (.int .i64) := by kernel_rfl
theorem uz9 : Tryz.prog.underlying 9 = some .string := by kernel_rfl
theorem uz22 : Tryz.prog.underlying 22 = some (.slice 44) := by kernel_rfl
theorem uz29 : Tryz.prog.underlying 29 = some (.slice 26) := by kernel_rfl
theorem uz41 : Tryz.prog.underlying 41 = some (.slice 53) := by kernel_rfl
theorem uz42 : Tryz.prog.underlying 42 = some (.slice 3) := by kernel_rfl
theorem uz51 : Tryz.prog.underlying 51 = some (.slice 9) := by kernel_rfl
theorem Tr.val (h : Tr enc w sp held 26 cs) : ∃ v : Vl, VlW v ∧ cs = [.int .i64 v.kind, .int .i64 v.n, .string v.text] := by
  obtain ⟨hl, hf⟩ := h.st (i := _) rfl rfl
  rw [cz26] at hl
  obtain ⟨a, b, c, rfl⟩ : ∃ a b c, cs = [a, b, c] := by
    match cs, hl with
    | [a, b, c], _ => exact ⟨a, b, c, rfl⟩
  obtain ⟨n0, h0, w0⟩ := (hf 0 0 3 rfl).int uz3
  obtain ⟨n1, h1, w1⟩ := (hf 1 1 3 rfl).int uz3
  obtain ⟨s2, h2, w2⟩ := (hf 2 2 9 rfl).str uz9
  rw [cz3] at h0 h1
  rw [cz9] at h2
  simp at h0 h1 h2
  subst h0 h1 h2
  exact ⟨⟨n0, n1, s2⟩, ⟨w0, w1, w2⟩, rfl⟩
theorem rep_int (π : Prom) (n : Int) : RepD π (eI n) (.int .i64 n) := ⟨rfl, rfl⟩
theorem rep_str (π : Prom) (s : Bs) : RepD π (eS s) (.string s) := ⟨rfl, rfl⟩
theorem repL_nil (π : Prom) : RepL π [] [] := rfl
theorem repL_cons {π : Prom} {x : D} {v : Value} {xs : List D} {vs : List Value} (h1 : v.oneCell' = true) (h : RepD π x v) (k : RepL π xs vs) : RepL π (x :: xs) (v :: vs) := ⟨v, vs, rfl, h1, h, k⟩
theorem Tr.rval (h : Tr enc w sp held 26 cs) : ∃ (v : Vl) (u : Value), VlW v ∧ RepD (allC w) (eV v) u ∧ u.cells.toList = cs := by
  obtain ⟨v, hv, rfl⟩ := h.val
  exact ⟨v, .agg #[.int .i64 v.kind, .int .i64 v.n, .string v.text], hv, ⟨_, rfl, repL_cons rfl (rep_int _ _) (repL_cons rfl (rep_int _ _) (repL_cons rfl (rep_str _ _) (repL_nil _)))⟩, rfl⟩
theorem Tr.strs (h : Tr enc w sp held 51 cs) : ∃ (l : List Bs) (v : Value), cs = [v] ∧ v.oneCell' = true ∧ (∀ y ∈ l, y.size ≤ maxLen) ∧ l.length ≤ maxLen ∧ RepD (allC w) (eSs l) v :=
  h.sl eS (fun s => s.size ≤ maxLen) uz51 cz9 (by omega) (fun cs hc => by
    obtain ⟨s, rfl, hs⟩ := hc.str uz9
    exact ⟨s, .string s, hs, rep_str _ _, rfl⟩)
theorem Tr.ints (h : Tr enc w sp held 42 cs) : ∃ (l : List Int) (v : Value), cs = [v] ∧ v.oneCell' = true ∧ (∀ y ∈ l, I64 y) ∧ l.length ≤ maxLen ∧ RepD (allC w) (eIs l) v :=
  h.sl eI I64 uz42 cz3 (by omega) (fun cs hc => by
    obtain ⟨n, rfl, hn⟩ := hc.int uz3
    exact ⟨n, .int .i64 n, hn, rep_int _ _, rfl⟩)
theorem Tr.vals (h : Tr enc w sp held 29 cs) : ∃ (l : List Vl) (v : Value), cs = [v] ∧ v.oneCell' = true ∧ VsW l ∧ RepD (allC w) (.sl 3 l.length (fun i => eV (l.getD i default))) v := by
  obtain ⟨l, v, h1, h2, h3, h4, h5⟩ := h.sl eV VlW uz29 cz26 (by omega) (fun cs hc => hc.rval)
  exact ⟨l, v, h1, h2, ⟨h4, h3⟩, h5⟩
theorem Tr.attr (h : Tr enc w sp held 53 cs) : ∃ (a : At) (u : Value), AtW a ∧ RepD (allC w) (eA a) u ∧ u.cells.toList = cs := by
  obtain ⟨hl, hf⟩ := h.st (i := _) rfl rfl
  rw [cz53] at hl
  obtain ⟨a, b, c, d, e, f, rfl⟩ : ∃ a b c d e f, cs = [a, b, c, d, e, f] := by
    match cs, hl with
    | [a, b, c, d, e, f], _ => exact ⟨a, b, c, d, e, f, rfl⟩
  obtain ⟨s0, h0, w0⟩ := (hf 0 0 9 rfl).str uz9
  obtain ⟨n1, h1, w1⟩ := (hf 1 1 3 rfl).int uz3
  obtain ⟨l2, v2, h2, o2, w2, m2, r2⟩ := (hf 2 2 51 rfl).strs
  obtain ⟨v3, w3, h3⟩ := (hf 3 3 26 rfl).val
  rw [cz9] at h0
  rw [cz3] at h1
  rw [cz51] at h2
  rw [cz26] at h3
  simp at h0 h1 h2 h3
  obtain ⟨rfl, rfl, rfl⟩ := h3
  subst h0 h1 h2
  exact ⟨⟨s0, n1, l2, v3⟩, .agg #[.string s0, .int .i64 n1, c, .int .i64 v3.kind, .int .i64 v3.n, .string v3.text], ⟨w0, w1, m2, w2, w3⟩,
    ⟨_, rfl, repL_cons rfl (rep_str _ _) (repL_cons rfl (rep_int _ _) (repL_cons o2 r2 (repL_cons rfl (rep_int _ _) (repL_cons rfl (rep_int _ _) (repL_cons rfl (rep_str _ _) (repL_nil _))))))⟩, rfl⟩
theorem Tr.attrs (h : Tr enc w sp held 41 cs) : ∃ (l : List At) (v : Value), cs = [v] ∧ v.oneCell' = true ∧ (∀ y ∈ l, AtW y) ∧ l.length ≤ maxLen ∧ RepD (allC w) (eAs l) v :=
  h.sl eA AtW uz41 cz53 (by omega) (fun cs hc => hc.attr)
theorem Tr.tab (h : Tr enc w sp held 44 cs) : ∃ (t : Tb) (u : Value), TbW t ∧ RepD (allC w) (eT t) u ∧ u.cells.toList = cs := by
  obtain ⟨hl, hf⟩ := h.st (i := _) rfl rfl
  rw [cz44] at hl
  obtain ⟨a, b, c, rfl⟩ : ∃ a b c, cs = [a, b, c] := by
    match cs, hl with
    | [a, b, c], _ => exact ⟨a, b, c, rfl⟩
  obtain ⟨s0, h0, w0⟩ := (hf 0 0 9 rfl).str uz9
  obtain ⟨l1, v1, h1, o1, w1, m1, r1⟩ := (hf 1 1 41 rfl).attrs
  obtain ⟨l2, v2, h2, o2, w2, m2, r2⟩ := (hf 2 2 42 rfl).ints
  rw [cz9] at h0
  rw [cz41] at h1
  rw [cz42] at h2
  simp at h0 h1 h2
  subst h0 h1 h2
  exact ⟨⟨s0, l1, l2⟩, .agg #[.string s0, b, c], ⟨w0, m1, w1, m2, w2⟩, ⟨_, rfl, repL_cons rfl (rep_str _ _) (repL_cons o1 r1 (repL_cons o2 r2 (repL_nil _)))⟩, rfl⟩
theorem Tr.tabs (h : Tr enc w sp held 22 cs) : ∃ (l : List Tb) (v : Value), cs = [v] ∧ v.oneCell' = true ∧ TsW l ∧ RepD (allC w) (eTs l) v := by
  obtain ⟨l, v, h1, h2, h3, h4, h5⟩ := h.sl eT TbW uz22 cz44 (by omega) (fun cs hc => hc.tab)
  exact ⟨l, v, h1, h2, ⟨h4, h3⟩, h5⟩
theorem Tr.schema (h : Tr enc w sp held 24 cs) : ∃ (l : List Tb) (v : Value), cs = [v] ∧ TsW l ∧ RepD (allC w) (.agg [eTs l]) (.agg #[v]) := by
  obtain ⟨hl, hf⟩ := h.st (i := _) rfl rfl
  rw [cz24] at hl
  obtain ⟨a, rfl⟩ : ∃ a, cs = [a] := by
    match cs, hl with
    | [a], _ => exact ⟨a, rfl⟩
  obtain ⟨l1, v1, h1, o1, w1, r1⟩ := (hf 0 0 22 rfl).tabs
  rw [cz22] at h1
  simp at h1
  subst h1
  exact ⟨l1, a, rfl, w1, ⟨_, rfl, repL_cons o1 r1 (repL_nil _)⟩⟩
theorem Tr.change (h : Tr enc w sp held 28 cs) : ∃ (c : Ch), ChW c ∧ RepD (allC w) (eC c) (.agg cs.toArray) := by
  obtain ⟨hl, hf⟩ := h.st (i := _) rfl rfl
  rw [cz28] at hl
  obtain ⟨a, b, c, d, e, f, g, i, rfl⟩ : ∃ a b c d e f g i, cs = [a, b, c, d, e, f, g, i] := by
    match cs, hl with
    | [a, b, c, d, e, f, g, i], _ => exact ⟨a, b, c, d, e, f, g, i, rfl⟩
  obtain ⟨n0, h0, w0⟩ := (hf 0 0 3 rfl).int uz3
  obtain ⟨s1, h1, w1⟩ := (hf 1 1 9 rfl).str uz9
  obtain ⟨s2, h2, w2⟩ := (hf 2 2 9 rfl).str uz9
  obtain ⟨s3, h3, w3⟩ := (hf 3 3 9 rfl).str uz9
  obtain ⟨n4, h4, w4⟩ := (hf 4 4 3 rfl).int uz3
  obtain ⟨v5, w5, h5⟩ := (hf 5 5 26 rfl).val
  rw [cz3] at h0 h4
  rw [cz9] at h1 h2 h3
  rw [cz26] at h5
  simp at h0 h1 h2 h3 h4 h5
  obtain ⟨rfl, rfl, rfl⟩ := h5
  subst h0 h1 h2 h3 h4
  exact ⟨⟨n0, s1, s2, s3, n4, v5⟩, ⟨w0, w1, w2, w3, w4, w5⟩,
    ⟨_, rfl, repL_cons rfl (rep_int _ _) (repL_cons rfl (rep_str _ _) (repL_cons rfl (rep_str _ _) (repL_cons rfl (rep_str _ _) (repL_cons rfl (rep_int _ _) (repL_cons rfl (rep_int _ _) (repL_cons rfl (rep_int _ _) (repL_cons rfl (rep_str _ _) (repL_nil _))))))))⟩⟩
end
end Go.Pv
