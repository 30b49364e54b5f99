/- Part of the proofs over this seat: R2 R2b. -/
import Derived.Test.YteohopnpcanfpaaGreatDoorZMa
import Derived.Test.YteohopnpcanfpaaGreatDoorZKd
import Derived.Test.YteohopnpcanfpaaGreatDoorRows
import Derived.Test.YteohopnpcanfpaaGreatDoorCards
import Derived.Test.YteohopnpcanfpaaGreatDoorTie
import Derived.ChangeSame
import Derived.ChangeVars
import Derived.JoinedOf
import Derived.JoinedAt
import Derived.RowKit
import Derived.RowKit3
import Derived.RowKitTokens
import Derived.LaidLaws
import Derived.OpenShut
set_option maxRecDepth 100000
namespace Go.Pv
open Go.RowKit Go.Proofs Go.ChangeShapes Go.Proofs.YteohopnpcanfpaaGreatDoor

/-! ### The start: what the listed variables give -/
def lay5 : List (String × DataW Unit) := [("math/bits.deBruijn32tab", Rows.laid_math_bits_deBruijn32tab), ("math/bits.deBruijn64tab", Rows.laid_math_bits_deBruijn64tab), ("internal/strconv.uint64pow10", Rows.laid_internal_strconv_uint64pow10), ("strconv.ErrRange", Rows.laid_strconv_ErrRange), ("strconv.ErrSyntax", Rows.laid_strconv_ErrSyntax)]
theorem gP : Tryz.prog.globalNamed "internal/strconv.uint64pow10" = some 0 := by kernel_rfl
theorem gS : Tryz.prog.globalNamed "strconv.ErrSyntax" = some 1 := by kernel_rfl
theorem gR : Tryz.prog.globalNamed "strconv.ErrRange" = some 2 := by kernel_rfl
theorem gPt : (Tryz.prog.globals[0]?).map (·.type) = some 253 := by kernel_rfl
theorem gSt : (Tryz.prog.globals[1]?).map (·.type) = some 171 := by kernel_rfl
theorem gRt : (Tryz.prog.globals[2]?).map (·.type) = some 171 := by kernel_rfl
theorem star : "*" ++ "errors.errorString" = "*errors.errorString" := by decide
theorem row271 (u : TypeId) (h : Tryz.prog.typeName? 3 u = some "*errors.errorString") : u = 271 :=
  typeName_ptr_named (nm := "errors.errorString") (by rw [star]; kernel_rfl) (by kernel_rfl) (by decide) u (by rw [star]; exact h)
theorem cz273 : Tryz.prog.cellsOf 273 = 1 := by kernel_rfl
theorem glob_start {W : World} (h : laidMet Tryz.prog lay5 W) : GlobW W := by
  have h2 : laidMet Tryz.prog (("internal/strconv.uint64pow10", Lib.tabData .u64 Lib.pow10Tab) :: _) W := h.tail.tail
  have h3 : laidMet Tryz.prog (("strconv.ErrRange", Rows.laid_strconv_ErrRange) :: _) W := h.tail.tail.tail
  have h4 : laidMet Tryz.prog (("strconv.ErrSyntax", Rows.laid_strconv_ErrSyntax) :: _) W := h.tail.tail.tail.tail
  refine ⟨?_, ?_, Lib.tabIs_of_head gP gPt Tryz.underlying253 (by kernel_rfl) (by kernel_rfl) (by kernel_rfl) h2⟩
  · obtain ⟨a, s, hv, _⟩ := laid_sentinel h4 gS gSt Tryz.underlying171 row271 Tryz.underlying271 Tryz.underlying273 rfl rfl uz9 cz273 cz9
    exact ⟨_, _, hv⟩
  · obtain ⟨a, s, hv, _⟩ := laid_sentinel h3 gR gRt Tryz.underlying171 row271 Tryz.underlying271 Tryz.underlying273 rfl rfl uz9 cz273 cz9
    exact ⟨_, _, hv⟩
/-- The ghost at the start: all memory is promised, nobody owns any. -/
def gh0 (W : World) : Gh := ⟨allC W, fun _ => 0, fun _ => none, fun _ => .none, fun _ => false⟩
theorem law_calls {f : FuncId} {args : List D} (h : AF Tryz.prog f (args.map .d) [] (fun o p => o = .ret (.d (.lit (.bool true))) ∧ p = [])) {W : World} {vs : List Value} (hL : laidMet Tryz.prog lay5 W)
    (hv : RepPL (gh0 W) (args.map .d) vs) : Calls Tryz.prog f vs.toArray W (fun e w' => e = .returned (.bool true) ∧ Below W.heap.size W w') := by
  refine (h.calls (gh0 W) W vs (fun _ _ => rfl) hv ⟨fun l o hl => by simp [parBoxes, parFrom, objAt] at hl, fun b o v hp => hp, ⟨glob_start hL, fun _ _ _ _ => rfl⟩⟩).mono ?_
  rintro e w' ⟨out, par', g', _, hp⟩
  obtain ⟨rfl, _⟩ := hp.holds
  obtain ⟨v, rfl, hr⟩ := hp.outs
  obtain ⟨rfl, _⟩ := hr
  have hx := hp.ext
  exact ⟨rfl, hx.os, hx.tape, hx.output, hx.size, fun k hk => (hx.keep k hk rfl).1⟩
/-- An argument, out of its reading. -/
theorem own : ownKnob Tryz.prog.godebug = none := by kernel_rfl
theorem laidOut : laidOutB Tryz.prog = true := by kernel_rfl
abbrev synS : ByteArray := { data := #[105, 110, 118, 97, 108, 105, 100, 32, 115, 121, 110, 116, 97, 120] }
abbrev rngS : ByteArray := { data := #[118, 97, 108, 117, 101, 32, 111, 117, 116, 32, 111, 102, 32, 114, 97, 110, 103, 101] }
noncomputable def low : Nat := (World.holding Tryz.prog default ⟨#[], #[], []⟩).heap.size
def bru32 : List Int := [0, 1, 28, 2, 29, 14, 24, 3, 30, 22, 20, 15, 25, 17, 4, 8, 31, 27, 13, 23, 21, 19, 16, 7, 26, 12, 18, 6, 11, 5, 10, 9]
def bru64 : List Int := [0, 1, 56, 2, 57, 49, 28, 3, 61, 58, 42, 50, 38, 29, 17, 4, 62, 47, 59, 36, 45, 43, 51, 22, 53, 39, 33, 30, 24, 18, 12, 5, 63, 55, 48, 27, 60, 41, 37, 16, 46, 35, 44, 21, 52, 32, 23, 11, 54, 26, 40, 15, 34, 20, 31, 10, 25, 14, 19, 9, 13, 8, 7, 6]
def setCells (cs : Array Value) : Go.Obj → Go.Obj
  | .cells _ t frozen => .cells cs t frozen
  | o => o
/-- The settled world with two blocks more, each an errors.errorString; the five variables as their initialisers lay them. -/
noncomputable def laidWorld (os : Os) : World :=
  let w0 := World.holding Tryz.prog os ⟨#[.cells #[.string synS] 273, .cells #[.string rngS] 273], #[], []⟩
  { w0 with heap := ((((w0.heap.modify 0 (setCells (Lib.pow10Tab.map (Value.int .u64)).toArray)).modify 1 (setCells #[.iface 271 (.pointer (some ⟨low, 0, none⟩))])).modify 2 (setCells #[.iface 271 (.pointer (some ⟨low + 1, 0, none⟩))])).modify 3 (setCells (bru32.map (Value.int .u8)).toArray)).modify 4 (setCells (bru64.map (Value.int .u8)).toArray) }
theorem laidWorld_met (os : Os) (args : Array Value) : laidMet Tryz.prog lay5 ((laidWorld os).forCall (fun _ _ => 0) ⟨#[], args, []⟩).memory :=
  laidMet_of_run' 8 (by kernel_rfl) (by kernel_rfl)
end Go.Pv
namespace Go.Pv
open Go.RowKit Go.Proofs Go.ChangeShapes Go.WideShapes
/-! ### The arguments of a law, out of their readings -/
section
variable {H : Type} {enc : TypeId × Value → H} {W : World} {base : Nat} {v : Value} {d : DataW H} {p : List MemPlace} {sp : Nat → Bool} {held : Bool}
theorem agg_of {t : TypeId} {d : TypeDesc} (hd : Tryz.prog.underlying t = some d) (hs : (match d with | .struct _ => true | _ => false) = true) (h : Value.okWide Tryz.prog W .any base t v) : v = .agg v.cells := by
  cases d with
  | struct fs =>
    obtain ⟨cs, rfl, _⟩ := okWide_struct hd h
    rfl
  | _ => cases hs
theorem cell_of (h1 : v.cells = #[v]) {cs : List Value} {u : Value} (hcs : v.cells.toList = cs) (e : cs = [u]) : v = u := by
  subst hcs
  rw [h1] at e
  simpa using e
theorem arg_schema (hv : Value.okWide Tryz.prog W .any base 24 v) (h : DataW.Trod enc Tryz.prog W 0 sp held 24 v d p) : ∃ l : List Tb, TsW l ∧ RepD (allC W) (.agg [eTs l]) v := by
  obtain ⟨l, u, e, w, r⟩ := (Tr.of h).schema
  refine ⟨l, w, ?_⟩
  rw [agg_of Tryz.underlying24 rfl hv]
  have : v.cells = #[u] := by rw [← Array.toArray_toList (xs := v.cells), e]
  rw [this]; exact r
theorem arg_change (hv : Value.okWide Tryz.prog W .any base 28 v) (h : DataW.Trod enc Tryz.prog W 0 sp held 28 v d p) : ∃ c : Ch, ChW c ∧ RepD (allC W) (eC c) v := by
  obtain ⟨c, w, r⟩ := (Tr.of h).change
  rw [Array.toArray_toList] at r
  exact ⟨c, w, by rw [agg_of Tryz.underlying28 rfl hv]; exact r⟩
theorem arg_vals (hv : Value.okWide Tryz.prog W .any base 29 v) (h : DataW.Trod enc Tryz.prog W 0 sp held 29 v d p) : ∃ l : List Vl, VsW l ∧ RepD (allC W) (.sl 3 l.length (fun i => eV (l.getD i default))) v := by
  obtain ⟨a, n, c, rfl⟩ := okWide_slice uz29 hv
  obtain ⟨l, u, e, _, w, r⟩ := (Tr.of h).vals
  have : Value.slice a n c = u := by simpa [Value.cells] using e
  exact ⟨l, w, by rw [this]; exact r⟩
theorem arg_text (hv : Value.okWide Tryz.prog W .any base 9 v) (h : DataW.Trod enc Tryz.prog W 0 sp held 9 v d p) : ∃ s : Bs, s.size ≤ maxLen ∧ RepD (allC W) (eS s) v := by
  obtain ⟨s, rfl⟩ := okWide_string uz9 hv
  obtain ⟨s', e, w⟩ := (Tr.of h).str uz9
  have : s = s' := by simpa [Value.cells] using e
  exact ⟨s, by rw [this]; exact w, rep_str _ _⟩
theorem arg_int (hv : Value.okWide Tryz.prog W .any base 3 v) (h : DataW.Trod enc Tryz.prog W 0 sp held 3 v d p) : ∃ n : Int, I64 n ∧ RepD (allC W) (eI n) v := by
  obtain ⟨n, rfl, _, _, hw⟩ := open_int uz3 hv h
  have e1 : IntKind.i64.min = -9223372036854775808 := rfl
  have e2 : IntKind.i64.max = 9223372036854775807 := rfl
  simp only [Lit.wf, Bool.and_eq_true, decide_eq_true_eq, e1, e2] at hw
  exact ⟨n, hw, rep_int _ _⟩
theorem arg_byte (hv : Value.okWide Tryz.prog W .any base 5 v) (h : DataW.Trod enc Tryz.prog W 0 sp held 5 v d p) : ∃ n : Int, (0 ≤ n ∧ n ≤ 255) ∧ RepD (allC W) (.lit (.int .u8 n)) v := by
  obtain ⟨n, rfl, _, _, hw⟩ := open_int (k := .u8) (by kernel_rfl) hv h
  have e1 : IntKind.u8.min = 0 := rfl
  have e2 : IntKind.u8.max = 255 := rfl
  simp only [Lit.wf, Bool.and_eq_true, decide_eq_true_eq, e1, e2] at hw
  exact ⟨n, hw, rfl, rfl⟩
end
end Go.Pv
