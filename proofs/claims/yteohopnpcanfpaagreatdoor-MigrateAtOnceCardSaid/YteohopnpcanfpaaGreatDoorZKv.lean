/-
  DERIVED: THE SHELF's CONTRACTS AT THIS DUMP, IN PLAIN WORDS (tools/lay-plain.mjs out of 'Sh3.lean', which tools/lay-shelf.mjs wrote): THE SAME DECLARATIONS UNDER THE SAME NAMES: 'import', 'namespace', 'open', 'def', 'theorem' AND NOTHING ELSE: no command of the shelf's: FOR A HAND-IN. Each laying: the table of numbers ('.._ren') and one theorem, a field a fact of the dump's own or the kernel's comparison; each contract: ONE APPLICATION.
-/
import Derived.Shelf.Strings.Builder1
import Derived.Test.YteohopnpcanfpaaGreatDoorProg
import Derived.Test.YteohopnpcanfpaaGreatDoorZKa
import Derived.WalkKit
import Derived.Deep.RegionLaw
import Derived.Lib.ConvBytes
import Derived.Lib.Walk
import Derived.Test.YteohopnpcanfpaaGreatDoorZKd
import Derived.Test.YteohopnpcanfpaaGreatDoorZKe
set_option maxRecDepth 100000
namespace Go.Proofs
open Go.Shelf
def Tryz.lays169_ren : Go.Shelf.Ren := ⟨fun | 169 => 128 | n => n, fun | 70 => 174 | 9 => 9 | 0 => 0 | 72 => 177 | 37 => 175 | 127 => 199 | 3 => 3 | 5 => 5 | n => n, fun | n => n⟩
theorem Tryz.lays169 : Go.Proofs.Lays.n169 Tryz.prog Tryz.lays169_ren := {
  mixed := by kernel_rfl
  f169 := Tryz.func128.trans (congrArg some (by kernel_rfl))
  t0 := Tryz.underlying0
  a0 := Tryz.isAgg0
  z0 := Tryz.sizeOf0
  v0 := Tryz.zeroValue0
  t3 := Tryz.underlying3
  a3 := Tryz.isAgg3
  z3 := Tryz.sizeOf3
  v3 := Tryz.zeroValue3
  t9 := Tryz.underlying9
  a9 := Tryz.isAgg9
  z9 := Tryz.sizeOf9
  v9 := Tryz.zeroValue9
  t37 := Tryz.underlying175
  a37 := Tryz.isAgg175
  z37 := Tryz.sizeOf175
  v37 := Tryz.zeroValue175
  t70 := Tryz.underlying174
  a70 := Tryz.isAgg174
  z70 := Tryz.sizeOf174
  v70 := Tryz.zeroValue174
  t72 := Tryz.underlying177
  a72 := Tryz.isAgg177
  z72 := Tryz.sizeOf177
  v72 := Tryz.zeroValue177
  t127 := Tryz.underlying199
  a127 := Tryz.isAgg199
  z127 := Tryz.sizeOf199
  v127 := Tryz.zeroValue199 }
theorem Tryz.Builder_Extra_169 : Builder.Extra Tryz.prog Tryz.lays169_ren := {
  sizeBuilder := by kernel_rfl
  liesBuilder := by kernel_rfl
  t5 := Tryz.underlying5
  a5 := Tryz.isAgg5
  z5 := Tryz.sizeOf5
  v5 := Tryz.zeroValue5
  infoByte := by kernel_rfl
  cellsByte := by kernel_rfl
  sizeByte := by kernel_rfl
  neB5 := by decide }
open Go.RowKit in
theorem Tryz.Builder_String (B b : Nat) (l : List UInt8) (w : World) (h : Lib.IsBuilder 177 5 B b (Lib.byteCells l) w) (h0 : l ≠ []) :
    Calls Tryz.prog 128 #[.pointer (some ⟨b, 0, none⟩)] w fun e w' => e = .returned (.string ⟨l.toArray⟩) ∧ Below B w w' := Any.Builder_String Tryz.lays169 Tryz.Builder_Extra_169 B b l w h h0
open Go.RowKit in
theorem Tryz.Builder_String_empty (B b : Nat) (w : World) (h : Lib.IsBuilder 177 5 B b [] w) (hBw : B ≤ w.heap.size) :
    Calls Tryz.prog 128 #[.pointer (some ⟨b, 0, none⟩)] w fun e w' => e = .returned (.string ⟨#[]⟩) ∧ Below B w w' := Any.Builder_String_empty Tryz.lays169 Tryz.Builder_Extra_169 B b w h hBw
open Go.RowKit in
theorem Tryz.Builder_String_any (B b : Nat) (l : List UInt8) (w : World) (h : Lib.IsBuilder 177 5 B b (Lib.byteCells l) w) (hBw : B ≤ w.heap.size) :
    Calls Tryz.prog 128 #[.pointer (some ⟨b, 0, none⟩)] w fun e w' => e = .returned (.string ⟨l.toArray⟩) ∧ Below B w w' := Any.Builder_String_any Tryz.lays169 Tryz.Builder_Extra_169 B b l w h hBw
end Go.Proofs
namespace Go.Pv
open Go.RowKit Go.Proofs
theorem infoB : ∃ j, Tryz.prog.info? 177 = some j ∧ j.size = 2 := by
  obtain ⟨j, hj, hs⟩ := Option.map_eq_some_iff.1 (show (Tryz.prog.info? 177).map (·.size) = some 2 by kernel_rfl)
  exact ⟨j, hj, hs⟩
theorem liesB : liesAt Tryz.prog Tryz.prog.depth 177 (2 / Tryz.prog.cellsOf 177) 0 177 1 = true := by kernel_rfl
set_option maxHeartbeats 1000000 in
theorem cc_used (b : Nat) (w : World) (h0 : w.cell? ⟨b, 0, none⟩ = some (.pointer (some ⟨b, 0, none⟩))) :
    Calls Tryz.prog 166 #[.pointer (some ⟨b, 0, none⟩)] w fun e w' => e = .returned (.tuple #[]) ∧ w' = w := by
  obtain ⟨j, hj, hjs⟩ := infoB
  go_enter Tryz.func166, Tryz.ntmps166
  go_wp2
  rw [Lib.run_neq_ptr_same w _ Tryz.underlying174 hj]
  go_wp2
  go_end0
  exact ⟨rfl, rfl⟩
set_option maxHeartbeats 1000000 in
theorem cc_fresh (b : Nat) (w : World) (h0 : w.cell? ⟨b, 0, none⟩ = some (.pointer none)) (hsh : w.shape? b = some (177, 2)) (hfz : w.frozen? ⟨b, 0, none⟩ = false) :
    Calls Tryz.prog 166 #[.pointer (some ⟨b, 0, none⟩)] w fun e w' => e = .returned (.tuple #[]) ∧ w' = w.setCell ⟨b, 0, none⟩ (.pointer (some ⟨b, 0, none⟩)) := by
  obtain ⟨j, hj, hjs⟩ := infoB
  go_enter Tryz.func166, Tryz.ntmps166
  go_wp2
  rw [Lib.run_to_unsafe w ⟨b, 0, none⟩ Tryz.underlying174 Tryz.underlying232 hj (by rw [hjs]; decide) hsh (Nat.zero_lt_succ 1)]
  simp only [Result.andThen]
  rw [Oper.upon_value]
  go_wp2
  rw [run_callFunc_extern Tryz.func189 (by kernel_rfl) (by kernel_rfl) (by kernel_rfl) (e := Extern.AbiNoEscape.same) (by kernel_rfl)]
  rw [Lib.run_noEscape]
  simp only [Result.andThen]
  rw [Oper.upon_value]
  go_wp2
  rw [Lib.run_from_unsafe w ⟨b, 0, none⟩ Tryz.underlying232 Tryz.underlying174 hj hsh liesB]
  simp only [Result.andThen]
  rw [Oper.upon_value]
  go_wp2
  go_end0
  exact ⟨rfl, rfl⟩
/-- A builder of one's own at block b: its row, its bytes. -/
structure BlAt (B b : Nat) (v : Value) (bs : List Value) (w : World) : Prop where
  at_ : ∃ p, w.heap[b]? = some (.cells #[p, v] 177 (0, 0)) ∧ (p = .pointer none ∨ p = .pointer (some ⟨b, 0, none⟩))
  row : w.ownsRow B 5 1 v bs.length bs
  ne : v.ownBlock ≠ some b
/-- From w to w' nothing turned but the builder and its row. -/
structure BlTo (b : Nat) (v : Value) (w w' : World) : Prop where
  os : w'.os = w.os
  tape : w'.tape = w.tape
  output : w'.output = w.output
  size : w.heap.size ≤ w'.heap.size
  old : ∀ k, k < w.heap.size → k ≠ b → v.ownBlock ≠ some k → w'.heap[k]? = w.heap[k]?
theorem setCell_old (w : World) (b o k : Nat) (u : Value) (hk : k ≠ b) : (w.setCell ⟨b, o, none⟩ u).heap[k]? = w.heap[k]? := Below.heap_setCell _ _ _ _ (fun e => hk e)
theorem ownsRow_blockB {w w' : World} {B e k n : Nat} {u : Value} {cs : List Value} (h : w.ownsRow B e k u n cs) (hb : ∀ b, u.ownBlock = some b → w'.heap[b]? = w.heap[b]?) : w'.ownsRow B e k u n cs := by
  refine ⟨h.1, ?_⟩
  rcases h.2 with hn | ⟨g, cap, cur, rfl, h1, h2, h3⟩
  · exact .inl hn
  · exact .inr ⟨g, cap, cur, rfl, h1, by rw [hb g rfl]; exact h2, h3⟩
set_option maxHeartbeats 1000000 in
theorem cc (B b : Nat) (v : Value) (bs : List Value) (w : World) (h : BlAt B b v bs w) :
    Calls Tryz.prog 166 #[.pointer (some ⟨b, 0, none⟩)] w fun e w' => e = .returned (.tuple #[]) ∧ w'.heap[b]? = some (.cells #[.pointer (some ⟨b, 0, none⟩), v] 177 (0, 0)) ∧ BlTo b v w w' ∧ w'.ownsRow B 5 1 v bs.length bs := by
  obtain ⟨⟨p, hb, hp⟩, hrow, hne⟩ := h
  have c0 : w.cell? ⟨b, 0, none⟩ = some p := by rw [Lib.cell_of_heap hb]; rfl
  rcases hp with rfl | rfl
  · refine (cc_fresh b w c0 (by simp [World.shape?, hb]) (Lib.frozen_of_heap hb 0)).mono ?_
    rintro e w' ⟨rfl, rfl⟩
    have hs : (w.setCell ⟨b, 0, none⟩ (.pointer (some ⟨b, 0, none⟩))).heap.size = w.heap.size := by simp [World.setCell]
    refine ⟨rfl, ?_, ⟨rfl, rfl, rfl, by omega, fun k _ hk _ => setCell_old w b 0 k _ hk⟩, ?_⟩
    · simp [World.setCell, Array.getElem?_modify, hb]
    · exact ownsRow_blockB hrow fun c hc => setCell_old w b 0 c _ (fun e => hne (by rw [hc, e]))
  · refine (cc_used b w c0).mono ?_
    rintro e w' ⟨rfl, rfl⟩
    exact ⟨rfl, hb, ⟨rfl, rfl, rfl, Nat.le_refl _, fun _ _ _ _ => rfl⟩, hrow⟩
set_option maxHeartbeats 2000000 in
/-- (*strings.Builder).WriteByte. -/
theorem wb (B b : Nat) (v : Value) (bs : List Value) (c : Int) (w : World) (h : BlAt B b v bs w) (hB : B ≤ w.heap.size) (hlen : bs.length + 1 ≤ 140737488355328) :
    Calls Tryz.prog 127 #[.pointer (some ⟨b, 0, none⟩), .int .u8 c] w fun e w' => e = .returned .nilIface ∧ ∃ v', BlAt B b v' (bs ++ [.int .u8 c]) w' ∧ BlTo b v w w' := by
  obtain ⟨i0, hi, hz0, hz1, hz2⟩ : ∃ i, Tryz.prog.info? 5 = some i ∧ i.zero = some (.int .u8 0) ∧ i.size = 1 ∧ i.bytes = 1 := by
    obtain ⟨i, hi, hh⟩ := Option.map_eq_some_iff.1 (show (Tryz.prog.info? 5).map (fun i => (i.zero, i.size, i.bytes)) = some (some (.int .u8 0), 1, 1) by kernel_rfl)
    simp only [Prod.mk.injEq] at hh
    exact ⟨i, hi, hh.1, hh.2.1, hh.2.2⟩
  have hcc := cc B b v bs w h
  have hne := h.ne
  have hltb : b < w.heap.size := by
    obtain ⟨p, hb, _⟩ := h.at_
    exact (Array.getElem?_eq_some_iff.1 hb).1
  go_enter Tryz.func127, Tryz.ntmps127
  go_wp2_with (go_at_call 166; refine hcc.mono ?_)
  rintro e w1 ⟨rfl, hbk, hto, hown⟩
  have c1 : w1.cell? ⟨b, 1, none⟩ = some v := by rw [Lib.cell_of_heap hbk]; rfl
  go_wp2_with (at_builtin; refine wpList_append_own _ rfl _ _ 175 rfl B 5 i0 (.int .u8 0) 1 1 Tryz.underlying175 hi hz0 hz1 hz2 rfl (by decide) _ _ _ rfl (hown.alloc _) ⟨w1.heap.size, 0, none⟩ 1 1 [.int .u8 c] rfl rfl ?c1 ?c2 ?c3 ?c4 ?c5 ?_)
  case c1 =>
    intro j u hj
    match j, hj with
    | 0, hj => simp at hj; subst hj; simp [Addr.add]
  case c2 => intro u hu; simp at hu; subst hu; rfl
  case c3 => unfold maxLen; omega
  case c4 => omega
  case c5 => have := hto.size; simp; omega
  intro v' w2 hown' hgrow _
  have hlt : b < w1.heap.size := by have := hto.size; omega
  have hb2 : w2.heap[b]? = some (.cells #[.pointer (some ⟨b, 0, none⟩), v] 177 (0, 0)) := by
    rw [hgrow.block b (by simp; omega) (fun e => hne e.symm), Lib.alloc_old w1 _ b hlt]
    exact hbk
  have d1 : w2.cell? ⟨b, 1, none⟩ = some v := by rw [Lib.cell_of_heap hb2]; rfl
  have f1 : w2.frozen? ⟨b, 1, none⟩ = false := Lib.frozen_of_heap hb2 1
  obtain ⟨g, cap, rfl⟩ : ∃ g cap, v' = .slice (some ⟨g, 0, none⟩) (bs.length + 1) cap := by
    rcases hown'.2 with ⟨_, h0⟩ | ⟨g, cap, cur, hv, _⟩
    · omega
    · exact ⟨g, cap, hv⟩
  go_wp2
  go_ret
  have hgb : g ≠ b := by
    rintro rfl
    rcases hown'.2 with ⟨h0, _⟩ | ⟨g', cap', cur, hv, _, hg, _⟩
    · cases h0
    · cases hv
      rw [hg] at hb2
      simp at hb2
  refine ⟨rfl, .slice (some ⟨g, 0, none⟩) (bs.length + 1) cap, ⟨⟨_, ?_, .inr rfl⟩, ?_, ?_⟩, ⟨?_, ?_, ?_, ?_, fun k hk hkb hkv => ?_⟩⟩
  · simp [World.setCell, Array.getElem?_modify, hb2]
  · rw [List.length_append, List.length_singleton]
    exact ownsRow_blockB hown' fun c hc => setCell_old w2 b 1 c _ (fun e => hgb (by simp only [Value.ownBlock, Option.some.injEq] at hc; omega))
  · simp only [Value.ownBlock, ne_eq, Option.some.injEq]
    exact hgb
  · show w2.os = w.os
    exact hgrow.os.trans hto.os
  · show w2.tape = w.tape
    exact hgrow.tape.trans hto.tape
  · show w2.output = w.output
    exact hgrow.output.trans hto.output
  · have h1 := hgrow.size
    have h2 := hto.size
    have h3 : (w2.setCell ⟨b, 1, none⟩ (.slice (some ⟨g, 0, none⟩) (bs.length + 1) cap)).heap.size = w2.heap.size := by simp [World.setCell]
    simp at h1
    omega
  · have h2 := hto.size
    rw [setCell_old w2 b 1 k _ hkb, hgrow.block k (by simp; omega) (fun e => hkv e.symm), Lib.alloc_old w1 _ k (by omega)]
    exact hto.old k hk hkb hkv
end Go.Pv
namespace Go.Pv
open Go.RowKit Go.Proofs
theorem below_blto {B b : Nat} {v : Value} {w0 w w' : World} (h : Below B w0 w) (k : BlTo b v w w') (hb : B ≤ b) (hv : ∀ c, v.ownBlock = some c → B ≤ c) (hB : B ≤ w.heap.size) : Below B w0 w' :=
  ⟨k.os.trans h.os, k.tape.trans h.tape, k.output.trans h.output, Nat.le_trans h.size k.size, fun j hj => by
    rw [k.old j (by omega) (by omega) (fun e => by have := hv j e; omega)]
    exact h.block j hj⟩
def ContR (W : World) (e : Ending) (w' : World) : Prop := ∃ x b, e = .returned (.tuple #[.string x, .bool b]) ∧ Below W.heap.size W w'
/-- The bytes that are gone through. -/
def rowC0 (W : World) (t : ByteArray) : Array Value := Lib.bytesCells (W.alloc (.cells #[.pointer none, .slice none 0 0] 177)) 5 t
/-- In the loop: the builder, and the bytes that are gone through. -/
structure ContI (W : World) (t : ByteArray) (l : List UInt8) (v : Value) (w : World) : Prop where
  bl : BlAt W.heap.size W.heap.size v (Lib.byteCells l) w
  low : ∀ c, v.ownBlock = some c → W.heap.size ≤ c ∧ c ≠ W.heap.size + 1
  row : w.heap[W.heap.size + 1]? = some (.cells (rowC0 W t) 5 ((rowC0 W t).size, (rowC0 W t).size + 1))
  below : Below W.heap.size W w
theorem ContI.start (W : World) (t : ByteArray) : ContI W t [] (.slice none 0 0) (Lib.bytesWorld (W.alloc (.cells #[.pointer none, .slice none 0 0] 177)) 5 t) := by
  have hs : (W.alloc (.cells #[.pointer none, .slice none 0 0] 177)).heap.size = W.heap.size + 1 := by simp
  refine ⟨⟨⟨.pointer none, ?_, .inl rfl⟩, ⟨rfl, .inl ⟨rfl, rfl⟩⟩, by simp [Value.ownBlock]⟩, fun c hc => by simp [Value.ownBlock] at hc, ?_, ⟨rfl, rfl, rfl, ?_, fun k hk => ?_⟩⟩
  · rw [Lib.bytesWorld_at_old _ 5 t W.heap.size (by omega)]
    exact heap_alloc_new W _
  · have := Lib.bytesWorld_at_new (W.alloc (.cells #[.pointer none, .slice none 0 0] 177)) 5 t
    rw [hs] at this
    exact this
  · rw [Lib.bytesWorld_size]; omega
  · rw [Lib.bytesWorld_at_old _ 5 t k (by omega)]
    exact Lib.alloc_old W _ k hk
theorem ContI.cell {W : World} {t : ByteArray} {l : List UInt8} {v : Value} {w : World} (h : ContI W t l v w) {k : Nat} (hk : k < t.size) : w.cell? ⟨W.heap.size + 1, k, none⟩ = some (.int .u8 (t.data.toList.getD k 0).toNat) := by
  have := Lib.bytesWorld_cell (W.alloc (.cells #[.pointer none, .slice none 0 0] 177)) 5 t k hk
  have hs : (W.alloc (.cells #[.pointer none, .slice none 0 0] 177)).heap.size = W.heap.size + 1 := by simp
  have h2 := Lib.bytesWorld_at_new (W.alloc (.cells #[.pointer none, .slice none 0 0] 177)) 5 t
  rw [hs] at this h2
  rw [Lib.cell_of_heap h2] at this
  rw [Lib.cell_of_heap h.row]
  exact this
/-- A byte is written. -/
theorem ContI.write {W : World} {t : ByteArray} {l : List UInt8} {v v' : Value} {w w' : World} (h : ContI W t l v w) (x : UInt8) (hb : BlAt W.heap.size W.heap.size v' (Lib.byteCells l ++ [.int .u8 x.toNat]) w') (ht : BlTo W.heap.size v w w') : ContI W t (l ++ [x]) v' w' := by
  have e : Lib.byteCells (l ++ [x]) = Lib.byteCells l ++ [.int .u8 x.toNat] := by rw [Lib.byteCells_append]; rfl
  have hlt : W.heap.size + 1 < w.heap.size := (Array.getElem?_eq_some_iff.1 h.row).1
  have hrow : w'.heap[W.heap.size + 1]? = some (.cells (rowC0 W t) 5 ((rowC0 W t).size, (rowC0 W t).size + 1)) := by
    rw [ht.old _ hlt (by omega) (fun e => (h.low _ e).2 rfl)]
    exact h.row
  refine ⟨by rw [e]; exact hb, fun c hc => ?_, hrow, below_blto h.below ht (Nat.le_refl _) (fun c hc => (h.low c hc).1) h.below.size⟩
  rcases hb.row.2 with ⟨rfl, _⟩ | ⟨g, cap, cur, rfl, hg, hh, _⟩
  · simp [Value.ownBlock] at hc
  · simp only [Value.ownBlock, Option.some.injEq] at hc
    subst hc
    refine ⟨hg, fun e => ?_⟩
    rw [e, hrow] at hh
    simp at hh
theorem ContI.isB {W : World} {t : ByteArray} {l : List UInt8} {v : Value} {w : World} (h : ContI W t l v w) : Lib.IsBuilder 177 5 W.heap.size W.heap.size (Lib.byteCells l) w := by
  obtain ⟨p, hb, rfl | rfl⟩ := h.bl.at_
  · exact .inl ⟨Nat.le_refl _, v, hb, h.bl.row, h.bl.ne⟩
  · exact .inr ⟨Nat.le_refl _, v, hb, h.bl.row, h.bl.ne⟩
set_option maxHeartbeats 2000000 in
theorem content (s : ByteArray) (hs : s.size ≤ 140737488355327) (w : World) : Calls Tryz.prog 107 #[.string s] w (ContR w) := by
  go_enter Tryz.func107, Tryz.ntmps107
  by_cases h2 : s.size < 2
  · go_wp2
    go_ret2
    exact ⟨_, _, rfl, Below.refl _ _⟩
  · have hsl : ∀ w : World, (Instr.sliceAt 9 (.string s) (some (.int .i64 1)) (some (.int .i64 ((s.size : Int) - 1))) none).run Tryz.prog w = .ok (.string (s.extract 1 (s.size - 1))) w := by
      intro w
      obtain ⟨v, h1, h2⟩ := evSlice_sound hT (g := ⟨fun _ _ => none, fun _ => 0, fun _ => none, fun _ => .none, fun _ => false⟩) (w := w) (t := 9) (a := .d (eS s)) (p := .d (eS (s.extract 1 (s.size - 1)))) (lo := some (.d (eI 1))) (hi := some (.d (eI ((s.size : Int) - 1)))) (va := .string s) (vlo := some (.int .i64 1)) (vhi := some (.int .i64 ((s.size : Int) - 1))) ⟨rfl, rfl⟩ ⟨rfl, rfl⟩ ⟨rfl, rfl⟩
        (φ := 0 ≤ (1 : Int) ∧ (1 : Int) ≤ (s.size : Int) - 1 ∧ (s.size : Int) - 1 ≤ (s.size : Int)) (by
          have e : ((s.size : Int) - 1).toNat = s.size - 1 := by omega
          show some (PV.d (.lit (.string (s.extract 1 ((s.size : Int) - 1).toNat))), _) = _
          rw [e]
          rfl) (by omega)
      obtain ⟨rfl, _⟩ := h2
      exact h1
    have hts : (s.extract 1 (s.size - 1)).size ≤ s.size := by rw [ByteArray.size_extract]; omega
    go_wp2
    · go_ret2
      exact ⟨_, _, rfl, Below.refl _ _⟩
    · clear hsl
      generalize ht : s.extract 1 (s.size - 1) = t at hts ⊢
      clear ht
      rw [Lib.run_convert_string_bytes _ 9 175 5 _ Tryz.underlying9 Tryz.underlying175 Tryz.underlying5]
      simp only [Result.andThen]
      rw [Oper.upon_value]
      go_wp2
      have H0 : Hid (∃ v l, ContI w t l v (Lib.bytesWorld (w.alloc (.cells #[.pointer none, .slice none 0 0] 177)) 5 t) ∧ l.length ≤ 0) := ⟨_, _, ContI.start w t, Nat.le_refl _⟩
      go_loopw [33, 6] (fun i esc wr => ∃ k : Nat, k ≤ t.size ∧ i = .int .i64 k ∧ (∃ b : Bool, esc = .bool b) ∧ Hid (∃ v l, ContI w t l v wr ∧ l.length ≤ k)) (fun i _ _ => t.size - (intOf i).toNat)
      case atStart => exact ⟨0, Nat.zero_le _, rfl, ⟨false, rfl⟩, H0⟩
      case round =>
        obtain ⟨k, hk, rfl, ⟨esc, rfl⟩, HI⟩ := hrel
        obtain ⟨v, l, HC, hbl⟩ := HI
        have hB := HC.below.size
        by_cases hlt : k < t.size
        · have hcell := HC.cell hlt
          generalize t.data.toList.getD k 0 = x at hcell
          have HX : Hid (ContI w t l v wr) := HC
          clear HC
          have hlen : (Lib.byteCells l).length + 1 ≤ 140737488355328 := by rw [Lib.byteCells_length]; omega
          have HN : Hid (∃ v l', ContI w t l' v wr ∧ l'.length ≤ k + 1) := ⟨v, l, HX, by omega⟩
          have HW : ∀ y : UInt8, Calls Tryz.prog 127 #[.pointer (some ⟨w.heap.size, 0, none⟩), .int .u8 y.toNat] wr fun e w' => e = .returned .nilIface ∧ Hid (∃ v l', ContI w t l' v w' ∧ l'.length ≤ k + 1) := fun y =>
            (wb w.heap.size w.heap.size v (Lib.byteCells l) y.toNat wr HX.out.bl hB hlen).mono fun e w' ⟨h1, v', h2, h3⟩ => ⟨h1, v', l ++ [y], HX.out.write y h2 h3, by rw [List.length_append, List.length_singleton]; omega⟩
          have HW10 : Calls Tryz.prog 127 #[.pointer (some ⟨w.heap.size, 0, none⟩), .int .u8 10] wr fun e w' => e = .returned .nilIface ∧ Hid (∃ v l', ContI w t l' v w' ∧ l'.length ≤ k + 1) := HW 10
          have HWx := HW x
          have hret : Below w.heap.size w wr := HX.out.below
          clear HW hlen hbl HX H0
          generalize (x.toNat : Int) = y at hcell HWx
          cases esc with
          | false =>
            by_cases e1 : y = 92
            · go_wp2
              exact ⟨⟨k + 1, by omega, by go_num, ⟨_, rfl⟩, HN⟩, by simp [intOf]; omega⟩
            · by_cases e2 : y = 34
              · go_wp2
                go_ret2
                exact ⟨_, _, rfl, hret⟩
              · by_cases e3 : y = 10
                · go_wp2
                  go_ret2
                  exact ⟨_, _, rfl, hret⟩
                · have e2' : (y == 34) = false := by simpa using e2
                  have e3' : (y == 10) = false := by simpa using e3
                  go_wp2_with (go_at_call 127; refine HWx.mono ?_)
                  rintro e w' ⟨rfl, H1⟩
                  go_wp2
                  exact ⟨⟨k + 1, by omega, by go_num, ⟨_, rfl⟩, H1⟩, by simp [intOf]; omega⟩
          | true =>
            by_cases e1 : y = 110
            · go_wp2_with (go_at_call 127; refine HW10.mono ?_)
              rintro e w' ⟨rfl, H1⟩
              go_wp2
              exact ⟨⟨k + 1, by omega, by go_num, ⟨_, rfl⟩, H1⟩, by simp [intOf]; omega⟩
            · by_cases e2 : y = 34
              · subst e2
                go_wp2_with (go_at_call 127; refine HWx.mono ?_)
                rintro e w' ⟨rfl, H1⟩
                go_wp2
                exact ⟨⟨k + 1, by omega, by go_num, ⟨_, rfl⟩, H1⟩, by simp [intOf]; omega⟩
              · by_cases e3 : y = 92
                · subst e3
                  go_wp2_with (go_at_call 127; refine HWx.mono ?_)
                  rintro e w' ⟨rfl, H1⟩
                  go_wp2
                  exact ⟨⟨k + 1, by omega, by go_num, ⟨_, rfl⟩, H1⟩, by simp [intOf]; omega⟩
                · go_wp2
                  go_ret2
                  exact ⟨_, _, rfl, hret⟩
        · have hke : k = t.size := by omega
          subst hke
          have HX : Hid (ContI w t l v wr) := HC
          clear HC
          have HS := Tryz.Builder_String_any w.heap.size w.heap.size l wr HX.out.isB hB
          have hret : Below w.heap.size w wr := HX.out.below
          clear HX H0
          go_wp2_with (go_at_call 128; refine HS.mono ?_)
          rintro e w' ⟨rfl, hbw⟩
          go_wp2
          go_ret2
          exact ⟨_, _, rfl, hret.trans hbw⟩
    · go_ret2
      exact ⟨_, _, rfl, Below.refl _ _⟩
end Go.Pv
