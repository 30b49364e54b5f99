/- Part of the proofs over this seat: V8 V9 V10 V11. -/
import Derived.Test.YteohopnpcanfpaaGreatDoorZKh
import Derived.Test.YteohopnpcanfpaaGreatDoorZKd
import Derived.Test.YteohopnpcanfpaaGreatDoorZKi
import Derived.Lib.OwnBridge
import Derived.Sort.OwnSorted
set_option maxRecDepth 100000
namespace Go.Pv
open Go.RowKit Go.Proofs Go.Sort

/-- An array of texts. -/
def FS (L : List Bs) (q : Nat) : List D := [eS (L.getD q default)]
def raw (s : Bs) : List UInt8 := s.data.toList
def ofRaw (l : List UInt8) : Bs := ⟨l.toArray⟩
theorem encStr_raw (s : Bs) : encStr (raw s) = .string s := by
  simp [encStr, raw]
theorem ofRaw_raw (s : Bs) : ofRaw (raw s) = s := by simp [ofRaw, raw]
theorem raw_ofRaw (l : List UInt8) : raw (ofRaw l) = l := by simp [ofRaw, raw]
theorem strs_cs {π : Prom} {L : List Bs} {cs : List Value} (hl : cs.length = L.length * 1) (h : ∀ i, i < L.length → RepL π (FS L i) ((cs.drop (i * 1)).take 1)) : cs = (L.map raw).map encStr := by
  apply List.ext_getElem?
  intro i
  by_cases hi : i < L.length
  · obtain ⟨v, vs', he, _, ⟨hv, _⟩, _⟩ := h i hi
    have : cs[i]? = some v := by
      have h2 : ((cs.drop (i * 1)).take 1)[0]? = some v := by rw [he]; rfl
      rw [List.getElem?_take_of_lt (by omega), List.getElem?_drop] at h2
      simpa using h2
    rw [this, hv]
    simp only [List.map_map, List.getElem?_map, Function.comp_def, encStr_raw, List.getElem?_eq_getElem hi, Option.map_some, List.getD_eq_getElem?_getD, Option.getD_some]
  · rw [List.getElem?_eq_none (by omega), List.getElem?_eq_none (by simp; omega)]
theorem cs_strs {π : Prom} {zs : List (List UInt8)} {i : Nat} (hi : i < zs.length) : RepL π (FS (zs.map ofRaw) i) (((zs.map encStr).drop (i * 1)).take 1) := by
  have e : ((zs.map encStr).drop (i * 1)).take 1 = [.string ⟨zs[i].toArray⟩] := by
    rw [Nat.mul_one, List.drop_eq_getElem_cons (by simpa using hi), List.take_succ_cons, List.take_zero]
    simp [encStr]
  rw [e]
  refine ⟨_, [], rfl, rfl, ⟨?_, rfl⟩, rfl⟩
  simp [List.getD_eq_getElem?_getD, hi, ofRaw]
def sortS (L : List Bs) : List Bs := ((L.map raw).mergeSort fun x y => decide (x ≤ y)).map ofRaw
def compactS (L : List Bs) : List Bs := (Lib.compact (L.map raw)).map ofRaw
theorem sortS_length (L : List Bs) : (sortS L).length = L.length := by simp [sortS]

/-- slices.Sort at texts. -/
theorem f96 (L : List Bs) (b : Bool) (hL : L.length < 4611686018427387904) : AF Tryz.prog 96 [.sl (.par 0) L.length] [.arr b 9 1 L.length (FS L) none] (fun o p => o = .ret (.tup []) ∧ p = [.arr b 9 1 L.length (FS (sortS L)) none]) := by
  refine AF.arrIn (rest := []) (F' := FS (sortS L)) (by unfold Enters; kernel_rfl) ⟨rfl, rfl⟩ ?_
  rintro g w u cs vs hp hG hown h1 hF hvs
  cases hvs
  have hcs := strs_cs hown.1 hF
  subst hcs
  by_cases hu : u = .slice none 0 0
  · subst hu
    have h0 : L.length = 0 := by
      rcases hown.2 with ⟨_, h⟩ | ⟨_, _, _, h, _⟩
      · exact h
      · cases h
    refine (Tryz.slices_Sort_string_none none 0 w).mono ?_
    rintro e w' ⟨rfl, rfl⟩
    exact ⟨_, rfl, hown, ⟨rfl, rfl, rfl, Nat.le_refl _, fun _ _ _ => rfl⟩, h1, fun i hi => by omega⟩
  · obtain ⟨g0, cap, rfl, _, hlt, hncap, hcm, hlen, hH⟩ := Lib.holds_of_ownsRow hown hu
    rcases hown.2 with ⟨e0, _⟩ | ⟨g', cap', cur, e0, hb, hg, hn, hm, hs, ht⟩
    · cases e0
    · cases e0
      have hc := Tryz.slices_Sort_string g0 0 cap (L.map raw) w hH hlt (by simpa using hL)
      rw [hlen] at hc
      refine hc.mono ?_
      rintro e w' ⟨rfl, n, os, rfl⟩
      have hl2 : ((L.map raw).mergeSort fun x y => decide (x ≤ y)).length = (L.map raw).length := List.length_mergeSort _
      have hso := ownsRow_sorted (n := n) (os := os) (ts := (L.map raw).mergeSort fun x y => decide (x ≤ y)) hl2 hb hg (by rw [hlen]; exact hn) hm hs
      rw [hlen] at hso
      refine ⟨_, rfl, hso, grownBy_sorted _, ?_, fun i hi => ?_⟩
      · intro c hc
        simp only [List.mem_map] at hc
        obtain ⟨x, _, rfl⟩ := hc
        rfl
      · exact cs_strs (by rw [hl2]; simpa using hi)
/-- slices.Compact at texts. -/
theorem f97 (L : List Bs) (b : Bool) (hL : L.length ≤ maxLen) : AF Tryz.prog 97 [.sl (.par 0) L.length] [.arr b 9 1 L.length (FS L) none] (fun o p => o = .ret (.sl (.par 1) (compactS L).length) ∧ p = [.gone b (some L.length), .arr false 9 1 (compactS L).length (FS (compactS L)) none]) := by
  refine AF.arr1 (rest := []) (F' := FS (compactS L)) (by unfold Enters; kernel_rfl) ⟨rfl, rfl⟩ ?_
  rintro g w u cs vs hp hG hown h1 hF hvs
  cases hvs
  have hcs := strs_cs hown.1 hF
  subst hcs
  have hle := Lib.compact_length_le (L.map raw)
  have hlc : (compactS L).length = (Lib.compact (L.map raw)).length := by simp [compactS]
  by_cases hu : u = .slice none 0 0
  · subst hu
    have h0 : L.length = 0 := by
      rcases hown.2 with ⟨_, h⟩ | ⟨_, _, _, h, _⟩
      · exact h
      · cases h
    have hL0 : L = [] := List.eq_nil_of_length_eq_zero h0
    subst hL0
    have hc0 : (compactS []).length = 0 := by rw [hlc]; simpa using hle
    refine (Tryz.slices_Compact_string_empty none 0 w).mono ?_
    rintro e w' ⟨rfl, rfl⟩
    refine ⟨.slice none 0 0, [], rfl, by rw [hc0]; exact World.ownsRow_nil w' 0 9 1, ⟨rfl, rfl, rfl, Nat.le_refl _, fun _ _ _ => rfl⟩, fun b hb => .inl hb, by simp, fun i hi => by omega⟩
  · obtain ⟨g0, cap, rfl, _, hlt, hncap, hcm, hlen, hH⟩ := Lib.holds_of_ownsRow hown hu
    have hc := Tryz.slices_Compact_string g0 0 cap (L.map raw) w hH (by rw [hlen]; simp only [maxLen] at hL; omega) (by rw [hlen]; exact hncap)
    rw [hlen] at hc hle
    refine hc.mono ?_
    rintro e w' ⟨rfl, q, rfl⟩
    have hco := Lib.ownsRow_putRow (q := q) (k := (Lib.compact (L.map raw)).length) (ys := Lib.compact (L.map raw) ++ List.replicate (L.length - (Lib.compact (L.map raw)).length) []) hown (by simp; omega) (by omega)
    rw [List.take_left] at hco
    rw [hlc]
    refine ⟨_, _, rfl, hco, ?_, fun b hb => .inl hb, ?_, fun i hi => cs_strs hi⟩
    · have := grownBy_sorted (w := w) (g := g0) (n := q) (os := #[]) (Lib.compact (L.map raw) ++ List.replicate (L.length - (Lib.compact (L.map raw)).length) []).toArray
      show w.grownBy _ (some g0)
      simpa using this
    · intro c hc
      simp only [List.mem_map] at hc
      obtain ⟨x, _, rfl⟩ := hc
      rfl
end Go.Pv
namespace Go.Pv
open Go.RowKit Go.Proofs

/-- slices.IndexFunc, ContainsFunc at texts of one's own. -/
theorem f118 (L : List Bs) (F : FuncId) (q : Bs → Bool) (hl : L.length ≤ maxLen) (hf : ∀ s, s ∈ L → AF Tryz.prog F [.d (eS s)] [] (fun o p => o = .ret (.d (.lit (.bool (q s)))) ∧ p = [])) :
    AF Tryz.prog 118 [.sl (.par 0) L.length, .fn (.func F) [] []] [.arr true 9 1 L.length (FS L) none] (fun o p => o = .ret (.d (eI (idx q L))) ∧ p = [.arr true 9 1 L.length (FS L) none]) := by
  refine AF.intro hT Tryz.func118 rfl (by kernel_rfl) (Nat.le_of_ble_eq_true rfl) ?_
  repeat (first | refine wA0 rfl rfl rfl rfl ?_ | refine AL.nil ?_ | refine AW.seq ?_ | refine AW.region ?_ | refine AW.block ?_)
  refine AW.weak (Weak.keep [0,1,7,8] [.par 0] rfl rfl) ?_
  refine AW.loop (I := fun n st => ∃ i : Nat, i + n = L.length ∧ (∀ k, k < i → q (L.getD k default) = false) ∧ st = ⟨19, [(0, .sl (.par 0) L.length), (1, .fn (.func F) [] []), (7, .d (eI L.length)), (8, .d (eI i))], [(.par 0, .arr true 9 1 L.length (FS L) none)]⟩) L.length ⟨0, by omega, fun k hk => by omega, rfl⟩ ?_
  rintro n st ⟨i, hi, hk, rfl⟩
  repeat (first | refine wA0 rfl rfl rfl rfl ?_ | refine AL.nil ?_ | refine AW.seq ?_ | refine AW.region ?_)
  refine AW.cond rfl (fun hlt => ?_) (fun hlt => ?_)
  · have hlt' : i < L.length := by simpa using hlt
    repeat (first | refine wA0 rfl rfl rfl rfl ?_ | refine AL.nil ?_ | refine AW.seq ?_ | refine AW.region ?_ | refine AW.skip ?_ | refine AW.block ?_)
    refine AL.call0 rfl rfl rfl (hf _ (mem_getD hlt')) rfl rfl rfl ?_
    repeat (refine AL.nil ?_)
    refine AW.cond rfl (fun hc => ?_) (fun hc => ?_)
    · repeat' (first | refine wA0 rfl rfl rfl rfl ?_ | refine AL.nil ?_ | refine AW.seq ?_ | refine AW.region ?_ | (refine AW.ret ?_; refine ⟨[], _, _, rfl, rfl, ⟨?_, rfl⟩, rfl⟩))
      exact congrArg (fun b => AOut.ret (.d (.lit (.int .i64 b)))) (idx_hit hlt' hk hc).symm
    · repeat (first | refine wA0 rfl rfl rfl rfl ?_ | refine AL.nil ?_ | refine AW.region ?_ | refine AW.skip ?_)
      refine ⟨n - 1, _, by omega, Weak.keep [0,1,7,8] [.par 0] rfl rfl, i + 1, by omega, le_step hk hc, ?_⟩
      rw [i64s (by omega)]
      rfl
  · obtain rfl : i = L.length := by
      have : ¬ ((i : Int) < (L.length : Int)) := by simpa using hlt
      omega
    repeat' (first | refine wA0 rfl rfl rfl rfl ?_ | refine AL.nil ?_ | refine AW.seq ?_ | refine AW.region ?_ | refine AW.exit ?_ | (refine AW.ret ?_; refine ⟨[], _, _, rfl, rfl, ⟨?_, rfl⟩, rfl⟩))
    exact congrArg (fun b => AOut.ret (.d (.lit (.int .i64 b)))) (idx_miss hk).symm
theorem f95 (s : Bs) (hs : s.size ≤ maxLen) : AF Tryz.prog 95 [.d (eS s)] [] (fun o p => o = .ret (.d (.lit (.bool (!nameF s)))) ∧ p = []) := by
  refine AF.intro hT Tryz.func95 rfl (by kernel_rfl) (Nat.le_of_ble_eq_true rfl) ?_
  repeat (first | refine wA0 rfl rfl rfl rfl ?_ | refine AL.nil ?_ | refine AW.seq ?_ | refine AW.region ?_)
  refine AL.call0 rfl rfl rfl (f93 s hs) rfl rfl rfl ?_
  repeat' (first | refine wA0 rfl rfl rfl rfl ?_ | refine AL.nil ?_ | (refine AW.ret ?_; refine ⟨[], _, _, rfl, rfl, ⟨?_, rfl⟩, rfl⟩))
  rfl
def badNames (L : List Bs) : Bool := decide (idx (fun s => !nameF s) L ≥ 0)
theorem f94 (L : List Bs) (hl : L.length ≤ maxLen) (hs : ∀ s, s ∈ L → s.size ≤ maxLen) :
    AF Tryz.prog 94 [.sl (.par 0) L.length, .fn (.func 95) [] []] [.arr true 9 1 L.length (FS L) none] (fun o p => o = .ret (.d (.lit (.bool (badNames L)))) ∧ p = [.arr true 9 1 L.length (FS L) none]) := by
  refine AF.intro hT Tryz.func94 rfl (by kernel_rfl) (Nat.le_of_ble_eq_true rfl) ?_
  repeat (first | refine wA0 rfl rfl rfl rfl ?_ | refine AL.nil ?_ | refine AW.seq ?_ | refine AW.region ?_)
  refine AL.effN _ (VE.call [.par 0] [] rfl rfl rfl rfl rfl (f118 L 95 (fun s => !nameF s) hl (fun s h => f95 s (hs s h))) (fun _ _ h => h) rfl) rfl rfl rfl rfl rfl ?_
  repeat' (first | refine wA0 rfl rfl rfl rfl ?_ | refine AL.nil ?_ | (refine AW.ret ?_; refine ⟨[], _, _, rfl, rfl, ⟨?_, rfl⟩, rfl⟩))
  rfl
end Go.Pv
namespace Go.Pv
open Go.RowKit Go.Proofs

def namesOf (l : List At) : List Bs := l.flatMap (fun a => a.name :: a.was)
theorem FS_left {L M : List Bs} {q : Nat} (h : q < L.length) : FS (L ++ M) q = FS L q := by
  simp [FS, List.getD_eq_getElem?_getD, List.getElem?_append_left h]
theorem FS_right {L M : List Bs} {q : Nat} : FS (L ++ M) (L.length + q) = FS M q := by
  simp only [FS, List.getD_eq_getElem?_getD]
  rw [List.getElem?_append_right (by omega), Nat.add_sub_cancel_left]
theorem namesOf_succ {l : List At} {i : Nat} (h : i < l.length) : namesOf (l.take (i + 1)) = namesOf (l.take i) ++ [(l.getD i default).name] ++ (l.getD i default).was := by
  have : l.take (i + 1) = l.take i ++ [l.getD i default] := by
    rw [List.take_succ_eq_append_getElem h, List.getD_eq_getElem?_getD, List.getElem?_eq_getElem h]
    rfl
  rw [this]
  simp [namesOf]
theorem namesOf_le {l : List At} {i : Nat} : (namesOf (l.take i)).length ≤ (namesOf l).length := by
  have : namesOf l = namesOf (l.take i) ++ namesOf (l.drop i) := by
    rw [namesOf, namesOf, namesOf, ← List.flatMap_append, List.take_append_drop]
  rw [this]
  simp
/-- schema.right, its parts. -/
def attrBad (a : At) : Bool := bif (bif decide (a.kind < 1) then true else decide (a.kind > 4)) then true else !fitF a.kind a.dflt
def keyBad (t : Tb) (i : Nat) : Bool := bif (bif decide (t.key.getD i 0 < 0) then true else decide (t.key.getD i 0 ≥ (t.attrs.length : Int))) then true else bif decide ((i : Int) > 0) then decide (t.key.getD i 0 ≤ t.key.getD (i - 1) 0) else false
def rightF (t : Tb) : Bool :=
  bif (bif (bif (bif !nameF t.name then true else (t.attrs.length : Int) == 0) then true else decide ((t.attrs.length : Int) > 12)) then true else (t.key.length : Int) == 0) then false
  else bif t.attrs.any attrBad then false
  else bif badNames (namesOf t.attrs) then false
  else bif decide (((compactS (sortS (namesOf t.attrs))).length : Int) < ((namesOf t.attrs).length : Int)) then false
  else !(List.range t.key.length).any (keyBad t)
theorem keyBad_wrap (t : Tb) {i : Nat} (hi : i < maxLen) : keyBad t i = bif (bif decide (t.key.getD i 0 < 0) then true else decide (t.key.getD i 0 ≥ (t.attrs.length : Int))) then true else bif decide ((i : Int) > 0) then decide (t.key.getD i 0 ≤ t.key.getD (IntKind.i64.wrap ((i : Int) - 1)).toNat 0) else false := by
  rcases Nat.eq_zero_or_pos i with h | h
  · subst h
    rfl
  · have : (IntKind.i64.wrap ((i : Int) - 1)).toNat = i - 1 := by
      rw [IntWalk.i64_in _ (by simp only [maxLen] at hi; omega)]
      omega
    rw [this]
    rfl
structure OkN (t : Tb) : Prop where
  name : t.name.size ≤ maxLen
  names : ∀ s, s ∈ namesOf t.attrs → s.size ≤ maxLen
  total : (namesOf t.attrs).length * 16 ≤ 140737488355328
  attrs : t.attrs.length ≤ maxLen
  key : t.key.length ≤ maxLen
theorem f58 (t : Tb) (ht : OkN t) : AF Tryz.prog 58 [.d (eT t)] [] (fun o p => o = .ret (.d (.lit (.bool (rightF t)))) ∧ p = []) := by
  refine AF.intro hT Tryz.func58 rfl (by kernel_rfl) (Nat.le_of_ble_eq_true rfl) ?_
  repeat (first | refine wA0 rfl rfl rfl rfl ?_ | refine AL.nil ?_ | refine AW.seq ?_ | refine AW.region ?_ | refine bA rfl rfl rfl rfl rfl rfl ?_)
  refine AL.call0 rfl rfl rfl (f93 t.name ht.name) rfl rfl rfl ?_
  repeat (first | refine wA0 rfl rfl rfl rfl ?_ | refine wA1 rfl rfl rfl rfl rfl ?_ | refine AL.nil ?_)
  refine AW.cond rfl (fun h1 => ?_) (fun h1 => ?_)
  · repeat' (first | refine wA0 rfl rfl rfl rfl ?_ | refine AL.nil ?_ | refine AW.seq ?_ | refine AW.region ?_ | (refine AW.ret ?_; refine ⟨[], _, _, rfl, rfl, ⟨?_, rfl⟩, rfl⟩))
    refine congrArg (fun b => AOut.ret (.d (.lit (.bool b)))) ?_
    have h1' : (bif (bif (bif !nameF t.name then true else (t.attrs.length : Int) == 0) then true else decide ((t.attrs.length : Int) > 12)) then true else (t.key.length : Int) == 0) = true := h1
    simp only [rightF, h1', cond_true]
  · have h1' : (bif (bif (bif !nameF t.name then true else (t.attrs.length : Int) == 0) then true else decide ((t.attrs.length : Int) > 12)) then true else (t.key.length : Int) == 0) = false := h1
    repeat (first | refine wA0 rfl rfl rfl rfl ?_ | refine AL.nil ?_ | refine AW.seq ?_ | refine AW.region ?_ | refine AW.skip ?_ | refine AW.block ?_)
    refine AW.weak (Weak.seed 3 100 9 1 (FS []) rfl rfl) ?_
    refine AW.weak (Weak.keep [1,3,31,32,33] [.loc 1,.loc 100] rfl rfl) ?_
    refine AW.loop (I := fun n st => ∃ i : Nat, i + n = t.attrs.length ∧ (∀ k, k < i → attrBad (t.attrs.getD k default) = false) ∧ st = ⟨104, [(1, .ptr (.loc 1) 0), (3, .sl (.loc 100) (namesOf (t.attrs.take i)).length), (31, .d (eAs t.attrs)), (32, .d (eI t.attrs.length)), (33, .d (eI i))],
      [(.loc 1, .cells [.d (eS t.name), .d (eAs t.attrs), .d (eIs t.key)]), (.loc 100, .arr false 9 1 (namesOf (t.attrs.take i)).length (FS (namesOf (t.attrs.take i))) none)]⟩) t.attrs.length ⟨0, by omega, fun k hk => by omega, rfl⟩ ?_
    rintro n st ⟨i, hi, hk, rfl⟩
    have hattrs := ht.attrs
    repeat (first | refine wA0 rfl rfl rfl rfl ?_ | refine AL.nil ?_ | refine AW.seq ?_ | refine AW.region ?_)
    refine AW.cond rfl (fun hlt => ?_) (fun hlt => ?_)
    · have hlt' : i < t.attrs.length := by simpa using hlt
      repeat (first | refine wA0 rfl rfl rfl rfl ?_ | refine wA1 rfl rfl rfl rfl rfl ?_ | refine AL.nil ?_ | refine AW.seq ?_ | refine AW.region ?_ | refine AW.skip ?_ | refine AW.block ?_ | refine sA rfl rfl rfl rfl rfl rfl rfl rfl rfl ?_ | refine bA rfl rfl rfl rfl rfl rfl ?_)
      refine kA1 rfl rfl rfl rfl (fun hγ => f62 _ _ _ _) rfl rfl rfl ?_
      repeat (first | refine wA0 rfl rfl rfl rfl ?_ | refine wA1 rfl rfl rfl rfl rfl ?_ | refine AL.nil ?_)
      refine AW.cond rfl (fun hc => ?_) (fun hc => ?_)
      · repeat' (first | refine wA0 rfl rfl rfl rfl ?_ | refine AL.nil ?_ | refine AW.seq ?_ | refine AW.region ?_ | (refine AW.ret ?_; refine ⟨[], _, _, rfl, rfl, ⟨?_, rfl⟩, rfl⟩))
        refine congrArg (fun b => AOut.ret (.d (.lit (.bool b)))) ?_
        have hc' : attrBad (t.attrs.getD i default) = true := hc
        have : t.attrs.any attrBad = true := List.any_eq_true.2 ⟨_, mem_getD hlt', hc'⟩
        simp only [rightF, h1', this, cond_true, cond_false]
      · have hc' : attrBad (t.attrs.getD i default) = false := hc
        have hs := namesOf_succ hlt'
        have hle := namesOf_le (l := t.attrs) (i := i + 1)
        have htot := ht.total
        have hlen : (namesOf (t.attrs.take (i + 1))).length = (namesOf (t.attrs.take i)).length + 1 + (t.attrs.getD i default).was.length := by rw [hs]; simp only [List.length_append, List.length_singleton]
        repeat (first | refine AW.skip ?_ | refine dW ?_ | refine wG0 rfl rfl rfl rfl ?_)
        refine DG.effN _ (VE.bslice hT (d := 56) (FS [(t.attrs.getD i default).name]) rfl rfl rfl rfl rfl rfl rfl (fun q hq => ?_)) rfl rfl rfl rfl ?_
        · obtain rfl : q = 0 := by omega
          rfl
        refine DG.effN _ (VE.append hT (d := 57) (FS (namesOf (t.attrs.take i) ++ [(t.attrs.getD i default).name])) [.loc 100, .loc 56] rfl rfl rfl rfl rfl rfl rfl rfl rfl rfl ⟨rfl, ?_, ?_⟩ (fun q hq => FS_left hq) (fun q hq => FS_right)) rfl rfl rfl rfl ?_
        · simp only [maxLen]; omega
        · show _ * 16 ≤ _; omega
        repeat (refine wG0 rfl rfl rfl rfl ?_)
        refine DG.effN _ (VE.append hT (d := 60) (FS (namesOf (t.attrs.take (i + 1)))) [.loc 57] rfl rfl rfl rfl rfl trivial rfl rfl rfl rfl ⟨rfl, ?_, ?_⟩ (fun q hq => ?_) (fun q hq => ?_)) rfl rfl rfl rfl ?_
        · simp only [maxLen]; show (namesOf (t.attrs.take i)).length + 1 + (t.attrs.getD i default).was.length ≤ _; omega
        · show ((namesOf (t.attrs.take i)).length + 1 + (t.attrs.getD i default).was.length) * 16 ≤ _; omega
        · rw [hs]; exact FS_left (by simpa using hq)
        · rw [hs]
          have := FS_right (L := namesOf (t.attrs.take i) ++ [(t.attrs.getD i default).name]) (M := (t.attrs.getD i default).was) (q := q)
          rw [List.length_append] at this
          exact this
        repeat (first | refine wA0 rfl rfl rfl rfl ?_ | refine AL.nil ?_ | refine AW.region ?_ | refine wG0 rfl rfl rfl rfl ?_ | refine nG ?_)
        refine ⟨n - 1, _, by omega, Weak.trans (Weak.keep [1,3,31,32,33] [.loc 1,.loc 60] rfl rfl) (Weak.mv 60 100 rfl rfl), i + 1, by omega, le_step hk hc', ?_⟩
        rw [i64s (by omega), hlen]
        rfl
    · obtain rfl : i = t.attrs.length := by
        have : ¬ ((i : Int) < (t.attrs.length : Int)) := by simpa using hlt
        omega
      have hany : t.attrs.any attrBad = false := by
        rw [List.any_eq_false]
        intro x hx
        obtain ⟨k, hk1, rfl⟩ := List.getElem_of_mem hx
        have := hk k hk1
        simpa [List.getD_eq_getElem?_getD, hk1] using this
      have htot := ht.total
      have hk' := ht.key
      refine AW.exit ?_
      refine AW.weak (Weak.trans (Weak.keep [1,3] [.loc 1,.loc 100] rfl rfl) (Weak.fixN 100 true rfl rfl)) ?_
      rw [List.take_length]
      generalize hL : namesOf t.attrs = L at *
      have hs : ∀ s, s ∈ L → s.size ≤ maxLen := by rw [← hL]; exact ht.names
      repeat (first | refine wA0 rfl rfl rfl rfl ?_ | refine AW.seq ?_ | refine AW.region ?_)
      refine AL.effN _ (VE.call [.loc 100] [] rfl rfl rfl rfl rfl (f94 L (by simp only [maxLen]; omega) hs) (fun _ _ h => h) rfl) rfl rfl rfl rfl rfl ?_
      repeat (refine AL.nil ?_)
      refine AW.cond rfl (fun h2 => ?_) (fun h2 => ?_)
      · repeat' (first | refine wA0 rfl rfl rfl rfl ?_ | refine AL.nil ?_ | refine AW.seq ?_ | refine AW.region ?_ | (refine AW.ret ?_; refine ⟨[], _, _, rfl, rfl, ⟨?_, rfl⟩, rfl⟩))
        refine congrArg (fun b => AOut.ret (.d (.lit (.bool b)))) ?_
        simp only [rightF, h1', hany, hL, h2, cond_true, cond_false]
      · repeat (first | refine wA0 rfl rfl rfl rfl ?_ | refine AW.seq ?_ | refine AW.region ?_ | refine AW.skip ?_)
        refine AL.effN _ (VE.call [.loc 100] [] rfl rfl rfl rfl rfl (f96 L true (by omega)) (fun _ _ h => h) rfl) rfl rfl rfl rfl rfl ?_
        repeat (first | refine wA0 rfl rfl rfl rfl ?_ | refine AL.nil ?_ | refine AW.seq ?_ | refine AW.region ?_)
        have hsl := sortS_length L
        rw [← hsl]
        refine AL.effN _ (VE.call [.loc 100] [.loc 67] rfl rfl rfl rfl rfl (f97 (sortS L) true (by rw [hsl]; simp only [maxLen]; omega)) (fun _ _ h => h) rfl) rfl rfl rfl rfl rfl ?_
        repeat (first | refine wA0 rfl rfl rfl rfl ?_ | refine AL.nil ?_)
        refine AW.cond rfl (fun h3 => ?_) (fun h3 => ?_)
        · repeat' (first | refine wA0 rfl rfl rfl rfl ?_ | refine AL.nil ?_ | refine AW.seq ?_ | refine AW.region ?_ | (refine AW.ret ?_; refine ⟨[], _, _, rfl, rfl, ⟨?_, rfl⟩, rfl⟩))
          refine congrArg (fun b => AOut.ret (.d (.lit (.bool b)))) ?_
          have h3' : decide (((compactS (sortS L)).length : Int) < (L.length : Int)) = true := by rw [← hsl]; exact h3
          simp only [rightF, h1', hany, hL, h2, h3', cond_true, cond_false]
        · have h3' : decide (((compactS (sortS L)).length : Int) < (L.length : Int)) = false := by rw [← hsl]; exact h3
          repeat (first | refine wA0 rfl rfl rfl rfl ?_ | refine AL.nil ?_ | refine AW.seq ?_ | refine AW.region ?_ | refine AW.skip ?_ | refine AW.block ?_)
          refine AW.weak (Weak.keep [1,73,74,75] [.loc 1] rfl rfl) ?_
          refine AW.loop (I := fun n st => ∃ i : Nat, i + n = t.key.length ∧ (∀ k, k < i → keyBad t k = false) ∧ st = ⟨104, [(1, .ptr (.loc 1) 0), (73, .d (eIs t.key)), (74, .d (eI t.key.length)), (75, .d (eI i))],
            [(.loc 1, .cells [.d (eS t.name), .d (eAs t.attrs), .d (eIs t.key)])]⟩) t.key.length ⟨0, by omega, fun k hk => by omega, rfl⟩ ?_
          rintro n st ⟨i, hi, hkb, rfl⟩
          repeat (first | refine wA0 rfl rfl rfl rfl ?_ | refine AL.nil ?_ | refine AW.seq ?_ | refine AW.region ?_)
          refine AW.cond rfl (fun hlt => ?_) (fun hlt => ?_)
          · have hlt' : i < t.key.length := by simpa using hlt
            have hix : 0 < i → 0 ≤ IntKind.i64.wrap ((i : Int) - 1) ∧ IntKind.i64.wrap ((i : Int) - 1) < (t.key.length : Int) := by
              intro h1
              rw [IntWalk.i64_in _ (by simp only [maxLen] at hk'; omega)]
              omega
            repeat (first | refine wA0 rfl rfl rfl rfl ?_ | refine wA1 rfl rfl rfl rfl rfl ?_ | refine AL.nil ?_ | refine AW.seq ?_ | refine AW.region ?_ | refine AW.skip ?_ | refine AW.block ?_)
            refine AW.cond rfl (fun hc => ?_) (fun hc => ?_)
            · repeat' (first | refine wA0 rfl rfl rfl rfl ?_ | refine AL.nil ?_ | refine AW.seq ?_ | refine AW.region ?_ | (refine AW.ret ?_; refine ⟨[], _, _, rfl, rfl, ⟨?_, rfl⟩, rfl⟩))
              refine congrArg (fun b => AOut.ret (.d (.lit (.bool b)))) ?_
              have hc' : keyBad t i = true := by rw [keyBad_wrap t (by omega)]; exact hc
              have : (List.range t.key.length).any (keyBad t) = true := List.any_eq_true.2 ⟨i, List.mem_range.2 hlt', hc'⟩
              simp only [rightF, h1', hany, hL, h2, h3', this, cond_false, Bool.not_true]
            · have hc' : keyBad t i = false := by rw [keyBad_wrap t (by omega)]; exact hc
              repeat (first | refine wA0 rfl rfl rfl rfl ?_ | refine AL.nil ?_ | refine AW.region ?_ | refine AW.skip ?_)
              refine ⟨n - 1, _, by omega, Weak.keep [1,73,74,75] [.loc 1] rfl rfl, i + 1, by omega, le_step hkb hc', ?_⟩
              rw [i64s (by omega)]
              rfl
          · obtain rfl : i = t.key.length := by
              have : ¬ ((i : Int) < (t.key.length : Int)) := by simpa using hlt
              omega
            repeat' (first | refine wA0 rfl rfl rfl rfl ?_ | refine AL.nil ?_ | refine AW.seq ?_ | refine AW.region ?_ | refine AW.exit ?_ | (refine AW.ret ?_; refine ⟨[], _, _, rfl, rfl, ⟨?_, rfl⟩, rfl⟩))
            refine congrArg (fun b => AOut.ret (.d (.lit (.bool b)))) ?_
            have : (List.range t.key.length).any (keyBad t) = false := by
              rw [List.any_eq_false]
              intro x hx
              simpa using hkb x (List.mem_range.1 hx)
            simp only [rightF, h1', hany, hL, h2, h3', this, cond_false, Bool.not_false]
end Go.Pv
namespace Go.Pv
open Go.RowKit Go.Proofs

theorem idx_lt {α : Type} (p : α → Bool) (l : List α) : idx p l < l.length ∨ (l.length = 0 ∧ idx p l = -1) := by
  unfold idx
  split
  · left; omega
  · rcases Nat.eq_zero_or_pos l.length with h | h
    · right; exact ⟨h, rfl⟩
    · left; omega
theorem idx_nat {α : Type} [Inhabited α] {p : α → Bool} {l : List α} (h : 0 ≤ idx p l) : ∃ n : Nat, idx p l = n ∧ n < l.length ∧ p (l.getD n default) = true ∧ ∀ k, k < n → p (l.getD k default) = false := by
  unfold idx at h ⊢
  split at h
  · rename_i hlt
    rw [if_pos hlt]
    refine ⟨_, rfl, hlt, ?_, fun k hk => ?_⟩
    · have := List.findIdx_getElem (w := hlt)
      simpa [List.getD_eq_getElem?_getD, hlt] using this
    · have := List.not_of_lt_findIdx hk
      simpa [List.getD_eq_getElem?_getD, Nat.lt_trans hk hlt] using this
  · omega
/-- schema.Valid. -/
def tabBad (l : List Tb) (i : Nat) : Bool := bif !rightF (l.getD i default) then true else !(findF l (l.getD i default).name == (i : Int))
def validF (l : List Tb) : Bool := bif decide ((l.length : Int) > 20) then false else !(List.range l.length).any (tabBad l)
structure OkS (l : List Tb) : Prop where
  len : l.length ≤ maxLen
  n : ∀ t, t ∈ l → OkN t
  t : ∀ t, t ∈ l → OkT t
theorem f23 (l : List Tb) (hl : OkS l) : AF Tryz.prog 23 [.d (.agg [eTs l])] [] (fun o p => o = .ret (.d (.lit (.bool (validF l)))) ∧ p = []) := by
  have hlen := hl.len
  refine AF.intro hT Tryz.func23 rfl (by kernel_rfl) (Nat.le_of_ble_eq_true rfl) ?_
  repeat (first | refine wA0 rfl rfl rfl rfl ?_ | refine AL.nil ?_ | refine AW.seq ?_ | refine AW.region ?_ | refine bA rfl rfl rfl rfl rfl rfl ?_)
  refine AW.cond rfl (fun h1 => ?_) (fun h1 => ?_)
  · repeat' (first | refine wA0 rfl rfl rfl rfl ?_ | refine AL.nil ?_ | refine AW.seq ?_ | refine AW.region ?_ | (refine AW.ret ?_; refine ⟨[], _, _, rfl, rfl, ⟨?_, rfl⟩, rfl⟩))
    refine congrArg (fun b => AOut.ret (.d (.lit (.bool b)))) ?_
    have h1' : decide ((l.length : Int) > 20) = true := h1
    simp only [validF, h1', cond_true]
  · have h1' : decide ((l.length : Int) > 20) = false := h1
    repeat (first | refine wA0 rfl rfl rfl rfl ?_ | refine AL.nil ?_ | refine AW.seq ?_ | refine AW.region ?_ | refine AW.skip ?_ | refine AW.block ?_)
    refine AW.weak (Weak.keep [1,10,11] [.loc 1] rfl rfl) ?_
    refine AW.loop (I := fun n st => ∃ i : Nat, i + n = l.length ∧ (∀ k, k < i → tabBad l k = false) ∧ st = ⟨34, [(1, .ptr (.loc 1) 0), (10, .d (eI l.length)), (11, .d (eI i))], [(.loc 1, .cells [.d (eTs l)])]⟩) l.length ⟨0, by omega, fun k hk => by omega, rfl⟩ ?_
    rintro n st ⟨i, hi, hk, rfl⟩
    repeat (first | refine wA0 rfl rfl rfl rfl ?_ | refine AL.nil ?_ | refine AW.seq ?_ | refine AW.region ?_)
    refine AW.cond rfl (fun hlt => ?_) (fun hlt => ?_)
    · have hlt' : i < l.length := by simpa using hlt
      repeat (first | refine wA0 rfl rfl rfl rfl ?_ | refine AL.nil ?_ | refine AW.seq ?_ | refine AW.region ?_ | refine AW.skip ?_ | refine AW.block ?_ | refine dW ?_ | refine wG0 rfl rfl rfl rfl ?_)
      refine DG.call0 rfl rfl rfl (f58 _ (hl.n _ (mem_getD hlt'))) rfl rfl rfl ?_
      repeat (first | refine wG0 rfl rfl rfl rfl ?_ | refine wG1 rfl rfl rfl rfl rfl ?_)
      refine kG1 rfl rfl rfl rfl (fun hγ => f25 l _ hlen) rfl rfl rfl ?_
      repeat (first | refine wG0 rfl rfl rfl rfl ?_ | refine wG1 rfl rfl rfl rfl rfl ?_ | refine nG ?_)
      refine AW.cond rfl (fun hc => ?_) (fun hc => ?_)
      · repeat' (first | refine wA0 rfl rfl rfl rfl ?_ | refine AL.nil ?_ | refine AW.seq ?_ | refine AW.region ?_ | (refine AW.ret ?_; refine ⟨[], _, _, rfl, rfl, ⟨?_, rfl⟩, rfl⟩))
        refine congrArg (fun b => AOut.ret (.d (.lit (.bool b)))) ?_
        have hc' : tabBad l i = true := hc
        have : (List.range l.length).any (tabBad l) = true := List.any_eq_true.2 ⟨i, List.mem_range.2 hlt', hc'⟩
        simp only [validF, h1', this, cond_false, Bool.not_true]
      · repeat (first | refine wA0 rfl rfl rfl rfl ?_ | refine AL.nil ?_ | refine AW.region ?_ | refine AW.skip ?_)
        refine ⟨n - 1, _, by omega, Weak.keep [1,10,11] [.loc 1] rfl rfl, i + 1, by omega, le_step hk hc, ?_⟩
        rw [i64s (by omega)]
        rfl
    · obtain rfl : i = l.length := by
        have : ¬ ((i : Int) < (l.length : Int)) := by simpa using hlt
        omega
      repeat' (first | refine wA0 rfl rfl rfl rfl ?_ | refine AL.nil ?_ | refine AW.seq ?_ | refine AW.region ?_ | refine AW.exit ?_ | (refine AW.ret ?_; refine ⟨[], _, _, rfl, rfl, ⟨?_, rfl⟩, rfl⟩))
      refine congrArg (fun b => AOut.ret (.d (.lit (.bool b)))) ?_
      have : (List.range l.length).any (tabBad l) = false := by
        rw [List.any_eq_false]
        intro x hx
        simpa using hk x (List.mem_range.1 hx)
      simp only [validF, h1', this, cond_false, Bool.not_false]
end Go.Pv
