/- Part of the proofs over this seat: V14 V15 V16 V17 V18 V19. -/
import Derived.Test.YteohopnpcanfpaaGreatDoorZKk
import Derived.Test.YteohopnpcanfpaaGreatDoorZKd
import Derived.Test.YteohopnpcanfpaaGreatDoorZKl
import Derived.Lib.AtoiErrMem
import Derived.Lib.ItoaLen
set_option maxRecDepth 100000
namespace Go.Pv
open Go.RowKit Go.Proofs

theorem below_grow {w : World} {k : Nat} {os : Array Go.Obj} : Below w.heap.size w (Sort.grow (w.drewN k) os) := by
  refine ⟨rfl, rfl, rfl, ?_, fun j hj => ?_⟩
  · simp [Sort.grow, World.drewN]
  · simp [Sort.grow, World.drewN, Array.getElem?_append_left hj]
/-- strconv.Itoa. -/
def itoaF (n : Int) : Bs := ⟨(Lib.itoa n).toArray⟩
theorem f103 (n : Int) (h0 : -9223372036854775808 ≤ n) (h1 : n ≤ 9223372036854775807) : AF Tryz.prog 103 [.d (eI n)] [] (fun o p => o = .ret (.d (eS (itoaF n))) ∧ p = []) := by
  refine AF.plain (args := [eI n]) (by unfold Enters; kernel_rfl) ?_
  rintro g w vs hp hG hv
  obtain ⟨v1, _, rfl, ⟨rfl, _⟩, rfl⟩ := hv
  refine (Tryz.strconv_Itoa n h0 h1 w hG.2.2).mono ?_
  rintro e w' ⟨rfl, k, os, rfl⟩
  exact ⟨.ret (.d (eS (itoaF n))), ⟨_, rfl, rfl, rfl⟩, ⟨rfl, rfl⟩, below_grow⟩
/-- strconv.FormatBool. -/
def fboolF (b : Bool) : Bs := bif b then ⟨#[116, 114, 117, 101]⟩ else ⟨#[102, 97, 108, 115, 101]⟩
theorem f124 (b : Bool) : AF Tryz.prog 124 [.d (.lit (.bool b))] [] (fun o p => o = .ret (.d (eS (fboolF b))) ∧ p = []) := by
  refine AF.intro hT Tryz.func124 rfl (by kernel_rfl) (Nat.le_of_ble_eq_true rfl) ?_
  repeat' (first | refine wA0 rfl rfl rfl rfl ?_ | refine AL.nil ?_ | refine AW.seq ?_ | refine AW.region ?_ | refine AW.skip ?_ | (refine AW.cond rfl ?_ ?_ <;> intro hc) | (refine AW.ret ?_; refine ⟨[], _, _, rfl, rfl, ⟨?_, rfl⟩, rfl⟩))
  all_goals (subst hc; rfl)
theorem f104 (b : Bool) : AF Tryz.prog 104 [.d (.lit (.bool b))] [] (fun o p => o = .ret (.d (eS (fboolF b))) ∧ p = []) := by
  refine AF.intro hT Tryz.func104 rfl (by kernel_rfl) (Nat.le_of_ble_eq_true rfl) ?_
  repeat (first | refine wA0 rfl rfl rfl rfl ?_ | refine AL.nil ?_ | refine AW.seq ?_ | refine AW.region ?_)
  refine AL.call0 rfl rfl rfl (f124 b) rfl rfl rfl ?_
  repeat' (first | refine wA0 rfl rfl rfl rfl ?_ | refine AL.nil ?_ | (refine AW.ret ?_; refine ⟨[], _, _, rfl, rfl, ⟨?_, rfl⟩, rfl⟩))
  rfl
/-- strings.HasPrefix. -/
def prefF (s p : Bs) : Bool := Lib.hasPrefix (raw s) (raw p)
theorem f105 (s p : Bs) : AF Tryz.prog 105 [.d (eS s), .d (eS p)] [] (fun o q => o = .ret (.d (.lit (.bool (prefF s p)))) ∧ q = []) := by
  refine AF.plain (args := [eS s, eS p]) (by unfold Enters; kernel_rfl) ?_
  rintro g w vs hp hG hv
  obtain ⟨v1, _, rfl, ⟨rfl, _⟩, v2, _, rfl, ⟨rfl, _⟩, rfl⟩ := hv
  refine (Tryz.strings_HasPrefix s p w).mono ?_
  rintro e w' ⟨rfl, rfl⟩
  exact ⟨.ret (.d (.lit (.bool (prefF s p)))), ⟨_, rfl, rfl, rfl⟩, ⟨rfl, rfl⟩, Below.refl _ _⟩
/-- strconv.Atoi. -/
def AtoiR (s : Bs) (o : AOut) : Prop := (∃ v, Lib.atoiAll (raw s) = .ok v ∧ o = .ret (.tup [.d (eI v), .d (.lit .nilIface)])) ∨ (∃ u, ((∀ v, Lib.atoiAll (raw s) ≠ .ok v) ∧ Lib.atoiAll (raw s) ≠ .range) ∧ o = .ret (.tup [.d (eI 0), .d (.ifc 229 (.lit u))])) ∨
  (∃ u, Lib.atoiAll (raw s) = .range ∧ o = .ret (.tup [.d (eI (Lib.atoiSat (raw s))), .d (.ifc 229 (.lit u))]))
theorem f126 (s : Bs) (hs : s.size ≤ 281474976710656) : AF Tryz.prog 126 [.d (eS s)] [] (fun o p => AtoiR s o ∧ p = []) := by
  refine AF.plain (args := [eS s]) (by unfold Enters; kernel_rfl) ?_
  rintro g w vs hp hG hv
  obtain ⟨v1, _, rfl, ⟨rfl, _⟩, rfl⟩ := hv
  obtain ⟨⟨tp, p, g1⟩, ⟨tp2, p2, g2⟩, _⟩ := hG
  cases h : Lib.atoiAll (raw s)
  case ok v =>
    refine (Tryz.strconv_Atoi_ok s (by omega) v h w).mono ?_
    rintro e w' ⟨rfl, hw⟩
    refine ⟨.ret (.tup [.d (eI v), .d (.lit .nilIface)]), ⟨_, rfl, [_, _], rfl, _, _, rfl, ⟨rfl, rfl⟩, _, _, rfl, ⟨rfl, rfl⟩, rfl⟩, ⟨.inl ⟨v, h, rfl⟩, rfl⟩, ?_⟩
    rcases hw with rfl | ⟨t, rfl⟩
    · exact Below.refl _ _
    · exact Lib.bytesWorld_below w 5 t
  case range =>
    refine (Tryz.strconv_Atoi_range_var s hs h tp2 p2 w g2).mono ?_
    rintro e w' ⟨N, rfl, _, _, hB⟩
    exact ⟨.ret (.tup [.d (eI (Lib.atoiSat (raw s))), .d (.ifc 229 (.lit (.pointer (some ⟨N, 0, none⟩))))]), ⟨_, rfl, [_, _], rfl, _, _, rfl, ⟨rfl, rfl⟩, _, _, rfl, ⟨_, rfl, rfl, rfl⟩, rfl⟩, ⟨.inr (.inr ⟨_, h, rfl⟩), rfl⟩, hB⟩
  · have h1 : ∀ v, Lib.atoiAll (raw s) ≠ .ok v := fun v e => by rw [h] at e; cases e
    have h2 : Lib.atoiAll (raw s) ≠ .range := fun e => by rw [h] at e; cases e
    refine (Tryz.strconv_Atoi_syntax_var s hs h1 h2 tp p w g1).mono ?_
    rintro e w' ⟨N, rfl, _, _, hB⟩
    exact ⟨.ret (.tup [.d (eI 0), .d (.ifc 229 (.lit (.pointer (some ⟨N, 0, none⟩))))]), ⟨_, rfl, [_, _], rfl, _, _, rfl, ⟨rfl, rfl⟩, _, _, rfl, ⟨_, rfl, rfl, rfl⟩, rfl⟩, ⟨.inr (.inl ⟨_, ⟨h1, h2⟩, rfl⟩), rfl⟩, hB⟩
/-- value.decimal. -/
def decF (s : Bs) : Int × Bool := match Lib.atoiAll (raw s) with
  | .ok v => (v, (itoaF v).toList == s.toList)
  | .range => (Lib.atoiSat (raw s), false)
  | _ => (0, false)
theorem decF_bad {s : Bs} (h : (∀ v, Lib.atoiAll (raw s) ≠ .ok v) ∧ Lib.atoiAll (raw s) ≠ .range) : decF s = (0, false) := by
  unfold decF
  split
  · rename_i v e; exact absurd e (h.1 v)
  · rename_i e; exact absurd e h.2
  · rfl
theorem f106 (s : Bs) (hs : s.size ≤ 281474976710656) : AF Tryz.prog 106 [.d (eS s)] [] (fun o p => o = .ret (.tup [.d (eI (decF s).1), .d (.lit (.bool (decF s).2))]) ∧ p = []) := by
  have h171 : Tryz.prog.underlying 171 = some (.interface (Tryz.prog.methodsAt 171)) := by kernel_rfl
  refine AF.intro hT Tryz.func106 rfl (by kernel_rfl) (Nat.le_of_ble_eq_true rfl) ?_
  repeat (first | refine wA0 rfl rfl rfl rfl ?_ | refine AL.nil ?_ | refine AW.seq ?_ | refine AW.region ?_)
  refine AL.call [] [] rfl rfl rfl rfl rfl (f126 s hs) (fun _ _ h => by rw [h.2]; rfl) (fun p par' hR => ?_) (fun x par' hR => ?_)
  · obtain ⟨hA, rfl⟩ := hR
    rcases hA with ⟨v, h, hp⟩ | ⟨u, h, hp⟩ | ⟨u, h, hp⟩
    · cases hp
      have hb := Lib.atoiAll_bounds h
      refine AL.weak (Weak.keep [0, 8] [] rfl rfl) ?_
      repeat (first | refine wA0 rfl rfl rfl rfl ?_ | refine AL.nil ?_ | refine AW.seq ?_ | refine AW.region ?_)
      refine AL.nilI rfl rfl h171 rfl rfl rfl ?_
      repeat (first | refine wA0 rfl rfl rfl rfl ?_ | refine wA1 rfl rfl rfl rfl rfl ?_)
      refine kA1 rfl rfl rfl rfl (fun hγ => f103 v (by omega) (by omega)) rfl rfl rfl ?_
      repeat' (first | refine wA0 rfl rfl rfl rfl ?_ | refine wA1 rfl rfl rfl rfl rfl ?_ | refine AL.nil ?_ | (refine AW.ret ?_; refine ⟨[], _, _, rfl, rfl, ⟨?_, rfl⟩, rfl⟩))
      simp only [decF, h]
      rfl
    · cases hp
      refine AL.weak (Weak.keep [0, 8] [] rfl rfl) ?_
      repeat (first | refine wA0 rfl rfl rfl rfl ?_ | refine AL.nil ?_ | refine AW.seq ?_ | refine AW.region ?_)
      refine AL.nilI rfl rfl h171 rfl rfl rfl ?_
      repeat (first | refine wA0 rfl rfl rfl rfl ?_ | refine wA1 rfl rfl rfl rfl rfl ?_)
      refine kA1 rfl rfl rfl rfl (fun hγ => f103 0 (by omega) (by omega)) rfl rfl rfl ?_
      repeat' (first | refine wA0 rfl rfl rfl rfl ?_ | refine wA1 rfl rfl rfl rfl rfl ?_ | refine AL.nil ?_ | (refine AW.ret ?_; refine ⟨[], _, _, rfl, rfl, ⟨?_, rfl⟩, rfl⟩))
      rw [decF_bad h]
      rfl
    · cases hp
      refine AL.weak (Weak.keep [0, 8] [] rfl rfl) ?_
      repeat (first | refine wA0 rfl rfl rfl rfl ?_ | refine AL.nil ?_ | refine AW.seq ?_ | refine AW.region ?_)
      refine AL.nilI rfl rfl h171 rfl rfl rfl ?_
      repeat (first | refine wA0 rfl rfl rfl rfl ?_ | refine wA1 rfl rfl rfl rfl rfl ?_)
      refine AL.call1 rfl rfl rfl rfl (fun h => absurd h (by simp)) (fun hγ => absurd hγ (by simp)) (q := .d (eS ⟨#[]⟩)) rfl rfl rfl ?_
      repeat' (first | refine wA0 rfl rfl rfl rfl ?_ | refine wA1 rfl rfl rfl rfl rfl ?_ | refine AL.nil ?_ | (refine AW.ret ?_; refine ⟨[], _, _, rfl, rfl, ⟨?_, rfl⟩, rfl⟩))
      simp only [decF, h]
      rfl
  · obtain ⟨hA, _⟩ := hR
    rcases hA with ⟨v, h, hp⟩ | ⟨u, h, hp⟩ | ⟨u, h, hp⟩ <;> cases hp
end Go.Pv
namespace Go.Pv
open Go.RowKit Go.Proofs

def zV : Vl := ⟨0, 0, ⟨#[]⟩⟩
/-- value.content: what stands between the quotes, or that it is not as it should be. -/
def contGo : List UInt8 → List UInt8 → Bool → Option (List UInt8 × Bool)
  | [], out, esc => some (out, !esc)
  | c :: r, out, true => if c = 110 then contGo r (out ++ [10]) false else if c = 34 ∨ c = 92 then contGo r (out ++ [c]) false else none
  | c :: r, out, false => if c = 92 then contGo r out true else if c = 34 ∨ c = 10 then none else contGo r (out ++ [c]) false
def contF (s : Bs) : Bs × Bool :=
  bif bif bif decide ((s.size : Int) < 2) then true else !(byteAt s 0 == 34) then true else !(byteAt s (s.size - 1) == 34) then (⟨#[]⟩, false)
  else match contGo (((raw s).drop 1).take (s.size - 2)) [] false with
    | some (l, b) => (ofRaw l, b)
    | none => (⟨#[]⟩, false)
/-- value.Parse. -/
def parse0F (s : Bs) : Vl × Bool :=
  bif eqS s ⟨#[110, 117, 108, 108]⟩ then (zV, true)
  else bif eqS s ⟨#[116, 114, 117, 101]⟩ then (⟨4, 1, ⟨#[]⟩⟩, true)
  else bif eqS s ⟨#[102, 97, 108, 115, 101]⟩ then (⟨4, 0, ⟨#[]⟩⟩, true)
  else bif prefF s ⟨#[64]⟩ then (⟨3, (decF (s.extract 1 s.size)).1, ⟨#[]⟩⟩, (decF (s.extract 1 s.size)).2)
  else bif prefF s ⟨#[34]⟩ then (⟨1, 0, (contF s).1⟩, (contF s).2)
  else (⟨2, (decF s).1, ⟨#[]⟩⟩, (decF s).2)
def parseF (s : Bs) : Vl × Int := bif bif !(parse0F s).2 then true else !vvalid (parse0F s).1 then (zV, 4) else ((parse0F s).1, 0)
theorem prefF_size {s p : Bs} (h : prefF s p = true) : p.size ≤ s.size := by
  have h1 : (raw p).length ≤ (raw s).length := by
    unfold prefF Lib.hasPrefix at h
    exact (List.isPrefixOf_iff_prefix.1 h).length_le
  simpa [raw] using h1
set_option maxHeartbeats 4000000 in
theorem f72 (s : Bs) (hs : s.size ≤ 281474976710656) (hq : prefF s ⟨#[34]⟩ = false) : AF Tryz.prog 72 [.d (eS s)] [] (fun o p => o = .ret (.tup [.d (eV (parseF s).1), .d (eI (parseF s).2)]) ∧ p = []) := by
  have hx : (s.extract 1 s.size).size ≤ 281474976710656 := by simp [ByteArray.size_extract]; omega
  have tail : ∀ (v : Vl) (b : Bool), parse0F s = (v, b) → parseF s = bif bif !b then true else !vvalid v then (zV, 4) else (v, 0) := by
    intro v b h
    simp only [parseF, h]
  refine AF.intro hT Tryz.func72 rfl (by kernel_rfl) (Nat.le_of_ble_eq_true rfl) ?_
  repeat (first | refine wA0 rfl rfl rfl rfl ?_ | refine AL.nil ?_ | refine AW.seq ?_ | refine AW.region ?_ | refine AW.block ?_ | refine bA rfl rfl rfl rfl rfl rfl ?_)
  refine AW.cond rfl (fun h1 => ?_) (fun h1 => ?_)
  · have h1' : eqS s ⟨#[110, 117, 108, 108]⟩ = true := h1
    have e := tail zV true (by simp only [parse0F, h1', cond_true])
    repeat' (first | refine wA0 rfl rfl rfl rfl ?_ | refine wA1 rfl rfl rfl rfl rfl ?_ | refine kA1 rfl rfl rfl rfl (fun hγ => f70 _ _ _) rfl rfl rfl ?_ | refine AL.nil ?_ | refine AW.seq ?_ | refine AW.region ?_ | refine AW.skip ?_ | (refine AW.cond rfl ?_ ?_ <;> intro hc) | refine sA rfl rfl rfl rfl rfl rfl rfl rfl rfl ?_ | (refine AW.ret ?_; refine ⟨[], _, _, rfl, rfl, ⟨?_, rfl⟩, rfl⟩))
    all_goals (simp only [zV] at e; simp only [hc, cond_true, cond_false] at e; rw [e]; rfl)
  · have h1' : eqS s ⟨#[110, 117, 108, 108]⟩ = false := h1
    repeat (first | refine wA0 rfl rfl rfl rfl ?_ | refine AL.nil ?_ | refine AW.seq ?_ | refine AW.region ?_)
    refine AW.cond rfl (fun h2 => ?_) (fun h2 => ?_)
    · have h2' : eqS s ⟨#[116, 114, 117, 101]⟩ = true := h2
      have e := tail ⟨4, 1, ⟨#[]⟩⟩ true (by simp only [parse0F, h1', h2', cond_true, cond_false])
      repeat' (first | refine wA0 rfl rfl rfl rfl ?_ | refine wA1 rfl rfl rfl rfl rfl ?_ | refine kA1 rfl rfl rfl rfl (fun hγ => f70 _ _ _) rfl rfl rfl ?_ | refine AL.nil ?_ | refine AW.seq ?_ | refine AW.region ?_ | refine AW.skip ?_ | (refine AW.cond rfl ?_ ?_ <;> intro hc) | refine sA rfl rfl rfl rfl rfl rfl rfl rfl rfl ?_ | (refine AW.ret ?_; refine ⟨[], _, _, rfl, rfl, ⟨?_, rfl⟩, rfl⟩))
      all_goals (simp only [hc, cond_true, cond_false] at e; rw [e]; rfl)
    · have h2' : eqS s ⟨#[116, 114, 117, 101]⟩ = false := h2
      repeat (first | refine wA0 rfl rfl rfl rfl ?_ | refine AL.nil ?_ | refine AW.seq ?_ | refine AW.region ?_)
      refine AW.cond rfl (fun h3 => ?_) (fun h3 => ?_)
      · have h3' : eqS s ⟨#[102, 97, 108, 115, 101]⟩ = true := h3
        have e := tail ⟨4, 0, ⟨#[]⟩⟩ true (by simp only [parse0F, h1', h2', h3', cond_true, cond_false])
        repeat' (first | refine wA0 rfl rfl rfl rfl ?_ | refine wA1 rfl rfl rfl rfl rfl ?_ | refine kA1 rfl rfl rfl rfl (fun hγ => f70 _ _ _) rfl rfl rfl ?_ | refine AL.nil ?_ | refine AW.seq ?_ | refine AW.region ?_ | refine AW.skip ?_ | (refine AW.cond rfl ?_ ?_ <;> intro hc) | refine sA rfl rfl rfl rfl rfl rfl rfl rfl rfl ?_ | (refine AW.ret ?_; refine ⟨[], _, _, rfl, rfl, ⟨?_, rfl⟩, rfl⟩))
        all_goals (simp only [hc, cond_true, cond_false] at e; rw [e]; rfl)
      · have h3' : eqS s ⟨#[102, 97, 108, 115, 101]⟩ = false := h3
        repeat (first | refine wA0 rfl rfl rfl rfl ?_ | refine AW.seq ?_ | refine AW.region ?_)
        refine AL.call0 rfl rfl rfl (f105 s ⟨#[64]⟩) rfl rfl rfl ?_
        repeat (first | refine wA0 rfl rfl rfl rfl ?_ | refine AL.nil ?_)
        refine AW.cond rfl (fun h4 => ?_) (fun h4 => ?_)
        · have hsz : 1 ≤ s.size := prefF_size h4
          have e := tail ⟨3, (decF (s.extract 1 s.size)).1, ⟨#[]⟩⟩ (decF (s.extract 1 s.size)).2 (by simp only [parse0F, h1', h2', h3', h4, cond_true, cond_false])
          repeat (first | refine wA0 rfl rfl rfl rfl ?_ | refine AL.nil ?_ | refine AW.seq ?_ | refine AW.region ?_ | refine sA rfl rfl rfl rfl rfl rfl rfl rfl rfl ?_)
          refine AL.call0 rfl rfl rfl (f106 (s.extract 1 s.size) hx) rfl rfl rfl ?_
          repeat' (first | refine wA0 rfl rfl rfl rfl ?_ | refine wA1 rfl rfl rfl rfl rfl ?_ | refine kA1 rfl rfl rfl rfl (fun hγ => f70 _ _ _) rfl rfl rfl ?_ | refine AL.nil ?_ | refine AW.seq ?_ | refine AW.region ?_ | refine AW.skip ?_ | (refine AW.cond rfl ?_ ?_ <;> intro hc) | refine sA rfl rfl rfl rfl rfl rfl rfl rfl rfl ?_ | (refine AW.ret ?_; refine ⟨[], _, _, rfl, rfl, ⟨?_, rfl⟩, rfl⟩))
          all_goals (simp only [hc, cond_true, cond_false] at e; rw [e]; rfl)
        · repeat (first | refine wA0 rfl rfl rfl rfl ?_ | refine AW.seq ?_ | refine AW.region ?_)
          refine AL.call0 rfl rfl rfl (f105 s ⟨#[34]⟩) rfl rfl rfl ?_
          repeat (first | refine wA0 rfl rfl rfl rfl ?_ | refine AL.nil ?_)
          refine AW.condF rfl hq ?_
          have e := tail ⟨2, (decF s).1, ⟨#[]⟩⟩ (decF s).2 (by simp only [parse0F, h1', h2', h3', h4, hq, cond_false])
          repeat (first | refine wA0 rfl rfl rfl rfl ?_ | refine AL.nil ?_ | refine AW.seq ?_ | refine AW.region ?_ | refine sA rfl rfl rfl rfl rfl rfl rfl rfl rfl ?_)
          refine AL.call0 rfl rfl rfl (f106 s hs) rfl rfl rfl ?_
          repeat' (first | refine wA0 rfl rfl rfl rfl ?_ | refine wA1 rfl rfl rfl rfl rfl ?_ | refine kA1 rfl rfl rfl rfl (fun hγ => f70 _ _ _) rfl rfl rfl ?_ | refine AL.nil ?_ | refine AW.seq ?_ | refine AW.region ?_ | refine AW.skip ?_ | (refine AW.cond rfl ?_ ?_ <;> intro hc) | refine sA rfl rfl rfl rfl rfl rfl rfl rfl rfl ?_ | (refine AW.ret ?_; refine ⟨[], _, _, rfl, rfl, ⟨?_, rfl⟩, rfl⟩))
          all_goals (simp only [hc, cond_true, cond_false] at e; rw [e]; rfl)
/-- value.Text, but of a text. -/
def textF (v : Vl) : Bs :=
  bif !vvalid v then ⟨#[]⟩ else bif v.kind == 2 then itoaF v.n else bif v.kind == 3 then (⟨#[64]⟩ : Bs) ++ itoaF v.n else bif v.kind == 4 then fboolF (v.n == 1) else ⟨#[110, 117, 108, 108]⟩
theorem f71 (k n : Int) (s : Bs) (hk : (k == 1) = false) (h0 : -9223372036854775808 ≤ n) (h1 : n ≤ 9223372036854775807) : AF Tryz.prog 71 [.d (.agg [eI k, eI n, eS s])] [] (fun o p => o = .ret (.d (eS (textF ⟨k, n, s⟩))) ∧ p = []) := by
  have hit : (itoaF n).size ≤ 21 := by
    have := Lib.itoa_length_le n h0 h1
    simpa [itoaF, ByteArray.size] using this
  refine AF.intro hT Tryz.func71 rfl (by kernel_rfl) (Nat.le_of_ble_eq_true rfl) ?_
  repeat (first | refine wA0 rfl rfl rfl rfl ?_ | refine AL.nil ?_ | refine AW.seq ?_ | refine AW.region ?_ | refine bA rfl rfl rfl rfl rfl rfl ?_)
  refine AL.call0 rfl rfl rfl (f70 k n s) rfl rfl rfl ?_
  repeat (first | refine wA0 rfl rfl rfl rfl ?_ | refine AL.nil ?_)
  refine AW.cond rfl (fun h2 => ?_) (fun h2 => ?_)
  · repeat' (first | refine wA0 rfl rfl rfl rfl ?_ | refine AL.nil ?_ | refine AW.seq ?_ | refine AW.region ?_ | (refine AW.ret ?_; refine ⟨[], _, _, rfl, rfl, ⟨?_, rfl⟩, rfl⟩))
    refine congrArg (fun b => AOut.ret (.d (.lit (.string b)))) ?_
    simp only [textF, h2, cond_true]
  · repeat (first | refine wA0 rfl rfl rfl rfl ?_ | refine AL.nil ?_ | refine AW.seq ?_ | refine AW.region ?_ | refine AW.skip ?_ | refine AW.block ?_)
    refine AW.condF rfl hk ?_
    repeat (first | refine wA0 rfl rfl rfl rfl ?_ | refine AL.nil ?_ | refine AW.seq ?_ | refine AW.region ?_)
    refine AW.cond rfl (fun h3 => ?_) (fun h3 => ?_)
    · repeat (first | refine wA0 rfl rfl rfl rfl ?_ | refine AW.seq ?_ | refine AW.region ?_)
      refine AL.call0 rfl rfl rfl (f103 n h0 h1) rfl rfl rfl ?_
      repeat' (first | refine wA0 rfl rfl rfl rfl ?_ | refine AL.nil ?_ | (refine AW.ret ?_; refine ⟨[], _, _, rfl, rfl, ⟨?_, rfl⟩, rfl⟩))
      refine congrArg (fun b => AOut.ret (.d (.lit (.string b)))) ?_
      simp only [textF, h2, h3, cond_true, cond_false]
    · repeat (first | refine wA0 rfl rfl rfl rfl ?_ | refine AL.nil ?_ | refine AW.seq ?_ | refine AW.region ?_)
      refine AW.cond rfl (fun h4 => ?_) (fun h4 => ?_)
      · repeat (first | refine wA0 rfl rfl rfl rfl ?_ | refine AW.seq ?_ | refine AW.region ?_)
        refine AL.call0 rfl rfl rfl (f103 n h0 h1) rfl rfl rfl ?_
        have hsum : ({ data := #[64] } : ByteArray).size + (itoaF n).size ≤ 9223372036854775807 := by
          show 1 + _ ≤ _
          omega
        refine AL.m0 hT hE rfl rfl hsum rfl rfl ?_
        repeat' (first | refine wA0 rfl rfl rfl rfl ?_ | refine AL.nil ?_ | (refine AW.ret ?_; refine ⟨[], _, _, rfl, rfl, ⟨?_, rfl⟩, rfl⟩))
        refine congrArg (fun b => AOut.ret (.d (.lit (.string b)))) ?_
        simp only [textF, h2, h3, h4, cond_true, cond_false]
      · repeat (first | refine wA0 rfl rfl rfl rfl ?_ | refine AL.nil ?_ | refine AW.seq ?_ | refine AW.region ?_)
        refine AW.cond rfl (fun h5 => ?_) (fun h5 => ?_)
        · repeat (first | refine wA0 rfl rfl rfl rfl ?_ | refine AW.seq ?_ | refine AW.region ?_)
          refine AL.call0 rfl rfl rfl (f104 _) rfl rfl rfl ?_
          repeat' (first | refine wA0 rfl rfl rfl rfl ?_ | refine AL.nil ?_ | (refine AW.ret ?_; refine ⟨[], _, _, rfl, rfl, ⟨?_, rfl⟩, rfl⟩))
          refine congrArg (fun b => AOut.ret (.d (.lit (.string b)))) ?_
          simp only [textF, h2, h3, h4, h5, cond_true, cond_false]
        · repeat' (first | refine wA0 rfl rfl rfl rfl ?_ | refine AL.nil ?_ | refine AW.seq ?_ | refine AW.region ?_ | refine AW.skip ?_ | (refine AW.ret ?_; refine ⟨[], _, _, rfl, rfl, ⟨?_, rfl⟩, rfl⟩))
          refine congrArg (fun b => AOut.ret (.d (.lit (.string b)))) ?_
          simp only [textF, h2, h3, h4, h5, cond_false]
end Go.Pv
namespace Go.Pv
open Go.RowKit Go.Proofs

theorem vvalid_n {v : Vl} (h : vvalid v = true) : -1000000000 ≤ v.n ∧ v.n ≤ 1000000000 := by
  unfold vvalid at h
  revert h
  cases h0 : (bif v.kind != 1 then !(v.text.toList == []) else false) <;> cases h1 : v.kind == 0 <;> cases h2 : v.kind == 1 <;> cases h3 : v.kind == 2 <;> cases h4 : v.kind == 3 <;> cases h5 : v.kind == 4 <;>
    simp only [cond_true, cond_false] <;> intro h <;> (try cases h) <;>
    (simp only [Bool.cond_false_right, Bool.and_eq_true, decide_eq_true_eq, Bool.cond_false_left] at h; omega)
theorem vvalid_text {v : Vl} (h : vvalid v = true) (hk : (v.kind == 1) = true) : v.text.size ≤ 200 := by
  have hk' : v.kind = 1 := by simpa using hk
  unfold vvalid at h
  rw [hk'] at h
  have e1 : ((1 : Int) != 1) = false := rfl
  have e2 : ((1 : Int) == 0) = false := rfl
  have e3 : ((1 : Int) == 1) = true := rfl
  rw [e1, e2, e3] at h
  simp only [cond_true, cond_false] at h
  cases h1 : decide ((v.text.size : Int) > 200) with
  | true => rw [h1] at h; cases h
  | false => simp at h1; omega
/-- value.Cast. -/
def castF (v : Vl) (kind : Int) : Vl × Int :=
  bif bif bif !vvalid v then true else decide (kind < 1) then true else decide (kind > 4) then (zV, 1)
  else bif bif v.kind == kind then true else v.kind == 0 then (v, 0)
  else bif kind == 1 then (⟨kind, 0, textF v⟩, 0)
  else bif v.kind == 1 then (bif bif (parseF v.text).2 == 0 then (parseF v.text).1.kind == kind else false then ((parseF v.text).1, 0) else (zV, 15))
  else bif bif v.kind == 4 then true else kind == 4 then (zV, 10)
  else bif !vvalid ⟨kind, v.n, v.text⟩ then (zV, 15) else (⟨kind, v.n, v.text⟩, 0)
set_option maxHeartbeats 4000000 in
theorem f33 (k n : Int) (s : Bs) (kind : Int) (hq : prefF s ⟨#[34]⟩ = false) : AF Tryz.prog 33 [.d (.agg [eI k, eI n, eS s]), .d (eI kind)] [] (fun o p => o = .ret (.tup [.d (eV (castF ⟨k, n, s⟩ kind).1), .d (eI (castF ⟨k, n, s⟩ kind).2)]) ∧ p = []) := by
  refine AF.intro hT Tryz.func33 rfl (by kernel_rfl) (Nat.le_of_ble_eq_true rfl) ?_
  repeat (first | refine wA0 rfl rfl rfl rfl ?_ | refine AL.nil ?_ | refine AW.seq ?_ | refine AW.region ?_ | refine bA rfl rfl rfl rfl rfl rfl ?_)
  refine AL.call0 rfl rfl rfl (f70 k n s) rfl rfl rfl ?_
  repeat (first | refine wA0 rfl rfl rfl rfl ?_ | refine wA1 rfl rfl rfl rfl rfl ?_ | refine AL.nil ?_)
  refine AW.cond rfl (fun h1 => ?_) (fun h1 => ?_)
  · repeat' (first | refine wA0 rfl rfl rfl rfl ?_ | refine AL.nil ?_ | refine AW.seq ?_ | refine AW.region ?_ | refine sA rfl rfl rfl rfl rfl rfl rfl rfl rfl ?_ | (refine AW.ret ?_; refine ⟨[], _, _, rfl, rfl, ⟨?_, rfl⟩, rfl⟩))
    simp only [castF, h1, cond_true]
    rfl
  · have hv : vvalid ⟨k, n, s⟩ = true := by
      cases hv : vvalid ⟨k, n, s⟩ with
      | true => rfl
      | false => rw [hv] at h1; simp at h1
    have hn := vvalid_n hv
    repeat (first | refine wA0 rfl rfl rfl rfl ?_ | refine wA1 rfl rfl rfl rfl rfl ?_ | refine AL.nil ?_ | refine AW.seq ?_ | refine AW.region ?_ | refine AW.skip ?_ | refine AW.block ?_)
    refine AW.cond rfl (fun h2 => ?_) (fun h2 => ?_)
    · repeat' (first | refine wA0 rfl rfl rfl rfl ?_ | refine AL.nil ?_ | refine AW.seq ?_ | refine AW.region ?_ | refine sA rfl rfl rfl rfl rfl rfl rfl rfl rfl ?_ | (refine AW.ret ?_; refine ⟨[], _, _, rfl, rfl, ⟨?_, rfl⟩, rfl⟩))
      simp only [castF, h1, h2, cond_true, cond_false]
      rfl
    · have hk0 : ∀ x, (kind == x) = true → (k == x) = false := by
        intro x hx
        have : kind = x := by simpa using hx
        subst this
        cases hkk : k == kind with
        | false => rfl
        | true => rw [hkk] at h2; simp at h2
      repeat (first | refine wA0 rfl rfl rfl rfl ?_ | refine AL.nil ?_ | refine AW.seq ?_ | refine AW.region ?_)
      refine AW.cond rfl (fun h3 => ?_) (fun h3 => ?_)
      · repeat (first | refine wA0 rfl rfl rfl rfl ?_ | refine AW.seq ?_ | refine AW.region ?_)
        refine AL.call0 rfl rfl rfl (f71 k n s (hk0 1 h3) (by show _ ≤ (⟨k, n, s⟩ : Vl).n; omega) (by show (⟨k, n, s⟩ : Vl).n ≤ _; omega)) rfl rfl rfl ?_
        repeat' (first | refine wA0 rfl rfl rfl rfl ?_ | refine AL.nil ?_ | refine sA rfl rfl rfl rfl rfl rfl rfl rfl rfl ?_ | (refine AW.ret ?_; refine ⟨[], _, _, rfl, rfl, ⟨?_, rfl⟩, rfl⟩))
        simp only [castF, h1, h2, h3, cond_true, cond_false]
        rfl
      · repeat (first | refine wA0 rfl rfl rfl rfl ?_ | refine AL.nil ?_ | refine AW.seq ?_ | refine AW.region ?_)
        refine AW.cond rfl (fun h4 => ?_) (fun h4 => ?_)
        · have hsz := vvalid_text hv h4
          repeat (first | refine wA0 rfl rfl rfl rfl ?_ | refine AW.seq ?_ | refine AW.region ?_)
          refine AL.call0 rfl rfl rfl (f72 s (by show (⟨k, n, s⟩ : Vl).text.size ≤ _; omega) hq) rfl rfl rfl ?_
          repeat (first | refine wA0 rfl rfl rfl rfl ?_ | refine wA1 rfl rfl rfl rfl rfl ?_ | refine AL.nil ?_ | refine AW.seq ?_ | refine AW.region ?_ | refine sA rfl rfl rfl rfl rfl rfl rfl rfl rfl ?_ | refine bA rfl rfl rfl rfl rfl rfl ?_)
          refine AW.cond rfl (fun h5 => ?_) (fun h5 => ?_)
          · repeat' (first | refine wA0 rfl rfl rfl rfl ?_ | refine AL.nil ?_ | refine AW.seq ?_ | refine AW.region ?_ | refine sA rfl rfl rfl rfl rfl rfl rfl rfl rfl ?_ | (refine AW.ret ?_; refine ⟨[], _, _, rfl, rfl, ⟨?_, rfl⟩, rfl⟩))
            simp only [castF, h1, h2, h3, h4, h5, cond_true, cond_false]
            rfl
          · repeat' (first | refine wA0 rfl rfl rfl rfl ?_ | refine AL.nil ?_ | refine AW.seq ?_ | refine AW.region ?_ | refine AW.skip ?_ | refine sA rfl rfl rfl rfl rfl rfl rfl rfl rfl ?_ | (refine AW.ret ?_; refine ⟨[], _, _, rfl, rfl, ⟨?_, rfl⟩, rfl⟩))
            simp only [castF, h1, h2, h3, h4, h5, cond_true, cond_false]
            rfl
        · repeat (first | refine wA0 rfl rfl rfl rfl ?_ | refine wA1 rfl rfl rfl rfl rfl ?_ | refine AL.nil ?_ | refine AW.seq ?_ | refine AW.region ?_)
          refine AW.cond rfl (fun h5 => ?_) (fun h5 => ?_)
          · repeat' (first | refine wA0 rfl rfl rfl rfl ?_ | refine AL.nil ?_ | refine AW.seq ?_ | refine AW.region ?_ | refine sA rfl rfl rfl rfl rfl rfl rfl rfl rfl ?_ | (refine AW.ret ?_; refine ⟨[], _, _, rfl, rfl, ⟨?_, rfl⟩, rfl⟩))
            simp only [castF, h1, h2, h3, h4, h5, cond_true, cond_false]
            rfl
          · repeat (first | refine wA0 rfl rfl rfl rfl ?_ | refine AL.nil ?_ | refine AW.seq ?_ | refine AW.region ?_ | refine AW.skip ?_ | refine sA rfl rfl rfl rfl rfl rfl rfl rfl rfl ?_)
            refine AL.call0 rfl rfl rfl (f70 kind n s) rfl rfl rfl ?_
            repeat (first | refine wA0 rfl rfl rfl rfl ?_ | refine AL.nil ?_)
            refine AW.cond rfl (fun h6 => ?_) (fun h6 => ?_)
            · repeat' (first | refine wA0 rfl rfl rfl rfl ?_ | refine AL.nil ?_ | refine AW.seq ?_ | refine AW.region ?_ | refine sA rfl rfl rfl rfl rfl rfl rfl rfl rfl ?_ | (refine AW.ret ?_; refine ⟨[], _, _, rfl, rfl, ⟨?_, rfl⟩, rfl⟩))
              simp only [castF, h1, h2, h3, h4, h5, h6, cond_true, cond_false]
              rfl
            · repeat' (first | refine wA0 rfl rfl rfl rfl ?_ | refine AL.nil ?_ | refine AW.seq ?_ | refine AW.region ?_ | refine AW.skip ?_ | refine sA rfl rfl rfl rfl rfl rfl rfl rfl rfl ?_ | (refine AW.ret ?_; refine ⟨[], _, _, rfl, rfl, ⟨?_, rfl⟩, rfl⟩))
              simp only [castF, h1, h2, h3, h4, h5, h6, cond_false]
              rfl
end Go.Pv
namespace Go.Pv
open Go.RowKit Go.Proofs

/-- An array of values. -/
def FV (l : List Vl) (q : Nat) : List D := (eV (l.getD q default)).cells
theorem FV_left {L M : List Vl} {q : Nat} (h : q < L.length) : FV (L ++ M) q = FV L q := by
  simp [FV, List.getD_eq_getElem?_getD, List.getElem?_append_left h]
/-- The rows of the four kinds. -/
theorem f134 (row : List Vl) (c : Ch) (a : Int) (b : Bool) (hl : (row.length + 1) * 32 ≤ 140737488355328) : AF Tryz.prog 134 [.sl (.par 0) row.length, .d (eC c), .d (eI a)] [.arr b 26 3 row.length (FV row) none]
    (fun o p => o = .ret (.tup [.sl (.par 1) (row.length + 1), .d (eI 0)]) ∧ p = [.gone b (some row.length), .arr false 26 3 (row.length + 1) (FV (row ++ [c.dflt])) none]) := by
  refine AF.intro hT Tryz.func134 rfl (by kernel_rfl) (Nat.le_of_ble_eq_true rfl) ?_
  repeat (first | refine wA0 rfl rfl rfl rfl ?_ | refine AL.nil ?_ | refine AW.seq ?_ | refine AW.region ?_ | refine bA rfl rfl rfl rfl rfl rfl ?_)
  refine AL.effN _ (VE.bslice hT (d := 11) (FV [c.dflt]) rfl rfl rfl rfl rfl rfl rfl (fun q hq => ?_)) rfl rfl rfl rfl rfl ?_
  · obtain rfl : q = 0 := by omega
    rfl
  refine AL.effN _ (VE.append hT (d := 12) (FV (row ++ [c.dflt])) [.par 0, .loc 11] rfl rfl rfl rfl rfl rfl rfl rfl rfl rfl ⟨rfl, ?_, ?_⟩ (fun q hq => FV_left hq) (fun q hq => ?_)) rfl rfl rfl rfl rfl ?_
  · simp only [maxLen]; omega
  · show (row.length + 1) * 32 ≤ _; omega
  · obtain rfl : q = 0 := by omega
    simp [FV]
  repeat (first | refine wA0 rfl rfl rfl rfl ?_ | refine AL.nil ?_)
  refine AW.ret ?_
  exact ⟨[.loc 12], _, _, rfl, rfl, ⟨rfl, rfl⟩, rfl⟩
theorem f139 (row : List Vl) (c : Ch) (a : Nat) (ha : a < row.length) (hl : row.length ≤ maxLen) : AF Tryz.prog 139 [.sl (.par 0) row.length, .d (eC c), .d (eI a)] [.arr true 26 3 row.length (FV row) none]
    (fun o p => o = .ret (.tup [.sl (.par 1) (row.length - 1), .d (eI 0)]) ∧ p = [.gone true (some row.length), .arr false 26 3 (row.length - 1) (FV (row.eraseIdx a)) none]) := by
  have hF : (fun q => if q < a then FV row q else FV row (q + 1)) = FV (row.eraseIdx a) := by
    funext q
    simp only [FV, List.getD_eq_getElem?_getD, List.getElem?_eraseIdx]
    split <;> rfl
  refine AF.intro hT Tryz.func139 rfl (by kernel_rfl) (Nat.le_of_ble_eq_true rfl) ?_
  repeat (first | refine wA0 rfl rfl rfl rfl ?_ | refine AL.nil ?_ | refine AW.seq ?_ | refine AW.region ?_ | refine bA rfl rfl rfl rfl rfl rfl ?_)
  rw [i64s (by omega)]
  have h140 := f140 row.length a (FV row) true ha
  rw [hF] at h140
  refine AL.effN _ (VE.call [.par 0] [.loc 12] rfl rfl rfl rfl rfl h140 (fun _ _ h => h) rfl) rfl rfl rfl rfl rfl ?_
  repeat (first | refine wA0 rfl rfl rfl rfl ?_ | refine AL.nil ?_)
  refine AW.ret ?_
  exact ⟨[.loc 12], _, _, rfl, rfl, ⟨rfl, rfl⟩, rfl⟩
theorem f144 (row : List Vl) (c : Ch) (a : Int) (b : Bool) : AF Tryz.prog 144 [.sl (.par 0) row.length, .d (eC c), .d (eI a)] [.arr b 26 3 row.length (FV row) none]
    (fun o p => o = .ret (.tup [.sl (.par 0) row.length, .d (eI 0)]) ∧ p = [.arr b 26 3 row.length (FV row) none]) := by
  refine AF.intro hT Tryz.func144 rfl (by kernel_rfl) (Nat.le_of_ble_eq_true rfl) ?_
  repeat' (first | refine wA0 rfl rfl rfl rfl ?_ | refine AL.nil ?_ | refine AW.seq ?_ | refine AW.region ?_ | refine bA rfl rfl rfl rfl rfl rfl ?_ | (refine AW.ret ?_; refine ⟨[], _, _, rfl, rfl, ⟨?_, rfl⟩, rfl⟩))
  rfl
def rowC (row : List Vl) (c : Ch) (a : Nat) : List Vl := row.set a (castF (row.getD a default) c.to).1
theorem f147a (row : List Vl) (c : Ch) (a : Nat) (ha : a < row.length) (hq : prefF (row.getD a default).text ⟨#[34]⟩ = false) (he : ((castF (row.getD a default) c.to).2 == 0) = true) : AF Tryz.prog 147 [.sl (.par 0) row.length, .d (eC c), .d (eI a)] [.arr true 26 3 row.length (FV row) none]
    (fun o p => o = .ret (.tup [.sl (.par 0) row.length, .d (eI 0)]) ∧ p = [.arr true 26 3 row.length (FV (rowC row c a)) none]) := by
  have he' : (!((castF (row.getD a default) c.to).2 == 0)) = false := by rw [he]; rfl
  refine AF.intro hT Tryz.func147 rfl (by kernel_rfl) (Nat.le_of_ble_eq_true rfl) ?_
  repeat (first | refine wA0 rfl rfl rfl rfl ?_ | refine AL.nil ?_ | refine AW.seq ?_ | refine AW.region ?_ | refine dW ?_ | refine wG0 rfl rfl rfl rfl ?_ | refine bA rfl rfl rfl rfl rfl rfl ?_)
  refine DG.call0 rfl rfl rfl (f33 _ _ _ c.to hq) rfl rfl rfl ?_
  repeat (first | refine wA0 rfl rfl rfl rfl ?_ | refine AL.nil ?_ | refine AW.seq ?_ | refine AW.region ?_ | refine wG0 rfl rfl rfl rfl ?_ | refine sG rfl rfl rfl rfl rfl rfl rfl rfl rfl ?_ | refine bG rfl rfl rfl rfl rfl rfl rfl ?_ | refine nG ?_)
  refine AW.condF rfl he' ?_
  repeat (first | refine wA0 rfl rfl rfl rfl ?_ | refine AW.seq ?_ | refine AW.region ?_ | refine AW.skip ?_)
  refine AL.effS _ (VE.storeE hT (foc' := none) (FV (rowC row c a)) rfl rfl rfl rfl rfl rfl rfl ha (.inl ⟨_, rfl, rfl, rfl, ?_, fun q hq hne => ?_⟩)) rfl rfl rfl ?_
  · simp [FV, rowC, List.getD_eq_getElem?_getD, ha]
    rfl
  · have hne' : a ≠ q := fun e => hne e.symm
    simp [FV, rowC, List.getD_eq_getElem?_getD, List.getElem?_set_ne hne']
  repeat' (first | refine wA0 rfl rfl rfl rfl ?_ | refine AL.nil ?_ | refine AW.seq ?_ | refine AW.region ?_ | (refine AW.ret ?_; refine ⟨[], _, _, rfl, rfl, ⟨?_, rfl⟩, rfl⟩))
  rfl
theorem f147b (row : List Vl) (c : Ch) (a : Nat) (ha : a < row.length) (hq : prefF (row.getD a default).text ⟨#[34]⟩ = false) (he : ((castF (row.getD a default) c.to).2 == 0) = false) : AF Tryz.prog 147 [.sl (.par 0) row.length, .d (eC c), .d (eI a)] [.arr true 26 3 row.length (FV row) none]
    (fun o p => o = .ret (.tup [.d (.lit (.slice none 0 0)), .d (eI 15)]) ∧ p = [.arr true 26 3 row.length (FV row) none]) := by
  have he' : (!((castF (row.getD a default) c.to).2 == 0)) = true := by rw [he]; rfl
  refine AF.intro hT Tryz.func147 rfl (by kernel_rfl) (Nat.le_of_ble_eq_true rfl) ?_
  repeat (first | refine wA0 rfl rfl rfl rfl ?_ | refine AL.nil ?_ | refine AW.seq ?_ | refine AW.region ?_ | refine dW ?_ | refine wG0 rfl rfl rfl rfl ?_ | refine bA rfl rfl rfl rfl rfl rfl ?_)
  refine DG.call0 rfl rfl rfl (f33 _ _ _ c.to hq) rfl rfl rfl ?_
  repeat (first | refine wA0 rfl rfl rfl rfl ?_ | refine AL.nil ?_ | refine AW.seq ?_ | refine AW.region ?_ | refine wG0 rfl rfl rfl rfl ?_ | refine sG rfl rfl rfl rfl rfl rfl rfl rfl rfl ?_ | refine bG rfl rfl rfl rfl rfl rfl rfl ?_ | refine nG ?_)
  refine AW.condT rfl he' ?_
  repeat' (first | refine wA0 rfl rfl rfl rfl ?_ | refine AL.nil ?_ | refine AW.seq ?_ | refine AW.region ?_ | (refine AW.ret ?_; refine ⟨[], _, _, rfl, rfl, ⟨?_, rfl⟩, rfl⟩))
  rfl
end Go.Pv
namespace Go.Pv
open Go.RowKit Go.Proofs

/-- Arrays of attributes, of numbers, of tables. -/
def FA (l : List At) (q : Nat) : List D := (eA (l.getD q default)).cells
def FI (l : List Int) (q : Nat) : List D := [eI (l.getD q 0)]
def FT (l : List Tb) (q : Nat) : List D := (eT (l.getD q default)).cells
theorem FA_left {L M : List At} {q : Nat} (h : q < L.length) : FA (L ++ M) q = FA L q := by
  simp [FA, List.getD_eq_getElem?_getD, List.getElem?_append_left h]
theorem FA_last {L : List At} {x : At} : FA (L ++ [x]) L.length = (eA x).cells := by
  simp [FA, List.getD_eq_getElem?_getD]
/-- The table of the change in focus. -/
abbrev outT (N : Nat) (F : Nat → List D) (i : Nat) (nm : Bs) (la lk : Loc) (na nk : Nat) : Obj := .arr true 44 3 N F (some (i, [.d (eS nm), .sl la na, .sl lk nk]))
def newAt (c : Ch) : At := ⟨c.name, c.to, [], c.dflt⟩
theorem f133 (N i : Nat) (F : Nat → List D) (nm : Bs) (A : List At) (K : List Int) (c : Ch) (a : Int) (hi : i < N) (hA : (A.length + 1) * 80 ≤ 140737488355328) :
    AF Tryz.prog 133 [.pe (.par 0) 3 i 0, .d (eC c), .d (eI a)] [outT N F i nm (.par 1) (.par 2) A.length K.length, .arr true 53 6 A.length (FA A) none, .arr true 3 1 K.length (FI K) none]
    (fun o p => o = .ret (.tup []) ∧ p = [outT N F i nm (.par 3) (.par 2) (A.length + 1) K.length, .gone true (some A.length), .arr true 3 1 K.length (FI K) none, .arr false 53 6 (A.length + 1) (FA (A ++ [newAt c])) none]) := by
  refine AF.intro hT Tryz.func133 rfl (by kernel_rfl) (Nat.le_of_ble_eq_true rfl) ?_
  refine AW.endW ?_
  repeat (first | refine AL.nil ?_ | refine AW.seq ?_ | refine AW.region ?_ | refine dW ?_ | refine wG0 rfl rfl rfl rfl ?_ | refine bA rfl rfl rfl rfl rfl rfl ?_)
  refine DG.effN _ (VE.bslice hT (d := 18) (fun _ => [eS c.name, eI c.to, .lit (.slice none 0 0), eI c.dflt.kind, eI c.dflt.n, eS c.dflt.text]) rfl rfl rfl rfl rfl rfl rfl (fun q hq => ?_)) rfl rfl rfl rfl ?_
  · obtain rfl : q = 0 := by omega
    rfl
  refine DG.effN _ (VE.append hT (d := 19) (fun q => if q < A.length then FA A q else [eS c.name, eI c.to, .lit (.slice none 0 0), eI c.dflt.kind, eI c.dflt.n, eS c.dflt.text]) [.par 1, .loc 18] rfl rfl rfl rfl rfl rfl rfl rfl rfl rfl ⟨rfl, ?_, ?_⟩ (fun q hq => if_pos hq) (fun q hq => if_neg (by omega))) rfl rfl rfl rfl ?_
  · simp only [maxLen]; omega
  · show (A.length + 1) * 80 ≤ _; omega
  repeat (refine wG0 rfl rfl rfl rfl ?_)
  refine DG.effS _ (VE.storeE hT F rfl rfl rfl rfl rfl rfl rfl hi (.inr ⟨_, rfl, rfl, rfl⟩)) rfl rfl ?_
  refine DG.nil (by kernel_rfl) ?_
  refine ⟨_, Weak.arrImp (.loc 19) (A.length + 1) (FA (A ++ [newAt c])) rfl rfl rfl (fun q hq π vs h => ?_) rfl, ⟨[.loc 19], _, _, rfl, rfl, ⟨rfl, rfl⟩, rfl⟩⟩
  by_cases hqA : q < A.length
  · rw [FA_left hqA]
    simpa [hqA] using h
  · obtain rfl : q = A.length := by omega
    rw [FA_last]
    simp only [Nat.lt_irrefl, if_false] at h
    obtain ⟨v1, r1, rfl, a1, b1, v2, r2, rfl, a2, b2, v3, r3, rfl, a3, b3, h4⟩ := h
    exact ⟨v1, _, rfl, a1, b1, v2, _, rfl, a2, b2, v3, _, rfl, a3, nilSl_rep b3, h4⟩
def shK (a k : Int) : Int := bif decide (k > a) then k - 1 else k
theorem shK_gt {a k : Int} (h : k > a) : shK a k = k - 1 := by
  have : decide (k > a) = true := by simpa using h
  rw [shK, this]; rfl
theorem shK_le {a k : Int} (h : ¬ k > a) : shK a k = k := by
  have : decide (k > a) = false := by simpa using h
  rw [shK, this]; rfl
def FK (K : List Int) (a : Int) (i q : Nat) : List D := [eI (if q < i then shK a (K.getD q 0) else K.getD q 0)]
theorem f137 (N i : Nat) (F : Nat → List D) (nm : Bs) (A : List At) (K : List Int) (c : Ch) (a : Nat) (hi : i < N) (ha : a < A.length) (hA : A.length ≤ maxLen) (hK : K.length ≤ maxLen) (hk : ∀ k, k ∈ K → k ≤ 9223372036854775807) :
    AF Tryz.prog 137 [.pe (.par 0) 3 i 0, .d (eC c), .d (eI a)] [outT N F i nm (.par 1) (.par 2) A.length K.length, .arr true 53 6 A.length (FA A) none, .arr true 3 1 K.length (FI K) none]
    (fun o p => o = .ret (.tup []) ∧ p = [outT N F i nm (.par 3) (.par 2) (A.length - 1) K.length, .gone true (some A.length), .arr true 3 1 K.length (FI (K.map (shK a))) none, .arr false 53 6 (A.length - 1) (FA (A.eraseIdx a)) none]) := by
  have hF : (fun q => if q < a then FA A q else FA A (q + 1)) = FA (A.eraseIdx a) := by
    funext q
    simp only [FA, List.getD_eq_getElem?_getD, List.getElem?_eraseIdx]
    split <;> rfl
  have h138 := f138 A.length a (FA A) true ha
  rw [hF] at h138
  refine AF.intro hT Tryz.func137 rfl (by kernel_rfl) (Nat.le_of_ble_eq_true rfl) ?_
  refine AW.endW ?_
  repeat (first | refine wA0 rfl rfl rfl rfl ?_ | refine AL.nil ?_ | refine AW.seq ?_ | refine AW.region ?_ | refine bA rfl rfl rfl rfl rfl rfl ?_)
  rw [i64s (by omega)]
  refine AL.effN _ (VE.call [.par 1] [.loc 15] rfl rfl rfl rfl rfl h138 (fun _ _ h => h) rfl) rfl rfl rfl rfl rfl ?_
  repeat (refine wA0 rfl rfl rfl rfl ?_)
  refine AL.effS _ (VE.storeE hT F rfl rfl rfl rfl rfl rfl rfl hi (.inr ⟨_, rfl, rfl, rfl⟩)) rfl rfl rfl ?_
  repeat (first | refine wA0 rfl rfl rfl rfl ?_ | refine AL.nil ?_ | refine AW.seq ?_ | refine AW.region ?_ | refine AW.block ?_)
  refine AW.weak (Weak.trans (Weak.keep [0,2,22,23] [.par 0,.loc 15,.par 1,.par 2] rfl rfl) (Weak.arrN (.par 2) K.length (FK K a 0) rfl rfl (fun q hq => by simp [FK, FI]) rfl)) ?_
  refine AW.loop (I := fun n st => ∃ j : Nat, j + n = K.length ∧ st = ⟨45, [(0, .pe (.par 0) 3 i 0), (2, .d (eI a)), (22, .d (eI K.length)), (23, .d (eI j))],
    [(.par 0, outT N F i nm (.loc 15) (.par 2) (A.length - 1) K.length), (.loc 15, .arr false 53 6 (A.length - 1) (FA (A.eraseIdx a)) none), (.par 1, .gone true (some A.length)), (.par 2, .arr true 3 1 K.length (FK K a j) none)]⟩) K.length ⟨0, by omega, rfl⟩ ?_
  rintro n st ⟨j, hj, rfl⟩
  repeat (first | refine wA0 rfl rfl rfl rfl ?_ | refine AL.nil ?_ | refine AW.seq ?_ | refine AW.region ?_)
  refine AW.cond rfl (fun hlt => ?_) (fun hlt => ?_)
  · have hlt' : j < K.length := by simpa using hlt
    have hv0 : (if (j : Int).toNat < j then shK a (K.getD (j : Int).toNat 0) else K.getD (j : Int).toNat 0) = K.getD j 0 := by simp
    have hkj : K.getD j 0 ≤ 9223372036854775807 := hk _ (mem_getD (α := Int) hlt')
    have hFK : ∀ q, q ≠ j → FK K a (j + 1) q = FK K a j q := by
      intro q hq
      simp only [FK]
      by_cases h : q < j
      · rw [if_pos h, if_pos (by omega)]
      · rw [if_neg h, if_neg (by omega)]
    repeat (first | refine wA0 rfl rfl rfl rfl ?_ | refine AL.nil ?_ | refine AW.seq ?_ | refine AW.region ?_ | refine AW.skip ?_ | refine AW.block ?_)
    refine AW.cond rfl (fun hc => ?_) (fun hc => ?_)
    · rw [hv0] at hc
      have hc' : K.getD j 0 > a := by simpa using hc
      repeat (first | refine wA0 rfl rfl rfl rfl ?_ | refine AW.region ?_)
      refine AL.effS _ (VE.storeE hT (foc' := none) (FK K a (j + 1)) rfl rfl rfl rfl rfl rfl rfl (by simpa using hlt') (.inl ⟨_, rfl, rfl, rfl, ?_, fun q hq hne => hFK q (by simpa using hne)⟩)) rfl rfl rfl ?_
      · have e : FK K a (j + 1) (j : Int).toNat = [eI (K.getD j 0 - 1)] := by
          simp only [Int.toNat_natCast, FK]
          rw [if_pos (by omega), shK_gt hc']
        rw [e, hv0, IntWalk.i64_in _ (by omega)]
        rfl
      repeat (first | refine wA0 rfl rfl rfl rfl ?_ | refine AL.nil ?_ | refine AW.region ?_)
      refine ⟨n - 1, _, by omega, Weak.keep [0,2,22,23] [.par 0,.loc 15,.par 1,.par 2] rfl rfl, j + 1, by omega, ?_⟩
      rw [i64s (by omega)]
      rfl
    · rw [hv0] at hc
      have hc' : ¬ (K.getD j 0 > a) := by simpa using hc
      repeat (first | refine wA0 rfl rfl rfl rfl ?_ | refine AL.nil ?_ | refine AW.region ?_ | refine AW.skip ?_)
      refine ⟨n - 1, _, by omega, Weak.trans (Weak.keep [0,2,22,23] [.par 0,.loc 15,.par 1,.par 2] rfl rfl) (Weak.arrN (.par 2) K.length (FK K a (j + 1)) rfl rfl (fun q hq => ?_) rfl), j + 1, by omega, ?_⟩
      · by_cases hqj : q = j
        · subst hqj
          simp only [FK]
          rw [if_pos (by omega), if_neg (by omega), shK_le hc']
        · exact hFK q hqj
      rw [i64s (by omega)]
      rfl
  · obtain rfl : j = K.length := by
      have : ¬ ((j : Int) < (K.length : Int)) := by simpa using hlt
      omega
    refine AW.exit ?_
    refine ⟨_, Weak.arrN (.par 2) K.length (FI (K.map (shK a))) rfl rfl (fun q hq => ?_) rfl, ⟨[.loc 15], _, _, rfl, rfl, ⟨rfl, rfl⟩, rfl⟩⟩
    simp [FI, FK, hq, List.getD_eq_getElem?_getD]
end Go.Pv
namespace Go.Pv
open Go.RowKit Go.Proofs

def renAt (x : At) (nm : Bs) : At := ⟨nm, x.kind, x.was ++ [x.name], x.dflt⟩
def casAt (x : At) (c : Ch) : At := ⟨x.name, c.to, x.was, c.dflt⟩
theorem FA_set {A : List At} {a : Nat} {x : At} (ha : a < A.length) : FA (A.set a x) a = (eA x).cells := by
  simp [FA, List.getD_eq_getElem?_getD, ha]
theorem FA_other {A : List At} {a q : Nat} {x : At} (h : q ≠ a) : FA (A.set a x) q = FA A q := by
  have h' : a ≠ q := fun e => h e.symm
  simp [FA, List.getD_eq_getElem?_getD, List.getElem?_set_ne h']
theorem f146 (N i : Nat) (F : Nat → List D) (nm : Bs) (A : List At) (K : List Int) (c : Ch) (a : Nat) (hi : i < N) (ha : a < A.length) :
    AF Tryz.prog 146 [.pe (.par 0) 3 i 0, .d (eC c), .d (eI a)] [outT N F i nm (.par 1) (.par 2) A.length K.length, .arr true 53 6 A.length (FA A) none, .arr true 3 1 K.length (FI K) none]
    (fun o p => o = .ret (.tup []) ∧ p = [outT N F i nm (.par 1) (.par 2) A.length K.length, .arr true 53 6 A.length (FA (A.set a (casAt (A.getD a default) c))) none, .arr true 3 1 K.length (FI K) none]) := by
  have hA0 : FA A a = (eA (A.getD a default)).cells := rfl
  refine AF.intro hT Tryz.func146 rfl (by kernel_rfl) (Nat.le_of_ble_eq_true rfl) ?_
  repeat (first | refine AL.nil ?_ | refine AW.seq ?_ | refine AW.region ?_ | refine dW ?_ | refine wG0 rfl rfl rfl rfl ?_ | refine bA rfl rfl rfl rfl rfl rfl ?_)
  refine DG.effS _ (VE.storeE hT (foc' := none) (FA (A.set a ⟨(A.getD a default).name, c.to, (A.getD a default).was, (A.getD a default).dflt⟩)) rfl rfl rfl rfl rfl rfl rfl ha (.inl ⟨_, rfl, rfl, rfl, ?_, fun q hq hne => FA_other hne⟩)) rfl rfl ?_
  · show FA _ a = _
    rw [FA_set ha]
    rfl
  repeat (refine wG0 rfl rfl rfl rfl ?_)
  refine DG.effS _ (VE.storeE hT (foc' := none) (FA (A.set a (casAt (A.getD a default) c))) rfl rfl rfl rfl rfl rfl rfl ha (.inl ⟨_, rfl, rfl, rfl, ?_, fun q hq hne => ?_⟩)) rfl rfl ?_
  · show FA _ a = _
    rw [FA_set ha]
    show _ = (FA _ a).take 3 ++ _ ++ (FA _ a).drop _
    rw [FA_set ha]
    rfl
  · show _ = FA _ q
    have hne' : q ≠ a := hne
    rw [FA_other hne', FA_other hne']
  refine DG.nil (by kernel_rfl) ?_
  exact ⟨[], _, _, rfl, rfl, ⟨rfl, rfl⟩, rfl⟩
theorem f142 (N i : Nat) (F : Nat → List D) (nm : Bs) (A : List At) (K : List Int) (c : Ch) (a : Nat) (hi : i < N) (ha : a < A.length) (hw : ((A.getD a default).was.length + 1) * 16 ≤ 140737488355328) :
    AF Tryz.prog 142 [.pe (.par 0) 3 i 0, .d (eC c), .d (eI a)] [outT N F i nm (.par 1) (.par 2) A.length K.length, .arr true 53 6 A.length (FA A) none, .arr true 3 1 K.length (FI K) none]
    (fun o p => o = .ret (.tup []) ∧ p = [outT N F i nm (.par 1) (.par 2) A.length K.length, .arr true 53 6 A.length (FA (A.set a (renAt (A.getD a default) c.name))) none, .arr true 3 1 K.length (FI K) none]) := by
  refine AF.intro hT Tryz.func142 rfl (by kernel_rfl) (Nat.le_of_ble_eq_true rfl) ?_
  refine AW.endW ?_
  refine AW.weak (Weak.focusN (.par 1) a rfl rfl ha rfl) ?_
  repeat (first | refine AL.nil ?_ | refine AW.seq ?_ | refine AW.region ?_ | refine dW ?_ | refine wG0 rfl rfl rfl rfl ?_ | refine bA rfl rfl rfl rfl rfl rfl ?_)
  refine DG.effN _ (VE.call [] [.loc 19] rfl rfl rfl rfl rfl (f143 (A.getD a default).was.length (fun i => eS ((A.getD a default).was.getD i default)) (by simp only [maxLen]; omega) (by omega)) (fun _ _ h => h) rfl) rfl rfl rfl rfl ?_
  repeat (refine wG0 rfl rfl rfl rfl ?_)
  refine DG.effN _ (VE.bslice hT (d := 28) (FS [(A.getD a default).name]) rfl rfl rfl rfl rfl rfl rfl (fun q hq => ?_)) rfl rfl rfl rfl ?_
  · obtain rfl : q = 0 := by omega
    rfl
  refine DG.effN _ (VE.append hT (d := 29) (FS ((A.getD a default).was ++ [(A.getD a default).name])) [.loc 19, .loc 28] rfl rfl rfl rfl rfl rfl rfl rfl rfl rfl ⟨rfl, ?_, ?_⟩ (fun q hq => FS_left hq) (fun q hq => FS_right)) rfl rfl rfl rfl ?_
  · simp only [maxLen]; omega
  · show ((A.getD a default).was.length + 1) * 16 ≤ _; omega
  repeat (refine wG0 rfl rfl rfl rfl ?_)
  refine DG.effS _ (VE.storeE hT (FA A) rfl rfl rfl rfl rfl rfl rfl ha (.inr ⟨_, rfl, rfl, rfl⟩)) rfl rfl ?_
  repeat (first | refine dW ?_ | refine wG0 rfl rfl rfl rfl ?_ | refine nG ?_)
  refine DG.effS _ (VE.storeE hT (FA A) rfl rfl rfl rfl rfl rfl rfl ha (.inr ⟨_, rfl, rfl, rfl⟩)) rfl rfl ?_
  refine DG.nil (by kernel_rfl) ?_
  refine ⟨_, Weak.trans (Weak.freezeFoc (.par 1) (.loc 29) 2 (fun q => eS (((A.getD a default).was ++ [(A.getD a default).name]).getD q default)) rfl rfl rfl rfl rfl (fun q hq => rfl) rfl)
    (Weak.unfocusN (.par 1) (FA (A.set a (renAt (A.getD a default) c.name))) rfl rfl rfl ?_ (fun q hq hne => FA_other hne) rfl), ⟨[], _, _, rfl, rfl, ⟨rfl, rfl⟩, rfl⟩⟩
  show FA _ a = _
  rw [FA_set ha]
  simp [renAt, eA, D.cells, eSs]
  exact ⟨rfl, rfl, rfl, rfl, rfl⟩
end Go.Pv
