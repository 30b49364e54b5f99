/- Part of the proofs over this seat: Pv47 Pv48 Pv49 Pv50 Pv51 Pv52. -/
import Derived.Test.YteohopnpcanfpaaGreatDoorZKd
import Derived.Laws.OwnMore
import Derived.Scope
set_option maxRecDepth 100000
namespace Go.Pv
open Go.RowKit

/-! ### Arrays of arrays of one's own -/
def Gh.opn (g : Gh) (d : Nat) (v : Value) (n : Nat) : Gh where
  π := g.π
  β := fun l => if l = .loc d then v.ownBlock.getD 0 else g.β l
  ρ := fun l => if l = .loc d then some (v, n) else g.ρ l
  ω := fun c => if v.ownBlock = some c then .box (.loc d) else g.ω c
  fx := fun l => if l = .loc d then false else g.fx l
theorem InnOK.move {g g' : Gh} {w w' : World} {l l' : Loc} {e1 k1 n : Nat} {F : Nat → List D} {v : Value} (h : InnOK g w l e1 k1 n F v) (hπ : Prom.le g.π g'.π)
    (hb : ∀ b, v.ownBlock = some b → b < w.heap.size → w'.heap[b]? = w.heap[b]? ∧ b ≠ g'.β l' ∧ g'.ω b = .box l' ∧ ∀ o, g'.π b o = none) : InnOK g' w' l' e1 k1 n F v := by
  obtain ⟨cs, h1, h2, h3, h4⟩ := h
  exact ⟨cs, ownsRow_block h1 (fun c hc => (hb c hc (ownsRow_lt h1 hc)).1), h2, fun q hq => RepL.mono hπ _ _ (h3 q hq), fun c hc => (hb c hc (ownsRow_lt h1 hc)).2⟩
/-- An array within another object gets a name of its own. -/
theorem Weak.openN {nt : Nat} {X : List (Nat × PV)} {BX BX' : List (Loc × Obj)} (lo : Loc) (i d : Nat) {e n e1 k1 : Nat} {N : Nat → Nat} {F : Nat → Nat → List D} {foc : Option (Nat × List PV)} (ho : objAt BX lo = some (.nest e n e1 k1 N F foc)) (hfoc : foc = none) (hi : i < n)
    (hcl : (cleanE d X && cleanB d BX && !(Loc.eqb lo (.loc d))) = true)
    (hb : nfB ((.loc d, .arr false e1 k1 (N i) (F i) none) :: setObj BX lo (.nest e n e1 k1 N F (some (i, [.sl (.loc d) (N i)])))) = some BX') : Weak ⟨nt, X, BX⟩ ⟨nt, X, BX'⟩ := by
  rw [nfB_eq hb]
  subst hfoc
  simp only [Bool.and_eq_true, Bool.not_eq_true'] at hcl
  have hne : lo ≠ .loc d := fun e => by rw [Loc.eqb_iff.2 e] at hcl; exact absurd hcl.2 (by decide)
  intro g tmps w hr
  obtain ⟨u, cs, h1, h2, h3, h4, h5, h6, h7⟩ := hr.mem.box lo _ ho
  have hl : cs.length = n := by rw [h2.1, Nat.mul_one]
  obtain ⟨v0, hg⟩ : ∃ v0, cs[i]? = some v0 := ⟨_, List.getElem?_eq_getElem (by omega)⟩
  have hi0 : InnOK g w lo e1 k1 (N i) (F i) v0 := h6 i _ hg
  obtain ⟨cs1, q1, q2, q3, q4⟩ := hi0
  have hag : ∀ l, l ≠ .loc d → (g.opn d v0 (N i)).β l = g.β l ∧ (g.opn d v0 (N i)).ρ l = g.ρ l := fun l hl => by simp [Gh.opn, hl]
  have hωl : ∀ (l : Loc) (b : Nat), l ≠ lo → g.ω b = .box l → (g.opn d v0 (N i)).ω b = .box l := by
    intro l b hl hb
    have : v0.ownBlock ≠ some b := fun h => by
      rw [(q4 b h).2.1] at hb
      injection hb with hb
      exact hl hb.symm
    simp [Gh.opn, this, hb]
  have hω0 : ∀ b, g.ω b = .none → (g.opn d v0 (N i)).ω b = .none := by
    intro b hb
    have : v0.ownBlock ≠ some b := fun h => by rw [(q4 b h).2.1] at hb; cases hb
    simp [Gh.opn, this, hb]
  refine ⟨g.opn d v0 (N i), ⟨hr.len, fun t => RepP.agree (g := g) (g' := g.opn d v0 (N i)) (d := d) (Prom.le_refl g.π) hag _ _ (cleanE_at hcl.1.1 t) (hr.env t), ⟨fun l o hlo => ?_, hr.mem.prom, hr.mem.glob.to fun c _ ho => ⟨rfl, hω0 c ho⟩⟩⟩,
    ⟨Prom.le_refl _, Nat.le_refl _, rfl, rfl, rfl, fun q hq => ⟨by simp [Gh.opn], by simp [Gh.opn], by simpa [Gh.opn] using hq⟩, fun c _ ho => ⟨rfl, hω0 c ho, fun _ => rfl⟩⟩⟩
  simp only [objAt] at hlo
  by_cases hld : Loc.eqb (.loc d) l = true
  · have := Loc.eqb_iff.1 hld
    subst this
    rw [hld, cond_true] at hlo
    cases hlo
    refine ⟨v0, cs1, by simp [Gh.opn], q1, q2, fun q hq => q3 q hq, by simp [Gh.opn], fun c hc => ⟨by simp [Gh.opn, hc], by simp [Gh.opn, hc], (q4 c hc).2.2⟩⟩
  · have hld' : Loc.eqb (.loc d) l = false := by simpa using hld
    have hlne : l ≠ .loc d := fun e => hld (Loc.eqb_iff.2 e.symm)
    rw [hld', cond_false, objAt_setObj] at hlo
    by_cases hll : lo = l
    · subst hll
      rw [if_pos rfl, ho] at hlo
      cases hlo
      refine ⟨u, cs, by rw [(hag lo hne).2]; exact h1, h2, h3, by simp [Gh.opn, hne, h4], fun c hc => ?_, fun j v hv => ⟨fun e => ?_, fun e => ?_⟩, fun a b v v' c ha hb _ _ hc hc' => h7 a b v v' c ha hb (fun h => h) (fun h => h) hc hc'⟩
      · obtain ⟨k1, k2, k3⟩ := h5 c hc
        have : v0.ownBlock ≠ some c := fun h => (q4 c h).1 k1
        exact ⟨by rw [(hag lo hne).1]; exact k1, by simp [Gh.opn, this, k2], k3⟩
      · subst e
        rw [hg] at hv
        cases hv
        exact ⟨v0, [], rfl, ⟨h3 v0 (List.mem_of_getElem? hg), fun u' hu' => by simp [Gh.opn] at hu'; exact hu'⟩, rfl⟩
      · have hj : InnOK g w lo e1 k1 (N j) (F j) v := h6 j v hv
        obtain ⟨_, _, _, _, r4⟩ := id hj
        refine hj.move (Prom.le_refl _) fun c hc _ => ⟨rfl, by rw [(hag lo hne).1]; exact (r4 c hc).1, ?_, (r4 c hc).2.2⟩
        have : v0.ownBlock ≠ some c := fun h => e (h7 j i v v0 c hv hg (fun h => h) (fun h => h) hc h)
        simp [Gh.opn, this, (r4 c hc).2.1]
    · rw [if_neg hll] at hlo
      exact (hr.mem.box l o hlo).agree hlne (cleanB_at hcl.1.2 hlo) (Prom.le_refl _) hag (by simp [Gh.opn, hlne]) (fun b hb _ => ⟨rfl, hωl l b (fun e => hll e.symm) hb, fun _ => rfl⟩)
/-- It is given back. -/
theorem Weak.closeN {nt : Nat} {X : List (Nat × PV)} {BX BX' : List (Loc × Obj)} (lo : Loc) (d : Nat) {e n e1 k1 i m m' e2 k2 : Nat} {b : Bool} {N : Nat → Nat} {F : Nat → Nat → List D} {F1 : Nat → List D} {foc foc1 : Option (Nat × List PV)} (N' : Nat → Nat) (F' : Nat → Nat → List D)
    (ho : objAt BX lo = some (.nest e n e1 k1 N F foc)) (hfoc : foc = some (i, [.sl (.loc d) m])) (hd : objAt BX (.loc d) = some (.arr b e2 k2 m' F1 foc1)) (hfoc1 : foc1 = none) (he : e2 = e1) (hk : k2 = k1) (hm : m = m') (hi : i < n)
    (hN1 : N' i = m) (hF1 : ∀ q, q < m → F' i q = F1 q) (hN2 : ∀ j, j < n → j ≠ i → N' j = N j) (hF2 : ∀ j, j < n → j ≠ i → ∀ q, q < N j → F' j q = F j q) (hne : Loc.eqb lo (.loc d) = false)
    (hb : nfB (setObj (dropObj BX (.loc d)) lo (.nest e n e1 k1 N' F' none)) = some BX') : Weak ⟨nt, X, BX⟩ ⟨nt, X, BX'⟩ := by
  rw [nfB_eq hb]
  subst hfoc hfoc1 he hk hm
  have hne' : lo ≠ .loc d := fun e => by rw [Loc.eqb_iff.2 e] at hne; cases hne
  intro g tmps w hr
  obtain ⟨u, cs, h1, h2, h3, h4, h5, h6, h7⟩ := hr.mem.box lo _ ho
  obtain ⟨u1, cs1, a1, a2, a3, a4, a5, a6⟩ := hr.mem.box _ _ hd
  have hl : cs.length = n := by rw [h2.1, Nat.mul_one]
  let g' : Gh := { g with ω := fun c => if g.ω c = .box (.loc d) then .box lo else g.ω c }
  have hle : Gh.le g g' := ⟨Prom.le_refl _, fun _ => rfl, fun _ => rfl⟩
  have hω : ∀ (l : Loc) (b : Nat), l ≠ .loc d → g.ω b = .box l → g'.ω b = .box l := by
    intro l b hl hb
    have : ¬ (Own.box l = Own.box (.loc d)) := fun e => by injection e with e; exact hl e
    simp only [g', hb, if_neg this]
  have hω0 : ∀ b, g.ω b = .none → g'.ω b = .none := by
    intro b hb
    have : ¬ (Own.none = Own.box (.loc d)) := fun e => by cases e
    simp only [g', hb, if_neg this]
  have ob : u.ownBlock = some (g.β lo) := by
    rcases h2.2 with ⟨_, h0⟩ | ⟨c, cap, cur, e0, _⟩
    · omega
    · have : u.ownBlock = some c := by rw [e0]; rfl
      rw [this, (h5 c this).1]
  refine ⟨g', ⟨hr.len, fun t => RepP.mono hle _ _ (hr.env t), ⟨fun l o hlo => ?_, hr.mem.prom, hr.mem.glob.to fun c _ ho => ⟨rfl, hω0 c ho⟩⟩⟩,
    ⟨Prom.le_refl _, Nat.le_refl _, rfl, rfl, rfl, fun q hq => ⟨rfl, rfl, hq⟩, fun c _ ho => ⟨rfl, hω0 c ho, fun _ => rfl⟩⟩⟩
  rw [objAt_setObj] at hlo
  by_cases hll : lo = l
  · subst hll
    rw [if_pos rfl] at hlo
    cases hdo : objAt (dropObj BX (.loc d)) lo with
    | none => rw [hdo] at hlo; cases hlo
    | some c0 =>
      rw [hdo] at hlo
      cases hlo
      have hin : ∀ j v, cs[j]? = some v → j = i → v = u1 := by
        intro j v hv e
        obtain ⟨v', vs', e1, e2, _⟩ := (h6 j v hv).1 e
        cases e1
        exact e2.2 u1 a1
      have hblk : ∀ c, u1.ownBlock = some c → c ≠ g.β lo ∧ g.ω c = .box (.loc d) := by
        intro c hc
        refine ⟨fun e => ?_, (a6 c hc).2.1⟩
        have k1 := (a6 c hc).2.1
        rw [e, (h5 _ ob).2.1] at k1
        injection k1 with k1
        exact hne' k1
      refine ⟨u, cs, h1, h2, h3, h4, fun c hc => ⟨(h5 c hc).1, hω lo c hne' (h5 c hc).2.1, (h5 c hc).2.2⟩, fun j v hv => ?_, fun x y v v' c hx hy _ _ hc hc' => ?_⟩
      · by_cases e : j = i
        · have := hin j v hv e
          subst this e
          refine ⟨cs1, by rw [hN1]; exact a2, a3, fun q hq => ?_, fun c hc => ⟨(hblk c hc).1, by simp [g', (hblk c hc).2], (a6 c hc).2.2⟩⟩
          rw [hN1] at hq
          rw [hF1 q hq]
          exact a4 q hq
        · have hj := (h6 j v hv).2 e
          have hjn : j < n := by rw [← hl]; exact (List.getElem?_eq_some_iff.1 hv).1
          obtain ⟨cj, r1, r2, r3, r4⟩ := hj
          refine ⟨cj, by rw [hN2 j hjn e]; exact r1, r2, fun q hq => ?_, fun c hc => ⟨(r4 c hc).1, hω lo c hne' (r4 c hc).2.1, (r4 c hc).2.2⟩⟩
          rw [hN2 j hjn e] at hq
          rw [hF2 j hjn e q hq]
          exact r3 q hq
      · by_cases e1 : x = i
        · by_cases e2 : y = i
          · omega
          · exfalso
            have := hin x v hx e1
            subst this
            obtain ⟨_, _, _, _, r4⟩ := (h6 y v' hy).2 e2
            have k1 := (hblk c hc).2
            rw [(r4 c hc').2.1] at k1
            injection k1 with k1
            exact hne' k1
        · by_cases e2 : y = i
          · exfalso
            have := hin y v' hy e2
            subst this
            obtain ⟨_, _, _, _, r4⟩ := (h6 x v hx).2 e1
            have k1 := (hblk c hc').2
            rw [(r4 c hc).2.1] at k1
            injection k1 with k1
            exact hne' k1
          · exact h7 x y v v' c hx hy e1 e2 hc hc'
  · rw [if_neg hll] at hlo
    obtain ⟨hld, hlo⟩ := objAt_dropObj hlo
    have := (hr.mem.box l o hlo).tr (g' := g') (w' := w) (l' := l) id (fun ps vs h => RepPL.mono hle ps vs h) (Prom.le_refl _) rfl rfl rfl (fun b hb _ => ⟨rfl, hω l b hld hb, fun _ => rfl⟩)
    rwa [Obj.map_id] at this
/-- An element is about to be overwritten. -/
theorem Weak.holeN {nt : Nat} {X : List (Nat × PV)} {BX BX' : List (Loc × Obj)} (lo : Loc) (i : Nat) {e n e1 k1 : Nat} {N : Nat → Nat} {F : Nat → Nat → List D} {foc : Option (Nat × List PV)} (ho : objAt BX lo = some (.nest e n e1 k1 N F foc)) (hfoc : foc = none)
    (hb : nfB (setObj BX lo (.nest e n e1 k1 N F (some (i, [.any])))) = some BX') : Weak ⟨nt, X, BX⟩ ⟨nt, X, BX'⟩ := by
  rw [nfB_eq hb]
  subst hfoc
  refine Weak.obj ho fun g w h => ?_
  obtain ⟨u, cs, h1, h2, h3, h4, h5, h6, h7⟩ := h
  exact ⟨u, cs, h1, h2, h3, h4, h5, fun j v hv => ⟨fun _ => ⟨v, [], rfl, trivial, rfl⟩, fun _ => h6 j v hv⟩, fun a b v v' c ha hb _ _ => h7 a b v v' c ha hb (fun h => h) (fun h => h)⟩
end Go.Pv
namespace Go.Pv
open Go.RowKit

section
variable {P : Program} {l rest : List Oper} {nt : Nat} {o : Oper} {X : List (Nat × PV)} {BX : List (Loc × Obj)}
/-- A store into the element of an array of arrays that is in focus. -/
theorem VE.storeN {T : Tab} (hT : TabOK P T) {t e n e1 k1 i k off : Nat} {a x : Operand} {lo : Loc} {j : TI} {N : Nat → Nat} {F : Nat → Nat → List D} {foc : Option (Nat × List PV)} {cs0 : List PV} {xs : List PV}
    (hg : guardV l (keepEnv X (looks l o)) o.guard = some true) (hop : o.op = .store t a x) (htj : tyAt T t = some j) (ha : opnd (keepEnv X (looks l o)) a = .pe lo k i off) (hx : cellsP (opnd (keepEnv X (looks l o)) x) = some xs)
    (ho : objAt BX lo = some (.nest e n e1 k1 N F foc)) (hfoc : foc = some (i, cs0)) (hk : (Nat.beq xs.length j.size && Nat.beq xs.length 1 && Nat.beq k 1 && Nat.beq off 0) = true) (hi : i < n) :
    VE P l nt o X BX ⟨.any, [lo], [(lo, some (.nest e n e1 k1 N F (some (i, xs))))], []⟩ := by
  intro E B hE hB hnE hnB g tmps ds w hr K Q' hK
  have hr0 := hr.keep hE (ls := [lo]) hB
  subst hfoc
  have hBlo : B lo = some (.nest e n e1 k1 N F (some (i, cs0))) := by rw [hB lo (by simp), ho]
  simp only [Bool.and_eq_true] at hk
  have hlen := Nat.eq_of_beq_eq_true hk.1.1.1
  have hone := Nat.eq_of_beq_eq_true hk.1.1.2
  have hk1 := Nat.eq_of_beq_eq_true hk.1.2
  have hoff := Nat.eq_of_beq_eq_true hk.2
  subst hk1 hoff
  obtain ⟨u, cs, m1, m2, m3, m4, m5, m6, m7⟩ := hr.box lo _ hBlo
  obtain ⟨hcl, m2'⟩ := m2
  rcases m2' with ⟨_, h0⟩ | ⟨c, cap, cur, rfl, _, q1, q2, q3, q4, q5⟩
  · omega
  have hc := m5 c rfl
  have hpa := opnd_rep hr0 ds a
  rw [ha] at hpa
  have hea : (⟨tmps, ds⟩ : Act).eval a = .pointer (some ⟨g.β lo, i, none⟩) := by
    have : (⟨tmps, ds⟩ : Act).eval a = .pointer (some ⟨g.β lo, i * 1 + 0, none⟩) := hpa
    simpa using this
  obtain ⟨h1, h2⟩ := cellsP_rep hx (opnd_rep hr0 ds x)
  generalize hv : (⟨tmps, ds⟩ : Act).eval x = v at h1 h2
  have hvl := h1.length
  rw [hc.1] at q1
  have hcurl : cur.toList.length = cap := by simpa using q4
  have hst := run_storeCells_at (P := P) (g.β lo) i e v.cells.toList 0 cur w q1 (by omega) h2
  simp only [Nat.add_zero] at hst
  have hrun : (execOp ((⟨tmps, ds⟩ : Act).eval) o).run P w = .ok .skip (w.setRow (g.β lo) (cur.toList.take i ++ v.cells.toList ++ cur.toList.drop (i + v.cells.toList.length)).toArray) := by
    have hsz : v.cells.size = j.size := by rw [← Array.length_toList]; omega
    simp only [execOp, hop, Instr.storeAt, hea, Instr.sureAddr, storeVar, hv, Sem.run_bind, Sem.run_pure, Result.andThen_ok, hT.run_size htj, hsz, ne_eq, not_true_eq_false, if_false]
    rw [hst]
    rfl
  have hcut : (cur.toList.take i ++ v.cells.toList ++ cur.toList.drop (i + v.cells.toList.length)).take (n * 1) = cs.take i ++ v.cells.toList ++ cs.drop (i + v.cells.toList.length) := by
    apply List.ext_getElem?
    intro x
    rw [List.getElem?_take, spl_get _ _ _ _ (by omega), spl_get _ _ _ _ (by omega), ← q5, List.getElem?_take]
    by_cases hx : x < n * 1
    · simp only [hx, if_true]
    · rw [if_neg hx, if_neg (by omega), if_neg (by omega), if_neg hx]
  obtain ⟨v1, hv1⟩ : ∃ v1, v.cells.toList = [v1] := by
    cases hh : v.cells.toList with
    | nil => rw [hh] at hvl; simp at hvl; omega
    | cons y r =>
      rw [hh] at hvl
      cases r with
      | nil => exact ⟨y, rfl⟩
      | cons z r => simp at hvl; omega
  have hget : ∀ q, (cs.take i ++ v.cells.toList ++ cs.drop (i + v.cells.toList.length))[q]? = if q = i then some v1 else cs[q]? := by
    intro q
    rw [spl_get _ _ _ _ (by omega), hv1]
    simp only [List.length_singleton]
    by_cases h1 : q < i
    · rw [if_pos h1, if_neg (by omega)]
    · rw [if_neg h1]
      by_cases h2 : q = i
      · subst h2
        rw [if_pos (by omega), if_pos rfl]
        simp
      · rw [if_neg (by omega), if_neg h2]
  obtain ⟨k1', k2'⟩ := hr.setBox (lo := lo) (Ty := e) (cells := cur) (cells' := (cur.toList.take i ++ v.cells.toList ++ cur.toList.drop (i + v.cells.toList.length)).toArray) (o' := .nest e n e1 k1 N F (some (i, xs))) (by rw [← hc.1]; exact hc.2.1) (by rw [← hc.1]; exact hc.2.2) q1 (fun hh => by
    refine ⟨_, cs.take i ++ v.cells.toList ++ cs.drop (i + v.cells.toList.length), m1, ⟨by rw [spl_len _ _ _ (by omega)]; exact hcl, .inr ⟨c, cap, _, rfl, Nat.zero_le _, by rw [hc.1]; exact hh, q2, q3, ?_, ?_⟩⟩, ?_, m4, m5, fun q y hy => ⟨fun e => ?_, fun e => ?_⟩, fun a b y y' cc ha hb na nb => ?_⟩
    · simp only [List.size_toArray]
      rw [spl_len _ _ _ (by omega)]
      simpa using q4
    · simpa using hcut
    · intro y hy
      simp only [List.mem_append] at hy
      rcases hy with (hy | hy) | hy
      · exact m3 y (List.mem_of_mem_take hy)
      · exact h2 y hy
      · exact m3 y (List.mem_of_mem_drop hy)
    · rw [hget, if_pos (show q = i from e)] at hy
      cases hy
      rw [hv1] at h1
      exact h1
    · rw [hget, if_neg (show ¬ q = i from e)] at hy
      have hin : InnOK g w lo e1 k1 (N q) (F q) y := (m6 q y hy).2 e
      obtain ⟨_, _, _, _, r4⟩ := id hin
      exact hin.move (Prom.le_refl _) fun b hb _ => ⟨setRow_other w (g.β lo) b _ (r4 b hb).1, (r4 b hb).1, (r4 b hb).2.1, (r4 b hb).2.2⟩
    · rw [hget, if_neg (show ¬ a = i from na)] at ha
      rw [hget, if_neg (show ¬ b = i from nb)] at hb
      exact m7 a b y y' cc ha hb na nb)
  rw [if_pos (guardV_wanted hr0 hg)]
  unfold Oper.wp
  rw [hrun]
  simp only [Oper.upon]
  exact hK undef g _ trivial k1' k2'
/-- make: a new array of zeros. -/
theorem VE.makeSl {T : Tab} (hT : TabOK P T) {d t e n : Nat} {a b : Operand} {j : TI} {zs : List D}
    (hg : guardV l (keepEnv X (looks l o)) o.guard = some true) (hop : o.op = .makeSlice t a b) (hel : elemOfT T t = some (e, j)) (ha : opnd (keepEnv X (looks l o)) a = .d (.lit (.int .i64 (n : Int)))) (hb : opnd (keepEnv X (looks l o)) b = .d (.lit (.int .i64 (n : Int))))
    (hz : j.zero.cells.toList.map D.lit = zs) (hz1 : (j.zero.cells.toList.all Value.oneCell' && Nat.beq j.zero.cells.size j.size && Nat.blt 0 j.size) = true) (hn : n ≤ maxLen ∧ j.bytes * n ≤ 281474976710656) :
    VE P l nt o X BX ⟨.sl (.loc d) n, [.loc d], [(.loc d, some (.arr false e j.size n (fun _ => zs) none))], [d]⟩ := by
  intro E B hE hB hnE hnB g tmps ds w hr K Q' hK
  have hr0 := hr.keep hE (ls := [.loc d]) hB
  obtain ⟨ht, htj⟩ := elemOfT_spec hT hel
  obtain ⟨i0, hi0, hs1, hs2, hs3⟩ := hT.inf htj
  simp only [Bool.and_eq_true] at hz1
  have hzs := Nat.eq_of_beq_eq_true hz1.1.2
  have hpos : 0 < j.size := by simpa [Nat.blt_eq] using hz1.2
  have ea := opnd_rep hr0 ds a
  rw [ha] at ea
  have eb := opnd_rep hr0 ds b
  rw [hb] at eb
  have ea' : (⟨tmps, ds⟩ : Act).eval a = .int .i64 (n : Int) := ea.1
  have eb' : (⟨tmps, ds⟩ : Act).eval b = .int .i64 (n : Int) := eb.1
  obtain ⟨w', hrun, hown, hgr⟩ := run_make_full (P := P) w 0 t e i0 j.zero j.size ht hi0 hs3 hs1 .i64 .i64 n (by rw [hs2]; exact hn.2) hn.1 (Nat.zero_le _)
  have hcells : ∀ q, q < n → (((madeCells j.zero.cells (n * j.size)).toList.drop (q * j.size)).take j.size) = j.zero.cells.toList := by
    intro q hq
    have hle : q * j.size + j.size ≤ n * j.size := by rw [← Nat.succ_mul]; exact Nat.mul_le_mul_right _ hq
    apply List.ext_getElem?
    intro x
    by_cases hx : x < j.size
    · rw [List.getElem?_take_of_lt hx, List.getElem?_drop]
      have h1 : q * j.size + x < n * j.size := by omega
      have h2 : (q * j.size + x) % j.zero.cells.size = x := by
        rw [hzs, Nat.mul_comm, Nat.mul_add_mod, Nat.mod_eq_of_lt hx]
      have h3 : x < j.zero.cells.size := by omega
      simp [madeCells, h1, h2, h3]
    · rw [List.getElem?_eq_none (by simp; omega), List.getElem?_eq_none (by simp; omega)]
  obtain ⟨k1, k2⟩ := hr.newObj (g' := g.new d w.heap.size (some (.slice (some ⟨w.heap.size, 0, none⟩) n n, n)) false) (w' := w') (o := .arr false e j.size n (fun _ => zs) none) hnE hnB rfl (fun l hl => by simp [Gh.new, hl]) (fun c hc => by simp [Gh.new, Nat.ne_of_lt hc])
    (fun c hc => hgr.block c hc (by simp)) hgr.size hgr.os hgr.tape hgr.output
    ⟨_, _, by simp [Gh.new], hown, fun v hv => by
      have : v ∈ j.zero.cells.toList := by
        simp only [madeCells, Array.toList_map, List.mem_map] at hv
        obtain ⟨x, _, rfl⟩ := hv
        have hp : 0 < j.zero.cells.size := by omega
        rw [getElem!_pos j.zero.cells _ (Nat.mod_lt _ hp)]
        exact Array.mem_toList_iff.2 (Array.getElem_mem _)
      exact List.all_eq_true.1 hz1.1.1 v this,
     fun q hq => by
      show RepL _ zs _
      rw [hcells q hq, ← hz]
      exact repL_lits _ _ hz1.1.1,
     by simp [Gh.new], fun c hc => by
      simp only [Value.ownBlock, Option.some.injEq] at hc
      subst hc
      exact ⟨by simp [Gh.new], by simp [Gh.new], fun o => by simp only [Gh.new]; exact prom_freshG hr (Nat.le_refl _) o⟩⟩
  rw [if_pos (guardV_wanted hr0 hg)]
  unfold Oper.wp
  have hex : (execOp ((⟨tmps, ds⟩ : Act).eval) o).run P w = .ok (.value (.slice (some ⟨w.heap.size, 0, none⟩) n n)) w' := by
    simp only [execOp, hop, ea', eb', Sem.run_bind, hrun]
    rfl
  rw [hex]
  simp only [Oper.upon]
  exact hK _ _ w' ⟨rfl, fun u hu => by simp [Gh.new] at hu; exact hu⟩ k1 k2
end
/-- An array of nil slices is an array of arrays. -/
theorem Weak.toNest {nt : Nat} {X : List (Nat × PV)} {BX BX' : List (Loc × Obj)} (lo : Loc) {e k n : Nat} {b : Bool} {F0 : Nat → List D} {foc : Option (Nat × List PV)} (e1 k1 : Nat) (F : Nat → Nat → List D) (ho : objAt BX lo = some (.arr b e k n F0 foc)) (hfoc : foc = none) (hb0 : b = true) (hk : k = 1)
    (hF : ∀ q, q < n → F0 q = [D.lit (Value.slice none 0 0)]) (hb : nfB (setObj BX lo (.nest e n e1 k1 (fun _ => 0) F none)) = some BX') : Weak ⟨nt, X, BX⟩ ⟨nt, X, BX'⟩ := by
  rw [nfB_eq hb]
  subst hfoc hb0 hk
  refine Weak.obj ho fun g w h => ?_
  obtain ⟨u, cs, h1, h2, h3, h4, h5, h6⟩ := h
  have hnil : ∀ (i : Nat) (v : Value), cs[i]? = some v → v = Value.slice none 0 0 := by
    intro i v hv
    have hi : i < n := by
      have := (List.getElem?_eq_some_iff.1 hv).1
      rw [h2.1] at this; omega
    have : RepL g.π (F0 i) ((cs.drop (i * 1)).take 1) := h4 i hi
    rw [hF i hi] at this
    obtain ⟨v', vs', e', _, ⟨hr, _⟩, _⟩ := this
    have h0 : ((cs.drop (i * 1)).take 1)[0]? = some v := by
      rw [List.getElem?_take_of_lt (by omega), List.getElem?_drop]
      simpa using hv
    rw [e'] at h0
    simp only [List.getElem?_cons_zero, Option.some.injEq] at h0
    rw [← h0, hr]
  refine ⟨u, cs, h1, h2, h3, h5, h6, fun i v hv => ?_, fun i j v v' c hi hj _ _ hc => ?_⟩
  · have := hnil i v hv
    subst this
    exact ⟨[], ⟨by simp, .inl ⟨rfl, rfl⟩⟩, fun c hc => by simp at hc, fun q hq => absurd hq (Nat.not_lt_zero q), fun c hc => by simp [Value.ownBlock] at hc⟩
  · rw [hnil i v hi] at hc
    simp [Value.ownBlock] at hc
/-- What is promised when an array of arrays is given up: all that it owns. -/
def Gh.thaw (g : Gh) (w : World) (lo : Loc) : Gh := { g with
  π := fun b o => match g.π b o with
    | some v => some v
    | none => if g.ω b = .box lo then w.cell? ⟨b, o, none⟩ else none
  ω := fun b => if g.ω b = .box lo then .none else g.ω b }
theorem inn_rep {g g' : Gh} {w : World} {l : Loc} {e1 k1 n : Nat} {F : Nat → List D} {v : Value} (h : InnOK g w l e1 k1 n F v) (hle : Prom.le g.π g'.π) (hp : ∀ c o u, v.ownBlock = some c → w.cell? ⟨c, o, none⟩ = some u → g'.π c o = some u) (f : Nat → D) (hf : ∀ q, q < n → (f q).cells = F q) : RepD g'.π (.sl k1 n f) v := by
  obtain ⟨cs, h1, h2, h3, h4⟩ := h
  rcases id h1.2 with ⟨rfl, rfl⟩ | ⟨c, cap, cur, rfl, _, q1, q2, q3, q4, q5⟩
  · exact ⟨none, 0, rfl, Nat.le_refl _, by simp [maxLen], fun h => by omega⟩
  · refine ⟨_, cap, rfl, q2, q3, fun _ => ⟨c, 0, rfl, fun q hq => ?_⟩⟩
    have hm' : RepL g'.π (f q).cells ((cs.drop (q * k1)).take k1) := by
      rw [hf q hq]
      exact RepL.mono hle _ _ (h3 q hq)
    obtain ⟨v, hv1, hv2⟩ := repD_of_cells hm'
    have hqk : q * k1 + k1 ≤ cs.length := by rw [h1.1, ← Nat.succ_mul]; exact Nat.mul_le_mul_right k1 hq
    refine ⟨v, hv1, ?_, fun j x hx => ?_⟩
    · rw [← Array.length_toList, hv2, List.length_take, List.length_drop]; omega
    · have hx' : v.cells.toList[j]? = some x := by simpa using hx
      rw [hv2, List.getElem?_take] at hx'
      split at hx'
      · rw [List.getElem?_drop] at hx'
        have := World.ownsRow.cells h1 (g := c) rfl _ x hx'
        rw [add_pl, Nat.zero_add] at this
        rw [Nat.zero_add]
        exact hp c _ x rfl this
      · cases hx'
/-- An array of arrays becomes data. -/
theorem thaw_core {g : Gh} {bs : List (Loc × Obj)} {w : World} (hm : Mem g bs w) {lo : Loc} {e n e1 k1 : Nat} {N : Nat → Nat} {F : Nat → Nat → List D} (f : Nat → Nat → D) (ho : objAt bs lo = some (.nest e n e1 k1 N F none)) (hf : ∀ i, i < n → ∀ q, q < N i → (f i q).cells = F i q) :
    ∃ g' u, g.ρ lo = some (u, n) ∧ Gh.le g g' ∧ RepD g'.π (.sl 1 n (fun i => .sl k1 (N i) (f i))) u ∧ (∀ l o, l ≠ lo → objAt bs l = some o → ObjOK g' w l o) ∧ (∀ b o v, g'.π b o = some v → w.cell? ⟨b, o, none⟩ = some v) ∧ Ext g w g' w ∧ g'.fx = g.fx := by
  obtain ⟨u, cs, h1, h2, h3, h4, h5, h6, h7⟩ := hm.box lo _ ho
  have hle : Prom.le g.π (g.thaw w lo).π := by
    intro c o v hv
    simp [Gh.thaw, hv]
  have hgle : Gh.le g (g.thaw w lo) := ⟨hle, fun _ => rfl, fun _ => rfl⟩
  have hpr : ∀ c o v, g.ω c = .box lo → g.π c o = none → w.cell? ⟨c, o, none⟩ = some v → (g.thaw w lo).π c o = some v := by
    intro c o v hc hn hv
    simp [Gh.thaw, hn, hc, hv]
  have hl : cs.length = n := by rw [h2.1, Nat.mul_one]
  refine ⟨g.thaw w lo, u, h1, hgle, ?_, fun l o hl h2 => ?_, fun c o v hv => ?_, ⟨hle, Nat.le_refl _, rfl, rfl, rfl, fun i hi => ⟨rfl, rfl, hi⟩, fun c hc hn => ?_⟩, rfl⟩
  · rcases id h2.2 with ⟨rfl, rfl⟩ | ⟨c, cap, cur, rfl, _, q1, q2, q3, q4, q5⟩
    · exact ⟨none, 0, rfl, Nat.le_refl _, by simp [maxLen], fun h => by omega⟩
    · refine ⟨_, cap, rfl, q2, q3, fun _ => ⟨c, 0, rfl, fun q hq => ?_⟩⟩
      obtain ⟨v, hv⟩ : ∃ v, cs[q]? = some v := ⟨_, List.getElem?_eq_getElem (by omega)⟩
      have hin : InnOK g w lo e1 k1 (N q) (F q) v := h6 q v hv
      obtain ⟨_, _, _, _, r4⟩ := id hin
      refine ⟨v, inn_rep hin hle (fun c' o' u' hc' hu' => hpr c' o' u' (r4 c' hc').2.1 ((r4 c' hc').2.2 o') hu') (f q) (hf q hq), ?_, fun j x hx => ?_⟩
      · have := one_cells (h3 v (List.mem_of_getElem? hv))
        rw [this]; rfl
      · have e0 := one_cells (h3 v (List.mem_of_getElem? hv))
        rw [e0] at hx
        have hj : j = 0 := by
          have := (Array.getElem?_eq_some_iff.1 hx).1
          simp at this
          exact this
        subst hj
        simp only [List.getElem?_toArray, List.getElem?_cons_zero, Option.some.injEq] at hx
        subst hx
        have hcell := World.ownsRow.cells h2 (g := c) rfl q v hv
        rw [add_pl, Nat.zero_add] at hcell
        have := hpr c q v (h5 c rfl).2.1 ((h5 c rfl).2.2 q) hcell
        simpa using this
  · have := (hm.box l o h2).tr (g' := g.thaw w lo) (w' := w) (l' := l) id (fun ps vs h => RepPL.mono hgle ps vs h) hle rfl rfl rfl (fun c hc _ => by
      have hne : ¬ (Own.box l = Own.box lo) := fun e => by injection e with e; exact hl e
      exact ⟨rfl, by simp [Gh.thaw, hc, hne], fun o => by simp only [Gh.thaw, hc, hne, if_false]; cases g.π c o <;> rfl⟩)
    rwa [Obj.map_id] at this
  · simp only [Gh.thaw] at hv
    cases hp : g.π c o with
    | some x =>
      rw [hp] at hv
      cases hv
      exact hm.prom c o _ hp
    | none =>
      rw [hp] at hv
      simp only at hv
      split at hv
      · exact hv
      · cases hv
  · have hne : ¬ (Own.none = Own.box lo) := fun e => by cases e
    exact ⟨rfl, by simp [Gh.thaw, hn, hne], fun o => by simp only [Gh.thaw, hn, hne, if_false]; cases g.π c o <;> rfl⟩
theorem Weak.thaw {nt : Nat} {X : List (Nat × PV)} {BX BX' : List (Loc × Obj)} (i : Nat) (lo : Loc) {e n n' e1 k1 : Nat} {N : Nat → Nat} {F : Nat → Nat → List D} {foc : Option (Nat × List PV)} (f : Nat → Nat → D) (hi : envAt X i = .sl lo n) (ho : objAt BX lo = some (.nest e n' e1 k1 N F foc)) (hfoc : foc = none)
    (hn : n = n') (hf : ∀ i, i < n → ∀ q, q < N i → (f i q).cells = F i q) (hb : nfB (dropObj BX lo) = some BX') : Weak ⟨nt, X, BX⟩ ⟨nt, (i, .d (.sl 1 n (fun i => .sl k1 (N i) (f i)))) :: X, BX'⟩ := by
  rw [nfB_eq hb]
  subst hfoc hn
  intro g tmps w hr
  obtain ⟨g', u, k1', k2, k3, k4, k5, k6, _⟩ := thaw_core hr.mem f ho hf
  refine ⟨g', ⟨hr.len, fun t => ?_, ⟨fun l o hl => ?_, k5, hr.mem.glob.ext k6⟩⟩, k6⟩
  · show RepP g' (envAt ((i, _) :: X) t) _
    simp only [envAt]
    by_cases hit : i = t
    · subst hit
      simp only [Nat.beq_refl, cond_true]
      have h0 := hr.env i
      rw [show envAt (St.mk nt X BX).env i = envAt X i from rfl, hi] at h0
      have := h0.2 u k1'
      rw [this]
      exact k3
    · rw [nbeqF hit, cond_false]
      exact RepP.mono k2 _ _ (hr.env t)
  · obtain ⟨h1, h2⟩ := objAt_dropObj hl
    exact k4 l o h1 h2
end Go.Pv
namespace Go.Pv
open Go.RowKit

/-! ### An array whose slice lies in a cell of a box -/
def Gh.take (g : Gh) (lo : Loc) (d : Nat) : Gh where
  π := g.π
  β := fun l => if l = .loc d then g.β lo else g.β l
  ρ := fun l => if l = .loc d then g.ρ lo else g.ρ l
  ω := fun c => if g.ω c = .box lo then .box (.loc d) else g.ω c
  fx := fun l => if l = .loc d then false else g.fx l
/-- It gets a new name. -/
theorem Weak.takeBox {nt : Nat} {X : List (Nat × PV)} {BX BX' : List (Loc × Obj)} (h lo : Loc) (j d : Nat) {cs : List PV} {b : Bool} {e k n n' : Nat} {F : Nat → List D} {foc : Option (Nat × List PV)} (hh : objAt BX h = some (.cells cs)) (hj : cs[j]? = some (.sl lo n)) (ho : objAt BX lo = some (.arr b e k n' F foc)) (hfoc : foc = none)
    (hn : n = n') (hcl : (cleanE d X && cleanB d BX && !(Loc.eqb lo (.loc d)) && !(Loc.eqb h (.loc d)) && !(Loc.eqb h lo)) = true)
    (hb : nfB ((.loc d, .arr false e k n F none) :: setObj (setObj BX lo (.gone b (some n))) h (.cells (setAt cs j (.sl (.loc d) n)))) = some BX') : Weak ⟨nt, X, BX⟩ ⟨nt, X, BX'⟩ := by
  rw [nfB_eq hb]
  subst hfoc hn
  simp only [Bool.and_eq_true, Bool.not_eq_true'] at hcl
  obtain ⟨⟨⟨⟨c1, c2⟩, c3⟩, c4⟩, c5⟩ := hcl
  have hne : lo ≠ .loc d := fun e => by rw [Loc.eqb_iff.2 e] at c3; exact absurd c3 (by decide)
  have hnh : h ≠ .loc d := fun e => by rw [Loc.eqb_iff.2 e] at c4; exact absurd c4 (by decide)
  have hhl : h ≠ lo := fun e => by rw [Loc.eqb_iff.2 e] at c5; exact absurd c5 (by decide)
  intro g tmps w hr
  obtain ⟨u, vs, h1, h2, h3, h4, h5, h6⟩ := hr.mem.box lo _ ho
  have hag : ∀ l, l ≠ .loc d → (g.take lo d).β l = g.β l ∧ (g.take lo d).ρ l = g.ρ l := fun l hl => by simp [Gh.take, hl]
  have hωl : ∀ (l : Loc) (b : Nat), l ≠ lo → g.ω b = .box l → (g.take lo d).ω b = .box l := by
    intro l b hl hb
    have : ¬ (Own.box l = Own.box lo) := fun e => by injection e with e; exact hl e
    simp [Gh.take, hb, this]
  have hω0 : ∀ b, g.ω b = .none → (g.take lo d).ω b = .none := by
    intro b hb
    have : ¬ (Own.none = Own.box lo) := fun e => by cases e
    simp [Gh.take, hb, this]
  refine ⟨g.take lo d, ⟨hr.len, fun t => RepP.agree (g := g) (g' := g.take lo d) (d := d) (Prom.le_refl g.π) hag _ _ (cleanE_at c1 t) (hr.env t), ⟨fun l o hlo => ?_, hr.mem.prom, hr.mem.glob.to fun c _ ho => ⟨rfl, hω0 c ho⟩⟩⟩,
    ⟨Prom.le_refl _, Nat.le_refl _, rfl, rfl, rfl, fun q hq => ⟨by simp [Gh.take], by simp [Gh.take], by simpa [Gh.take] using hq⟩, fun c _ ho => ⟨rfl, hω0 c ho, fun _ => rfl⟩⟩⟩
  simp only [objAt] at hlo
  by_cases hld : Loc.eqb (.loc d) l = true
  · have := Loc.eqb_iff.1 hld
    subst this
    rw [hld, cond_true] at hlo
    cases hlo
    exact ⟨u, vs, by simp [Gh.take, h1], h2, h3, h4, by simp [Gh.take], fun c hc => ⟨by simp [Gh.take, (h6 c hc).1], by simp [Gh.take, (h6 c hc).2.1], (h6 c hc).2.2⟩⟩
  · have hld' : Loc.eqb (.loc d) l = false := by simpa using hld
    have hlne : l ≠ .loc d := fun e => hld (Loc.eqb_iff.2 e.symm)
    rw [hld', cond_false, objAt_setObj, objAt_setObj] at hlo
    by_cases hll : h = l
    · subst hll
      rw [if_pos rfl, if_neg hhl.symm, hh] at hlo
      cases hlo
      have hk : ObjOK (g.take lo d) w h (.cells cs) := (hr.mem.box h _ hh).agree hnh (cleanB_at c2 hh) (Prom.le_refl _) hag (by simp [Gh.take, hnh]) (fun b hb _ => ⟨rfl, hωl h b hhl hb, fun _ => rfl⟩)
      obtain ⟨Ty, us, m1, m2, m3⟩ := hk
      refine ⟨Ty, us, m1, setAt_rep m2 hj (fun v hv => ⟨hv.1, fun u' hu' => ?_⟩), m3⟩
      refine hv.2 u' ?_
      rw [(hag lo hne).2]
      simpa [Gh.take] using hu'
    · rw [if_neg hll] at hlo
      by_cases hlo2 : lo = l
      · subst hlo2
        rw [if_pos rfl, ho] at hlo
        cases hlo
        refine ⟨by simp [Gh.take, hne, h5], fun m hm => ?_⟩
        cases hm
        rw [(hag lo hne).2, h1]
        rcases h2.2 with ⟨rfl, e0⟩ | ⟨c, cap, cur, rfl, _⟩
        · rw [e0]; exact ⟨none, 0, rfl⟩
        · exact ⟨_, cap, rfl⟩
      · rw [if_neg hlo2] at hlo
        exact (hr.mem.box l o hlo).agree hlne (cleanB_at c2 hlo) (Prom.le_refl _) hag (by simp [Gh.take, hlne]) (fun b hb _ => ⟨rfl, hωl l b (fun e => hlo2 e.symm) hb, fun _ => rfl⟩)
/-- A nil slice in a cell of a box becomes an array of one's own. -/
theorem Weak.seedBox {nt : Nat} {X : List (Nat × PV)} {BX BX' : List (Loc × Obj)} (h : Loc) (j d e k : Nat) (F : Nat → List D) {cs : List PV} (hh : objAt BX h = some (.cells cs)) (hj : cs[j]? = some (.d (.lit (.slice none 0 0))))
    (hcl : (cleanE d X && cleanB d BX && !(Loc.eqb h (.loc d))) = true) (hb : nfB ((.loc d, .arr false e k 0 F none) :: setObj BX h (.cells (setAt cs j (.sl (.loc d) 0)))) = some BX') : Weak ⟨nt, X, BX⟩ ⟨nt, X, BX'⟩ := by
  rw [nfB_eq hb]
  simp only [Bool.and_eq_true, Bool.not_eq_true'] at hcl
  have hnh : h ≠ .loc d := fun e => by rw [Loc.eqb_iff.2 e] at hcl; exact absurd hcl.2 (by decide)
  intro g tmps w hr
  have key := hr.newObj (g' := g.new d w.heap.size (some (.slice none 0 0, 0)) false) (w' := w) (o := .arr false e k 0 F none) (by rw [hcl.1.1, hcl.1.2]; rfl) rfl (fun l hl => by simp [Gh.new, hl]) (fun c hc => by simp [Gh.new, Nat.ne_of_lt hc])
    (fun c hc => rfl) (Nat.le_refl _) rfl rfl rfl
    ⟨.slice none 0 0, [], by simp [Gh.new], World.ownsRow_nil w 0 e k, by simp, fun i hi => by omega, by simp [Gh.new], fun c hc => by simp [Value.ownBlock] at hc⟩
  refine ⟨_, ⟨key.1.len, key.1.env, ⟨fun l o hlo => ?_, key.1.mem.prom, key.1.mem.glob⟩⟩, key.2⟩
  simp only [objAt] at hlo
  by_cases hld : Loc.eqb (.loc d) l = true
  · rw [hld, cond_true] at hlo
    refine key.1.mem.box l o ?_
    simp only [objAt]
    rw [hld, cond_true]
    exact hlo
  · have hld' : Loc.eqb (.loc d) l = false := by simpa using hld
    rw [hld', cond_false, objAt_setObj] at hlo
    have hk : ∀ o, objAt BX l = some o → ObjOK (g.new d w.heap.size (some (.slice none 0 0, 0)) false) w l o := fun o h => key.1.mem.box l o (by
      simp only [objAt]
      rw [hld', cond_false]
      exact h)
    by_cases hll : h = l
    · subst hll
      rw [if_pos rfl, hh] at hlo
      cases hlo
      obtain ⟨Ty, us, m1, m2, m3⟩ := hk _ hh
      refine ⟨Ty, us, m1, setAt_rep m2 hj (fun v hv => ?_), m3⟩
      rw [hv.1]
      refine ⟨rfl, fun u hu => ?_⟩
      simp only [Gh.new, if_true, Option.some.injEq, Prod.mk.injEq, and_true] at hu
      exact hu
    · rw [if_neg hll] at hlo
      exact hk o hlo
/-- An array of arrays, shown by a cell of a box, becomes data. -/
theorem Weak.thawBox {nt : Nat} {X : List (Nat × PV)} {BX BX' : List (Loc × Obj)} (h lo : Loc) (j : Nat) {cs : List PV} {e n n' e1 k1 : Nat} {N : Nat → Nat} {F : Nat → Nat → List D} {foc : Option (Nat × List PV)} (f : Nat → Nat → D) (hh : objAt BX h = some (.cells cs)) (hj : cs[j]? = some (.sl lo n)) (ho : objAt BX lo = some (.nest e n' e1 k1 N F foc)) (hfoc : foc = none)
    (hn : n = n') (hf : ∀ i, i < n → ∀ q, q < N i → (f i q).cells = F i q) (hne : (!(Loc.eqb h lo)) = true) (hb : nfB (setObj (setObj BX lo (.gone true (some n))) h (.cells (setAt cs j (.d (.sl 1 n (fun i => .sl k1 (N i) (f i))))))) = some BX') : Weak ⟨nt, X, BX⟩ ⟨nt, X, BX'⟩ := by
  rw [nfB_eq hb]
  subst hfoc hn
  have hhl : h ≠ lo := fun e => by rw [Loc.eqb_iff.2 e] at hne; exact absurd hne (by decide)
  intro g tmps w hr
  obtain ⟨g', u, k1, k2, k3, k4, k5, k6, k7⟩ := thaw_core hr.mem f ho hf
  obtain ⟨u', vs', q1, q2, _, q4, _⟩ := hr.mem.box lo _ ho
  refine ⟨g', ⟨hr.len, fun i => RepP.mono k2 _ _ (hr.env i), ⟨fun l o hl => ?_, k5, hr.mem.glob.ext k6⟩⟩, k6⟩
  rw [objAt_setObj, objAt_setObj] at hl
  by_cases hll : h = l
  · subst hll
    rw [if_pos rfl, if_neg hhl.symm, hh] at hl
    cases hl
    obtain ⟨Ty, vs, m1, m2, m3⟩ := k4 h _ hhl hh
    refine ⟨Ty, vs, m1, setAt_rep m2 hj (fun v hv => ?_), m3⟩
    have : v = u := hv.2 u (by rw [k2.ρ]; exact k1)
    subst this
    exact k3
  · rw [if_neg hll] at hl
    by_cases hlo : lo = l
    · subst hlo
      rw [if_pos rfl, ho] at hl
      cases hl
      refine ⟨by rw [k7]; exact q4, fun m hm => ?_⟩
      cases hm
      rw [k2.ρ, q1]
      rcases q2.2 with ⟨rfl, e0⟩ | ⟨c, cap, cur, rfl, _⟩
      · rw [e0]; exact ⟨none, 0, rfl⟩
      · exact ⟨_, cap, rfl⟩
    · rw [if_neg hlo] at hl
      exact k4 l o (fun e => hlo e.symm) hl
section
variable {P : Program} {l rest : List Oper} {nt : Nat} {o : Oper} {X : List (Nat × PV)} {BX : List (Loc × Obj)} {Q : AEx → St → Prop} {d : Nat}
/-- An array of one's own against nil. -/
theorem AL.isnilN {T : Tab} (hT : TabOK P T) {t e e' : Nat} {x : Operand} {tt : TypeId} {j : TI} {b : Bool} {k n n' : Nat} {F : Nat → List D} {foc : Option (Nat × List PV)} {lo : Loc} (hg : o.guard = none) (hop : o.op = .binOp .eql t x (.const (.slice none 0 0)) tt)
    (hel : elemOfT T t = some (e, j)) (hx : opnd X x = .sl lo n) (ho : objAt BX lo = some (.arr b e' k n' F foc)) (hn : n = n') (hdst : o.dst = some d) (hd : Nat.blt d nt = true)
    (h : ∀ b : Bool, (b = true → n = 0) → AL P l.toArray rest Q ⟨nt, (d, .d (.lit (.bool b))) :: X, BX⟩) : AL P l.toArray (o :: rest) Q ⟨nt, X, BX⟩ := by
  subst hn
  intro g tmps ds w hr
  obtain ⟨hu, _⟩ := elemOfT_spec hT hel
  have hpx := opnd_rep hr ds x
  rw [hx] at hpx
  obtain ⟨u, vs, h1, h2, _⟩ := hr.mem.box lo _ ho
  have hxu := hpx.2 u h1
  obtain ⟨a, c, hv, ha⟩ : ∃ a c, (⟨tmps, ds⟩ : Act).eval x = .slice a n c ∧ (a = none → n = 0) := by
    rcases h2.2 with ⟨e1, e0⟩ | ⟨c, cap, cur, e1, _⟩
    · exact ⟨none, 0, by rw [hxu, e1, e0], fun _ => e0⟩
    · exact ⟨_, cap, by rw [hxu, e1], fun h => by cases h⟩
  have hrun : (execOp ((⟨tmps, ds⟩ : Act).eval) o).run P w = .ok (.value (.bool a.isNone)) w := by
    have hb : (do eqGuard .eql t x (.const (.slice none 0 0)) (.slice a n c) (.slice none 0 0); binOp .eql t (.slice a n c) (.slice none 0 0) : Sem Value).run P w = .ok (.bool a.isNone) w := by
      simp [eqGuard, binOp, run_equal_slice_nil w t e a n c hu]
    simp only [execOp, hop]
    rw [Sem.run_bind]
    have e1 : (⟨tmps, ds⟩ : Act).eval (.const (.slice none 0 0)) = .slice none 0 0 := rfl
    rw [hv, e1, hb]
    rfl
  simp only [wpList]
  rw [if_pos (guardV_wanted hr (by rw [hg]; rfl))]
  refine .inl ?_
  unfold Oper.wp
  rw [hrun]
  simp only [Oper.upon]
  rw [put_eta]
  have := hr.put o.dst (by rw [hdst]; exact hd) (.d (.lit (.bool a.isNone))) (.bool a.isNone) ⟨rfl, rfl⟩ ds
  rw [hdst] at this ⊢
  refine h a.isNone (fun hb => ha ?_) g _ ds w this
  cases a with
  | some _ => cases hb
  | none => rfl
theorem AW.label {st : St} {id : Nat} (h : Q .normal st) : AW P (.label id) Q st := fun g _ _ w hr => wp_label ⟨st, g, h, hr, Ext.refl g w, rfl⟩
theorem AW.scope {st : St} {c : Code} (h : AW P c Q st) : AW P (.scope c) Q st := fun g tmps ds w hr => wp_scope_straight (wp_mono (h g tmps ds w hr) fun e a w' hl => by
  cases e with
  | goto l => exact hl.elim
  | _ => exact hl)
end
end Go.Pv
namespace Go.Pv
open Go.RowKit

/-- What one no longer wants to know of cells. -/
def dimL : List PV → List Bool → List PV
  | p :: ps, b :: bs => (bif b then p else .any) :: dimL ps bs
  | _ :: ps, [] => .any :: dimL ps []
  | [], _ => []
theorem RepPL.dim {g : Gh} : ∀ {cs : List PV} {bs : List Bool} {vs : List Value}, RepPL g cs vs → RepPL g (dimL cs bs) vs
  | [], _, _, h => by simpa [dimL] using h
  | p :: ps, [], _, h => by
    obtain ⟨v, vs', e, _, h2⟩ := h
    exact ⟨v, vs', e, trivial, RepPL.dim h2⟩
  | p :: ps, b :: bs, _, h => by
    obtain ⟨v, vs', e, h1, h2⟩ := h
    refine ⟨v, vs', e, ?_, RepPL.dim h2⟩
    cases b with
    | true => exact h1
    | false => trivial
theorem Weak.dim {nt : Nat} {X : List (Nat × PV)} {BX BX' : List (Loc × Obj)} (lo : Loc) (bs : List Bool) {cs : List PV} (ho : objAt BX lo = some (.cells cs)) (hb : nfB (setObj BX lo (.cells (dimL cs bs))) = some BX') : Weak ⟨nt, X, BX⟩ ⟨nt, X, BX'⟩ := by
  rw [nfB_eq hb]
  refine Weak.obj ho fun g w h => ?_
  obtain ⟨T, vs, h1, h2, h3⟩ := h
  exact ⟨T, vs, h1, h2.dim, h3⟩
end Go.Pv
namespace Go.Pv
open Go.RowKit

/-- What is promised when a new block is given up at once. -/
def Gh.give (g : Gh) (b : Nat) (cs : List Value) : Gh := { g with
  π := fun c o => if c = b then cs[o]? else g.π c o
  ω := fun c => if c = b then .none else g.ω c }
section
variable {P : Program} {l : List Oper} {nt : Nat} {o : Oper} {X : List (Nat × PV)} {BX : List (Loc × Obj)}
/-- A new slice of parts, as data. -/
theorem VE.bsliceD {T : Tab} (hT : TabOK P T) {t e len k : Nat} {parts : Array (Nat × Operand)} {j : TI} {cs : List PV} {xs : List D}
    (f : Nat → D) (hg : guardV l (keepEnv X (looks l o)) o.guard = some true) (hop : o.op = .buildSlice t len parts) (hel : elemOfT T t = some (e, j)) (hk : j.size = k)
    (hz : (j.zero.cells.toList.all Value.oneCell' && Nat.beq j.zero.cells.size j.size && Nat.blt 0 j.size && Nat.ble (len * j.size) 16777216) = true)
    (hfill : fillP (fun i => some (i * j.size, j.size)) (List.replicate (len * j.size) .any) (parts.toList.map fun x => (x.1, opnd (keepEnv X (looks l o)) x.2)) = some cs) (hxs : toDs cs = some xs)
    (hF : ∀ i, i < len → (f i).cells = (xs.drop (i * k)).take k) :
    VE P l nt o X BX ⟨.d (.sl k len f), [], [], []⟩ := by
  intro E B hE hB hnE hnB g tmps ds w hr K Q' hK
  subst hk
  have hr0 := hr.keep hE (BX := BX) (ls := []) (fun m hm => by cases hm)
  simp only [Bool.and_eq_true] at hz
  have hz1 : ∀ v ∈ j.zero.cells.toList, v.oneCell' = true := fun v hv => List.all_eq_true.1 hz.1.1.1 v hv
  have hz2 := Nat.eq_of_beq_eq_true hz.1.1.2
  have hz3 : 0 < j.size := Nat.blt_eq.mp hz.1.2
  have hz4 := Nat.le_of_ble_eq_true hz.2
  obtain ⟨hu, htj⟩ := elemOfT_spec hT hel
  obtain ⟨i, hi, hi1, hi2, hi3⟩ := hT.inf htj
  let c0 : Array Value := if len * j.size = 0 then #[] else ((Array.range (len * j.size)).map (j.zero.cells[· % j.zero.cells.size]!))
  have hc0 : c0.toList.length = len * j.size := by
    simp only [c0]
    split <;> simp_all
  have hc1 : ∀ v ∈ c0.toList, v.oneCell' = true := by
    intro v hv
    simp only [c0] at hv
    split at hv
    · simp at hv
    · simp only [Array.toList_map, List.mem_map] at hv
      obtain ⟨q, _, rfl⟩ := hv
      have hlt : q % j.zero.cells.size < j.zero.cells.size := Nat.mod_lt _ (by omega)
      have hq : j.zero.cells[q % j.zero.cells.size]! = j.zero.cells[q % j.zero.cells.size]'hlt := getElem!_pos j.zero.cells _ hlt
      rw [hq]
      exact hz1 _ (by simp)
  have hany : RepPL g (List.replicate (len * j.size) .any) c0.toList := by rw [← hc0]; exact repPL_any _
  obtain ⟨vs', m1, m2, m3⟩ := fillP_sound (vals := parts.toList.map fun x => (x.1, (⟨tmps, ds⟩ : Act).eval x.2)) hfill hany hc1 (by simp) (by
    have := repPL_map (opnd_rep hr0 ds) (parts.toList.map (·.2))
    simpa [List.map_map, Function.comp_def] using this)
  have hlen : vs'.toList.length = len * j.size := by
    rw [m2.length, fillP_len _ _ _ hfill]
    simp
  have hD := toDs_rep hxs m2 m3
  have hrun : (execOp ((⟨tmps, ds⟩ : Act).eval) o).run P w = .ok (.value (.slice (some ⟨w.heap.size, 0, none⟩) len len)) (w.alloc (.cells vs' e)) := by
    have hb := run_bslice (P := P) w t e len ((parts.toList.map fun x => (x.1, (⟨tmps, ds⟩ : Act).eval x.2)).toArray) vs' i j.zero hu hi hi3 (by rw [hi1]; omega) (by rw [hi1]; simpa [c0] using m1)
    have ha : (parts.map fun x => (x.1, (⟨tmps, ds⟩ : Act).eval x.2)) = (parts.toList.map fun x => (x.1, (⟨tmps, ds⟩ : Act).eval x.2)).toArray := by apply Array.ext'; simp
    simp only [execOp, hop, Sem.run_bind]
    rw [ha, hb]
    rfl
  have hle : Prom.le g.π (g.give w.heap.size vs'.toList).π := by
    intro c q v hv
    have hne : c ≠ w.heap.size := fun h => by rw [h, prom_freshG hr (Nat.le_refl _) q] at hv; cases hv
    simp [Gh.give, hne, hv]
  have hgle : Gh.le g (g.give w.heap.size vs'.toList) := ⟨hle, fun _ => rfl, fun _ => rfl⟩
  have hold : ∀ c, c < w.heap.size → (w.alloc (.cells vs' e)).heap[c]? = w.heap[c]? := fun c hc => heap_alloc_old w _ hc
  have hown : (w.alloc (.cells vs' e)).ownsRow 0 e j.size (.slice (some ⟨w.heap.size, 0, none⟩) len len) len vs'.toList := ⟨hlen, .inr ⟨w.heap.size, len, vs', rfl, Nat.zero_le _, heap_alloc_new w _, Nat.le_refl _, by
        have : len * 1 ≤ len * j.size := Nat.mul_le_mul_left len hz3
        simp only [maxLen]; omega, by simpa using hlen, by rw [List.take_of_length_le (by omega)]⟩⟩
  have hext : Ext g w (g.give w.heap.size vs'.toList) (w.alloc (.cells vs' e)) := ⟨hle, by simp, rfl, rfl, rfl, fun i hi => ⟨rfl, rfl, hi⟩, fun c hc hn => by
    have hne : c ≠ w.heap.size := Nat.ne_of_lt hc
    exact ⟨hold c hc, by simp [Gh.give, hne, hn], fun q => by simp [Gh.give, hne]⟩⟩
  have hrep : RepD (g.give w.heap.size vs'.toList).π (.sl j.size len f) (.slice (some ⟨w.heap.size, 0, none⟩) len len) := by
    refine ⟨_, len, rfl, Nat.le_refl _, by
      have : len * 1 ≤ len * j.size := Nat.mul_le_mul_left len hz3
      simp only [maxLen]; omega, fun _ => ⟨w.heap.size, 0, rfl, fun q hq => ?_⟩⟩
    have hm' : RepL (g.give w.heap.size vs'.toList).π (f q).cells ((vs'.toList.drop (q * j.size)).take j.size) := by
      rw [hF q hq]
      exact RepL.mono hle _ _ ((hD.drop _).take _)
    obtain ⟨v, hv1, hv2⟩ := repD_of_cells hm'
    have hqk : q * j.size + j.size ≤ vs'.toList.length := by rw [hlen, ← Nat.succ_mul]; exact Nat.mul_le_mul_right j.size hq
    refine ⟨v, hv1, ?_, fun r x hx => ?_⟩
    · rw [← Array.length_toList, hv2, List.length_take, List.length_drop]; omega
    · have hx' : v.cells.toList[r]? = some x := by simpa using hx
      rw [hv2, List.getElem?_take] at hx'
      split at hx'
      · rw [List.getElem?_drop] at hx'
        have : vs'[q * j.size + r]? = some x := by simpa using hx'
        simp [Gh.give, this]
      · cases hx'
  have hrel : RelG (g.give w.heap.size vs'.toList) nt E B tmps (w.alloc (.cells vs' e)) := by
    refine ⟨hr.len, fun t => RepP.mono hgle _ _ (hr.env t), fun q c hq => ?_, fun b q v hp => ?_, hr.glob.to fun b hb hn => ⟨(hext.keep b hb hn).1, (hext.keep b hb hn).2.1⟩⟩
    · have := (hr.box q c hq).tr (g' := g.give w.heap.size vs'.toList) (w' := w.alloc (.cells vs' e)) (l' := q) id (fun ps vs h => RepPL.mono hgle ps vs h) hle rfl rfl rfl (fun b hb hlt => by
        have hne : b ≠ w.heap.size := Nat.ne_of_lt hlt
        exact ⟨hold b hlt, by simp [Gh.give, hne, hb], fun q => by simp [Gh.give, hne]⟩)
      rwa [Obj.map_id] at this
    · by_cases hne : b = w.heap.size
      · subst hne
        have hv' : vs'.toList[q]? = some v := by simpa [Gh.give] using hp
        have := World.ownsRow.cells hown (g := w.heap.size) rfl q v hv'
        rwa [add_pl, Nat.zero_add] at this
      · have hv' : g.π b q = some v := by simpa [Gh.give, hne] using hp
        have h2 := hr.prom b q v hv'
        have hlt := World.block_lt_of_cell? w _ h2
        rw [cell_heap (hold b hlt)]
        exact h2
  rw [if_pos (guardV_wanted hr0 hg)]
  unfold Oper.wp
  rw [hrun]
  simp only [Oper.upon]
  exact hK _ _ _ hrep hrel hext
end
end Go.Pv
namespace Go.Pv
open Go.RowKit

theorem Weak.freezeM {nt : Nat} {X : List (Nat × PV)} {BX BX' : List (Loc × Obj)} (i : Nat) (lo : Loc) {b : Bool} {e k n n' m : Nat} {F : Nat → List D} {foc : Option (Nat × List PV)} (f : Nat → D) (hi : envAt X i = .sl lo n) (ho : objAt BX lo = some (.arr b e k n' F foc)) (hfoc : foc = none)
    (hn : n = n') (hm : n = m) (hf : ∀ i, i < n → (f i).cells = F i) (hb : nfB (dropObj BX lo) = some BX') : Weak ⟨nt, X, BX⟩ ⟨nt, (i, .d (.sl k m f)) :: X, BX'⟩ := by
  subst hm
  exact Weak.freezeN i lo f hi ho hfoc hn hf hb
theorem Weak.freezeFocM {nt : Nat} {X : List (Nat × PV)} {BX BX' : List (Loc × Obj)} (h lo : Loc) (j : Nat) {cs : List PV} {hb : Bool} {he hk hn i : Nat} {hF : Nat → List D} {b : Bool} {e k n n' m : Nat} {F : Nat → List D} {foc : Option (Nat × List PV)} (f : Nat → D) (hh : objAt BX h = some (.arr hb he hk hn hF (some (i, cs)))) (hj : cs[j]? = some (.sl lo n))
    (ho : objAt BX lo = some (.arr b e k n' F foc)) (hfoc : foc = none) (hnn : n = n') (hm : n = m) (hf : ∀ i, i < n → (f i).cells = F i) (hB : nfB (setObj (dropObj BX lo) h (.arr hb he hk hn hF (some (i, setAt cs j (.d (.sl k m f)))))) = some BX') : Weak ⟨nt, X, BX⟩ ⟨nt, X, BX'⟩ := by
  subst hm
  exact Weak.freezeFoc h lo j f hh hj ho hfoc hnn hf hB
end Go.Pv
