/- Part of the proofs over this seat: V32. -/
import Derived.Test.YteohopnpcanfpaaGreatDoorZKx
set_option maxRecDepth 100000
namespace Go.Pv
open Go.RowKit Go.Proofs

theorem OkB.set {l : List Tb} {c : Ch} {ti : Nat} {u : Tb} (hs : SmallP l) (hv : ValidP l) (hti : ti < l.length) (h : Chg (l.getD ti default) c u) : OkB (l.set ti u) := by
  have hm := mem_getD (α := Tb) hti
  have hb := hs.okB
  have hr := h.right (hv.right _ hm)
  refine ⟨by rw [List.length_set]; exact hb.len, fun t ht => ?_, fun t ht => ?_, fun t ht => ?_⟩
  · rcases List.mem_or_eq_of_mem_set ht with ht | rfl
    · exact hb.attrs t ht
    · have := hr.max; omega
  · rcases List.mem_or_eq_of_mem_set ht with ht | rfl
    · exact hb.key t ht
    · have := hs.key _ hm; rw [h.key]; omega
  · rcases List.mem_or_eq_of_mem_set ht with ht | rfl
    · exact hb.was t ht
    · intro a ha
      have := h.was (hs.was _ hm) a ha
      omega
theorem conv_len {l : List Tb} {c : Ch} {n : Int} {row : List Vl} : (convX l c n row).1.length ≤ row.length + 1 := by
  unfold convX
  split
  · split
    · simp
    · split
      · unfold rowX
        split
        · simp [rowR]
        · split
          · simp only [rowR]; have := List.length_eraseIdx_le row (colX (tabOf l c) c); omega
          · split
            · simp [rowR]
            · split
              · simp [rowR, rowC]
              · simp [rowR]
      · simp
  · simp
set_option maxHeartbeats 8000000 in
/-- cleanselaw06.SchemaBack. -/
theorem f7 (l : List Tb) (c : Ch) (raw : Int) (row : List Vl) (hw : WideS l) (hraw : 0 ≤ raw ∧ raw ≤ 255) : AF Tryz.prog 7 [.d (.agg [eTs l]), .d (eC c), .d (.lit (.int .u8 raw)), .d (eVs row)] [] (fun o p => o = .ret (.d (.lit (.bool true))) ∧ p = []) := by
  refine AF.intro hT Tryz.func7 rfl (by kernel_rfl) (Nat.le_of_ble_eq_true rfl) ?_
  repeat (first | refine wA0 rfl rfl rfl rfl ?_ | refine AL.nil ?_ | refine AW.seq ?_ | refine AW.region ?_ | refine bA rfl rfl rfl rfl rfl rfl ?_)
  refine AL.call0 rfl rfl rfl (f15) rfl rfl rfl ?_
  repeat (first | refine wA0 rfl rfl rfl rfl ?_ | refine AL.nil ?_ | refine AW.seq ?_ | refine AW.region ?_)
  refine AL.call0 rfl rfl rfl (f16r l c row) rfl rfl rfl ?_
  repeat (first | refine wA0 rfl rfl rfl rfl ?_ | refine wA1 rfl rfl rfl rfl rfl ?_ | refine AL.nil ?_)
  refine AW.cond rfl (fun h0 => ?_) (fun h0 => ?_)
  · repeat' (first | refine wA0 rfl rfl rfl rfl ?_ | refine AL.nil ?_ | refine AW.seq ?_ | refine AW.region ?_ | (refine AW.ret ?_; refine ⟨[], _, _, rfl, rfl, ⟨?_, rfl⟩, rfl⟩))
    rfl
  · have h0' : (bif bif !smallF l c row.length then true else c.kind != 1 then true else (l.length : Int) == 0) = false := h0
    have hsF : smallF l c row.length = true := by
      cases h : smallF l c row.length with
      | true => rfl
      | false => rw [h] at h0'; cases h0'
    rw [hsF] at h0'
    have hk : c.kind = 1 := by
      cases h : c.kind != 1 with
      | true => rw [h] at h0'; cases h0'
      | false => simpa using h
    have hl0 : l.length ≠ 0 := by
      intro e
      rw [hk, e] at h0'
      cases h0'
    obtain ⟨hS, hcn, _, hr⟩ := smallF_ok hsF
    have hr' : row.length ≤ 20 := by omega
    have big : (1000000 : Nat) ≤ maxLen := by decide
    have hl : OkS l := hS.okS hw
    have hcc : OkC c := ⟨by omega⟩
    have hcd : OkC (dropC c) := ⟨Nat.zero_le _⟩
    have hllen := hl.len
    have hz : (l.length : Int) ≠ 0 := by omega
    obtain ⟨n, hn, hnl⟩ := raw_mod hraw.1 hraw.2 hl0
    have h17 := f17X l c hl hcc hS.okB
    have h19 := f19X l c n row hl hcc (by omega)
    repeat (first | refine wA0 rfl rfl rfl rfl ?_ | refine AL.nil ?_ | refine AW.seq ?_ | refine AW.region ?_ | refine AW.skip ?_)
    rw [hn]
    skip
    by_cases he : errX l c = 0
    · obtain ⟨g1, g2, ⟨ti, hti, htl, ht⟩, g4⟩ := errX_zero he
      have hg := Chg.of g1 g4
      rw [ht] at hg
      rw [applyX_ok he hti] at h17
      have hl' : OkS (l.set ti (tabX (l.getD ti default) c)) := hl.set hS g2 htl hg
      have hb17 := f17X (l.set ti (tabX (l.getD ti default) c)) (dropC c) hl' hcd (OkB.set hS g2 htl hg)
      rw [back_apply he hk hti htl] at hb17
      refine AL.call0 rfl rfl rfl (h17) rfl rfl rfl ?_
      repeat (first | refine wA0 rfl rfl rfl rfl ?_ | refine AL.nil ?_ | refine AW.seq ?_ | refine AW.region ?_ | refine sA rfl rfl rfl rfl rfl rfl rfl rfl rfl ?_ | refine bA rfl rfl rfl rfl rfl rfl ?_)
      refine AW.condF rfl rfl ?_
      repeat (first | refine wA0 rfl rfl rfl rfl ?_ | refine AL.nil ?_ | refine AW.seq ?_ | refine AW.region ?_ | refine AW.skip ?_ | refine sA rfl rfl rfl rfl rfl rfl rfl rfl rfl ?_ | refine bA rfl rfl rfl rfl rfl rfl ?_)
      refine AL.call0 rfl rfl rfl (hb17) rfl rfl rfl ?_
      repeat (first | refine wA0 rfl rfl rfl rfl ?_ | refine wA1 rfl rfl rfl rfl rfl ?_ | refine AL.nil ?_ | refine AW.seq ?_ | refine AW.region ?_ | refine sA rfl rfl rfl rfl rfl rfl rfl rfl rfl ?_ | refine bA rfl rfl rfl rfl rfl rfl ?_)
      refine kA1 rfl rfl rfl rfl (fun hγ => f21 l l hllen hl.t) rfl rfl rfl ?_
      repeat (first | refine wA0 rfl rfl rfl rfl ?_ | refine wA1 rfl rfl rfl rfl rfl ?_ | refine AL.nil ?_)
      refine AW.condF rfl ?_ ?_
      · show (bif (0 : Int) != 0 then true else !sameS l l) = false
        rw [sameS_refl]; rfl
      repeat (first | refine wA0 rfl rfl rfl rfl ?_ | refine AW.seq ?_ | refine AW.region ?_ | refine AW.skip ?_)
      have hxl := conv_len (l := l) (c := c) (n := n) (row := row)
      cases hx : convX l c n row with
      | mk x g =>
        rw [hx] at h19 hxl
        refine AL.call0 rfl rfl rfl (h19) rfl rfl rfl ?_
        repeat (first | refine wA0 rfl rfl rfl rfl ?_ | refine AL.nil ?_ | refine AW.seq ?_ | refine AW.region ?_)
        by_cases hg0 : g = 0
        · subst hg0
          have hb19 := f19X (l.set ti (tabX (l.getD ti default) c)) (dropC c) n x hl' hcd (by simp only at hxl; omega)
          rw [back_row he hk hti htl hnl hx] at hb19
          refine AW.condF rfl rfl ?_
          repeat (first | refine wA0 rfl rfl rfl rfl ?_ | refine AW.seq ?_ | refine AW.region ?_ | refine AW.skip ?_)
          refine AL.call0 rfl rfl rfl (hb19) rfl rfl rfl ?_
          repeat (first | refine wA0 rfl rfl rfl rfl ?_ | refine wA1 rfl rfl rfl rfl rfl ?_ | refine AL.nil ?_ | refine AW.seq ?_ | refine AW.region ?_)
          refine kA1 rfl rfl rfl rfl (fun hγ => f22 row row (by omega)) rfl rfl rfl ?_
          repeat' (first | refine wA0 rfl rfl rfl rfl ?_ | refine AL.nil ?_ | (refine AW.ret ?_; refine ⟨[], _, _, rfl, rfl, ⟨?_, rfl⟩, rfl⟩))
          refine congrArg (fun b => AOut.ret (.d (.lit (.bool b)))) ?_
          show (bif bif true then (0 : Int) == 0 else false then rowsF row row else false) = true
          rw [rowsF_refl]; rfl
        · refine AW.condT rfl ?_ ?_
          · show (g != 0) = true
            simpa using hg0
          repeat' (first | refine wA0 rfl rfl rfl rfl ?_ | refine AL.nil ?_ | refine AW.seq ?_ | refine AW.region ?_ | (refine AW.ret ?_; refine ⟨[], _, _, rfl, rfl, ⟨?_, rfl⟩, rfl⟩))
          rfl
    · have he' : (errX l c != 0) = true := by simpa using he
      rw [applyX_err he] at h17
      refine AL.call0 rfl rfl rfl (h17) rfl rfl rfl ?_
      repeat (first | refine wA0 rfl rfl rfl rfl ?_ | refine AL.nil ?_ | refine AW.seq ?_ | refine AW.region ?_ | refine sA rfl rfl rfl rfl rfl rfl rfl rfl rfl ?_ | refine bA rfl rfl rfl rfl rfl rfl ?_)
      refine AW.condT rfl he' ?_
      repeat' (first | refine wA0 rfl rfl rfl rfl ?_ | refine AL.nil ?_ | refine AW.seq ?_ | refine AW.region ?_ | (refine AW.ret ?_; refine ⟨[], _, _, rfl, rfl, ⟨?_, rfl⟩, rfl⟩))
      rfl
set_option maxHeartbeats 8000000 in
/-- cleanselaw06.SchemaTables. -/
theorem f8 (l : List Tb) (c d : Ch) (raw : Int) (row : List Vl) (hw : WideS l) (hraw : 0 ≤ raw ∧ raw ≤ 255) : AF Tryz.prog 8 [.d (.agg [eTs l]), .d (eC c), .d (eC d), .d (.lit (.int .u8 raw)), .d (eVs row)] [] (fun o p => o = .ret (.d (.lit (.bool true))) ∧ p = []) := by
  refine AF.intro hT Tryz.func8 rfl (by kernel_rfl) (Nat.le_of_ble_eq_true rfl) ?_
  repeat (first | refine wA0 rfl rfl rfl rfl ?_ | refine AL.nil ?_ | refine AW.seq ?_ | refine AW.region ?_ | refine bA rfl rfl rfl rfl rfl rfl ?_)
  refine AL.call0 rfl rfl rfl (f15) rfl rfl rfl ?_
  repeat (first | refine wA0 rfl rfl rfl rfl ?_ | refine AL.nil ?_ | refine AW.seq ?_ | refine AW.region ?_)
  refine AL.call0 rfl rfl rfl (f16r l c row) rfl rfl rfl ?_
  repeat (first | refine wA0 rfl rfl rfl rfl ?_ | refine wA1 rfl rfl rfl rfl rfl ?_)
  refine kA1 rfl rfl rfl rfl (fun hγ => f16r l d row) rfl rfl rfl ?_
  repeat (first | refine wA0 rfl rfl rfl rfl ?_ | refine wA1 rfl rfl rfl rfl rfl ?_ | refine AL.nil ?_)
  refine AW.cond rfl (fun h0 => ?_) (fun h0 => ?_)
  · repeat' (first | refine wA0 rfl rfl rfl rfl ?_ | refine AL.nil ?_ | refine AW.seq ?_ | refine AW.region ?_ | (refine AW.ret ?_; refine ⟨[], _, _, rfl, rfl, ⟨?_, rfl⟩, rfl⟩))
    rfl
  · have h0' : (bif bif bif !smallF l c row.length then true else !smallF l d row.length then true else eqS c.table d.table then true else (l.length : Int) == 0) = false := h0
    have hsF : smallF l c row.length = true := by
      cases h : smallF l c row.length with
      | true => rfl
      | false => rw [h] at h0'; cases h0'
    rw [hsF] at h0'
    have hsD : smallF l d row.length = true := by
      cases h : smallF l d row.length with
      | true => rfl
      | false => rw [h] at h0'; cases h0'
    rw [hsD] at h0'
    have hne : eqS c.table d.table = false := by
      cases h : eqS c.table d.table with
      | true => rw [h] at h0'; cases h0'
      | false => rfl
    have hl0 : l.length ≠ 0 := by
      intro e
      rw [hne, e] at h0'
      cases h0'
    obtain ⟨hS, hcn, _, hr⟩ := smallF_ok hsF
    obtain ⟨_, hdn, _, _⟩ := smallF_ok hsD
    have hr' : row.length ≤ 20 := by omega
    have big : (1000000 : Nat) ≤ maxLen := by decide
    have hl : OkS l := hS.okS hw
    have hcc : OkC c := ⟨by omega⟩
    have hdd : OkC d := ⟨by omega⟩
    have hllen := hl.len
    have hz : (l.length : Int) ≠ 0 := by omega
    obtain ⟨n, hn, hnl⟩ := raw_mod hraw.1 hraw.2 hl0
    have h17 := f17X l c hl hcc hS.okB
    have k17 := f17X l d hl hdd hS.okB
    have h19 := f19X l c n row hl hcc (by omega)
    have k19 := f19X l d n row hl hdd (by omega)
    repeat (first | refine wA0 rfl rfl rfl rfl ?_ | refine AL.nil ?_ | refine AW.seq ?_ | refine AW.region ?_ | refine AW.skip ?_)
    rw [hn]
    skip
    by_cases he : errX l c = 0 ∧ errX l d = 0
    · obtain ⟨he, hf⟩ := he
      obtain ⟨g1, g2, ⟨ti, hti, htl, ht⟩, g4⟩ := errX_zero he
      have hg := Chg.of g1 g4
      rw [ht] at hg
      obtain ⟨q1, q2, ⟨tj, htj, htm, hu⟩, q4⟩ := errX_zero hf
      have hq := Chg.of q1 q4
      rw [hu] at hq
      have hnt := two_tables hti htj hne
      have hnt' : tj ≠ ti := fun e => hnt e.symm
      rw [applyX_ok he hti] at h17
      rw [applyX_ok hf htj] at k17
      have hla : OkS (l.set ti (tabX (l.getD ti default) c)) := hl.set hS g2 htl hg
      have hlb : OkS (l.set tj (tabX (l.getD tj default) d)) := hl.set hS g2 htm hq
      have x17 := f17X (l.set ti (tabX (l.getD ti default) c)) d hla hdd (OkB.set hS g2 htl hg)
      have y17 := f17X (l.set tj (tabX (l.getD tj default) d)) c hlb hcc (OkB.set hS g2 htm hq)
      rw [two_apply he hf hti htj htl hnt] at x17
      rw [two_apply hf he htj hti htm hnt', List.set_comm _ _ hnt'] at y17
      have hsame : ∀ t, t ∈ (l.set ti (tabX (l.getD ti default) c)).set tj (tabX (l.getD tj default) d) → OkT t := by
        intro t ht
        rcases List.mem_or_eq_of_mem_set ht with ht | rfl
        · exact hla.t t ht
        · exact hlb.t _ (List.mem_set (l := l) htm _)
      refine AL.call0 rfl rfl rfl (h17) rfl rfl rfl ?_
      repeat (first | refine wA0 rfl rfl rfl rfl ?_ | refine AL.nil ?_ | refine AW.seq ?_ | refine AW.region ?_ | refine sA rfl rfl rfl rfl rfl rfl rfl rfl rfl ?_ | refine bA rfl rfl rfl rfl rfl rfl ?_)
      refine AL.call0 rfl rfl rfl (k17) rfl rfl rfl ?_
      repeat (first | refine wA0 rfl rfl rfl rfl ?_ | refine wA1 rfl rfl rfl rfl rfl ?_ | refine AL.nil ?_ | refine AW.seq ?_ | refine AW.region ?_ | refine sA rfl rfl rfl rfl rfl rfl rfl rfl rfl ?_ | refine bA rfl rfl rfl rfl rfl rfl ?_)
      refine AW.condF rfl rfl ?_
      repeat (first | refine wA0 rfl rfl rfl rfl ?_ | refine AW.seq ?_ | refine AW.region ?_ | refine AW.skip ?_)
      refine AL.call0 rfl rfl rfl (x17) rfl rfl rfl ?_
      repeat (first | refine wA0 rfl rfl rfl rfl ?_ | refine AL.nil ?_ | refine AW.seq ?_ | refine AW.region ?_ | refine sA rfl rfl rfl rfl rfl rfl rfl rfl rfl ?_ | refine bA rfl rfl rfl rfl rfl rfl ?_)
      refine AL.call0 rfl rfl rfl (y17) rfl rfl rfl ?_
      repeat (first | refine wA0 rfl rfl rfl rfl ?_ | refine wA1 rfl rfl rfl rfl rfl ?_ | refine AL.nil ?_ | refine AW.seq ?_ | refine AW.region ?_ | refine sA rfl rfl rfl rfl rfl rfl rfl rfl rfl ?_ | refine bA rfl rfl rfl rfl rfl rfl ?_)
      refine kA1 rfl rfl rfl rfl (fun hγ => f21 ((l.set ti (tabX (l.getD ti default) c)).set tj (tabX (l.getD tj default) d)) ((l.set ti (tabX (l.getD ti default) c)).set tj (tabX (l.getD tj default) d)) (by simp only [List.length_set] ; omega) hsame) rfl rfl rfl ?_
      repeat (first | refine wA0 rfl rfl rfl rfl ?_ | refine wA1 rfl rfl rfl rfl rfl ?_ | refine AL.nil ?_)
      refine AW.condF rfl ?_ ?_
      · show (bif bif (0 : Int) != 0 then true else (0 : Int) != 0 then true else !sameS ((l.set ti (tabX (l.getD ti default) c)).set tj (tabX (l.getD tj default) d)) ((l.set ti (tabX (l.getD ti default) c)).set tj (tabX (l.getD tj default) d))) = false
        rw [sameS_refl]; rfl
      repeat (first | refine wA0 rfl rfl rfl rfl ?_ | refine AW.seq ?_ | refine AW.region ?_ | refine AW.skip ?_)
      have hxl := conv_len (l := l) (c := c) (n := n) (row := row)
      have hyl := conv_len (l := l) (c := d) (n := n) (row := row)
      cases hx : convX l c n row with
      | mk p i =>
      cases hy : convX l d n row with
      | mk q j =>
        rw [hx] at h19 hxl
        rw [hy] at k19 hyl
        refine AL.call0 rfl rfl rfl (h19) rfl rfl rfl ?_
        repeat (first | refine wA0 rfl rfl rfl rfl ?_ | refine AL.nil ?_ | refine AW.seq ?_ | refine AW.region ?_)
        refine AL.call0 rfl rfl rfl (k19) rfl rfl rfl ?_
        repeat (first | refine wA0 rfl rfl rfl rfl ?_ | refine wA1 rfl rfl rfl rfl rfl ?_ | refine AL.nil ?_ | refine AW.seq ?_ | refine AW.region ?_)
        by_cases hij : i = 0 ∧ j = 0
        · obtain ⟨rfl, rfl⟩ := hij
          obtain ⟨r, r1, r2⟩ := two_rows he hf hti htj htl htm hnt hnl hx hy
          have hrl := conv_len (l := l.set ti (tabX (l.getD ti default) c)) (c := d) (n := n) (row := p)
          rw [r1] at hrl
          have x19 := f19X (l.set ti (tabX (l.getD ti default) c)) d n p hla hdd (by simp only at hxl; omega)
          have y19 := f19X (l.set tj (tabX (l.getD tj default) d)) c n q hlb hcc (by simp only at hyl; omega)
          rw [r1] at x19
          rw [r2] at y19
          refine AW.condF rfl rfl ?_
          repeat (first | refine wA0 rfl rfl rfl rfl ?_ | refine AW.seq ?_ | refine AW.region ?_ | refine AW.skip ?_)
          refine AL.call0 rfl rfl rfl (x19) rfl rfl rfl ?_
          repeat (first | refine wA0 rfl rfl rfl rfl ?_ | refine AL.nil ?_ | refine AW.seq ?_ | refine AW.region ?_)
          refine AL.call0 rfl rfl rfl (y19) rfl rfl rfl ?_
          repeat (first | refine wA0 rfl rfl rfl rfl ?_ | refine wA1 rfl rfl rfl rfl rfl ?_ | refine AL.nil ?_ | refine AW.seq ?_ | refine AW.region ?_)
          refine kA1 rfl rfl rfl rfl (fun hγ => f22 r r (by simp only at hxl hrl; omega)) rfl rfl rfl ?_
          repeat' (first | refine wA0 rfl rfl rfl rfl ?_ | refine AL.nil ?_ | (refine AW.ret ?_; refine ⟨[], _, _, rfl, rfl, ⟨?_, rfl⟩, rfl⟩))
          refine congrArg (fun b => AOut.ret (.d (.lit (.bool b)))) ?_
          show (bif bif bif true then (0 : Int) == 0 else false then (0 : Int) == 0 else false then rowsF r r else false) = true
          rw [rowsF_refl]; rfl
        · refine AW.condT rfl ?_ ?_
          · show (bif i != 0 then true else j != 0) = true
            by_cases hi : i = 0
            · have hj : j ≠ 0 := fun e => hij ⟨hi, e⟩
              rw [hi]
              simpa using hj
            · have : (i != 0) = true := by simpa using hi
              rw [this]; rfl
          repeat' (first | refine wA0 rfl rfl rfl rfl ?_ | refine AL.nil ?_ | refine AW.seq ?_ | refine AW.region ?_ | (refine AW.ret ?_; refine ⟨[], _, _, rfl, rfl, ⟨?_, rfl⟩, rfl⟩))
          rfl
    · cases h1 : applyX l c with
      | mk a e =>
      cases h2 : applyX l d with
      | mk b f =>
        rw [h1] at h17
        rw [h2] at k17
        refine AL.call0 rfl rfl rfl (h17) rfl rfl rfl ?_
        repeat (first | refine wA0 rfl rfl rfl rfl ?_ | refine AL.nil ?_ | refine AW.seq ?_ | refine AW.region ?_ | refine sA rfl rfl rfl rfl rfl rfl rfl rfl rfl ?_ | refine bA rfl rfl rfl rfl rfl rfl ?_)
        refine AL.call0 rfl rfl rfl (k17) rfl rfl rfl ?_
        repeat (first | refine wA0 rfl rfl rfl rfl ?_ | refine wA1 rfl rfl rfl rfl rfl ?_ | refine AL.nil ?_ | refine AW.seq ?_ | refine AW.region ?_ | refine sA rfl rfl rfl rfl rfl rfl rfl rfl rfl ?_ | refine bA rfl rfl rfl rfl rfl rfl ?_)
        refine AW.condT rfl ?_ ?_
        · show (bif e != 0 then true else f != 0) = true
          by_cases hc0 : errX l c = 0
          · have hd0 : errX l d ≠ 0 := fun h => he ⟨hc0, h⟩
            rw [applyX_err hd0] at h2
            have : f = errX l d := (congrArg Prod.snd h2).symm
            rw [this]
            have : (errX l d != 0) = true := by simpa using hd0
            rw [this]
            cases e != 0 <;> rfl
          · rw [applyX_err hc0] at h1
            have : e = errX l c := (congrArg Prod.snd h1).symm
            rw [this]
            have : (errX l c != 0) = true := by simpa using hc0
            rw [this]
            rfl
        repeat' (first | refine wA0 rfl rfl rfl rfl ?_ | refine AL.nil ?_ | refine AW.seq ?_ | refine AW.region ?_ | (refine AW.ret ?_; refine ⟨[], _, _, rfl, rfl, ⟨?_, rfl⟩, rfl⟩))
        rfl
end Go.Pv
