/- peatbankref05.Right, Expand: the document's answer is the plain one too. -/
import Derived.Test.YtpjjiighojkagaaExpand
set_option linter.unusedVariables false
set_option linter.unusedSimpArgs false
namespace Go.Proofs.Ytpjjiighojkagaa
open Go.RowKit Go.Proofs.YtpjjiighojkagaaW.PrintWords

def isRight (p : Pie) : Bool := if p.len = 0 then decide (p.dist = 0) else decide (p.b = 0 ∧ 3 ≤ p.len ∧ p.len ≤ 258 ∧ 1 ≤ p.dist ∧ p.dist ≤ 32768)

set_option maxHeartbeats 1000000 in
set_option maxRecDepth 100000 in
theorem right_any (p : Pie) (W : World) : Calls Try.prog 27 #[.agg #[.int .u8 p.b, .int .i64 p.len, .int .i64 p.dist]] W fun e W' => e = .returned (.bool (isRight p)) ∧ W' = W.alloc (.cells #[.int .u8 p.b, .int .i64 p.len, .int .i64 p.dist] 35) := by
  by_cases h0 : p.len = 0
  · have t0 : (p.len == 0) = true := by rw [h0]; rfl
    have e : isRight p = (p.dist == 0) := by unfold isRight; rw [if_pos h0]; rw [Bool.eq_iff_iff]; simp
    rw [e]
    clear e h0
    go_enter Try.func27, Try.ntmps27
    go_wp2
    go_ret
    exact ⟨rfl, rfl⟩
  · have t0 : (p.len == 0) = false := beq_eq_false_iff_ne.2 h0
    have e : isRight p = ((p.b == 0) && (decide (3 ≤ p.len) && (decide (p.len ≤ 258) && (decide (1 ≤ p.dist) && decide (p.dist ≤ 32768))))) := by unfold isRight; rw [if_neg h0]; rw [Bool.eq_iff_iff]; simp
    rw [e]
    have HE := Lib.hid h0
    clear e h0
    by_cases h1 : p.b = 0
    · have t1 : (p.b == 0) = true := by rw [h1]; rfl
      have H1 := Lib.hid h1
      clear h1
      by_cases h2 : 3 ≤ p.len
      · have t2 : decide (3 ≤ p.len) = true := decide_eq_true h2
        have H2 := Lib.hid h2
        clear h2
        by_cases h3 : p.len ≤ 258
        · have t3 : decide (p.len ≤ 258) = true := decide_eq_true h3
          have H3 := Lib.hid h3
          clear h3
          by_cases h4 : 1 ≤ p.dist
          · have t4 : decide (1 ≤ p.dist) = true := decide_eq_true h4
            have H4 := Lib.hid h4
            clear h4
            obtain ⟨q, hq⟩ : ∃ q, q = decide (p.dist ≤ 32768) := ⟨_, rfl⟩
            rw [t1, t2, t3, t4]
            simp only [Bool.true_and]
            clear hq
            go_enter Try.func27, Try.ntmps27
            go_wp2
            go_ret
            exact ⟨rfl, rfl⟩
          · have t4 : decide (1 ≤ p.dist) = false := decide_eq_false h4
            have H4 := Lib.hid h4
            clear h4
            rw [t1, t2, t3, t4]
            simp only [Bool.true_and, Bool.false_and]
            go_enter Try.func27, Try.ntmps27
            go_wp2
            go_ret
            exact ⟨rfl, rfl⟩
        · have t3 : decide (p.len ≤ 258) = false := decide_eq_false h3
          have H3 := Lib.hid h3
          clear h3
          rw [t1, t2, t3]
          simp only [Bool.true_and, Bool.false_and]
          go_enter Try.func27, Try.ntmps27
          go_wp2
          go_ret
          exact ⟨rfl, rfl⟩
      · have t2 : decide (3 ≤ p.len) = false := decide_eq_false h2
        have H2 := Lib.hid h2
        clear h2
        rw [t1, t2]
        simp only [Bool.true_and, Bool.false_and]
        go_enter Try.func27, Try.ntmps27
        go_wp2
        go_ret
        exact ⟨rfl, rfl⟩
    · have t1 : (p.b == 0) = false := beq_eq_false_iff_ne.2 h1
      have H1 := Lib.hid h1
      clear h1
      rw [t1]
      simp only [Bool.false_and]
      go_enter Try.func27, Try.ntmps27
      go_wp2
      go_ret
      exact ⟨rfl, rfl⟩

theorem expStep_bad {out : List Int} {p : Pie} (h : isRight p = false ∨ (out.length : Int) < p.dist) : expStep out p = none := by
  unfold expStep
  rw [if_neg]
  intro hh
  simp only [isLit, isMat, Bool.or_eq_true, decide_eq_true_eq] at hh
  rcases h with h | h
  · unfold isRight at h
    split at h
    · rename_i h0
      rcases hh with hh | hh
      · rw [decide_eq_false_iff_not] at h
        exact h hh.2
      · omega
    · rename_i h0
      rcases hh with hh | hh
      · exact h0 hh.1
      · rw [decide_eq_false_iff_not] at h
        exact h ⟨hh.1, hh.2.1, hh.2.2.1, hh.2.2.2.1, hh.2.2.2.2.1⟩
  · rcases hh with hh | hh
    · omega
    · omega
theorem expOne_length {out : List Int} {p : Pie} (h : isRight p = true) : ((expOne out p).length : Int) = (out.length : Int) + (if p.len < 1 then 1 else p.len) := by
  unfold isRight at h
  unfold expOne isLit
  split at h
  · rename_i h0
    have h1 := of_decide_eq_true h
    rw [if_pos (by simp [h0, h1]), if_pos (by omega)]
    simp
  · rename_i h0
    have h1 := of_decide_eq_true h
    rw [if_neg (by simp [h0]), copyN_length, if_neg (by omega)]
    omega

set_option maxHeartbeats 2000000 in
set_option maxRecDepth 100000 in
theorem refExpand_any (v : Value) (ps : List Pie) (W : World) (h : RdsQ W v ps) :
    Calls Try.prog 11 #[v] W (ExpPost W.heap.size W (expFold [] ps)) := by
  obtain ⟨i0, hi, hz0, hz1, hz2⟩ := info_parts Try.infoB
  obtain ⟨B, hB⟩ : ∃ B, B = W.heap.size := ⟨_, rfl⟩
  rw [← hB]
  have HBW := Lib.hid hB
  clear hB
  have hl0 := h
  obtain ⟨A, c, rfl, hc1, hc2, hc3, hok, _⟩ := h
  have hcl : ps.length ≤ 9223372036854775807 := by omega
  have HRD := Lib.hid hl0
  clear hl0 hc1 hc2 hc3 hok
  obtain ⟨R, hR⟩ : ∃ R, expFold [] ps = R := ⟨_, rfl⟩
  rw [hR]
  have HR := Lib.hid hR
  clear hR
  go_enter Try.func11, Try.ntmps11
  go_wp2_with fail
  go_loopg [4, 5] ps.length (fun gk v4 v5 wr => ExpRel W B ps R gk v4 v5 wr)
  case atStart => exact ⟨0, [], by simp [Hid], rfl, HR.out, by simp, World.ownsRow_nil _ _ _ _, by rw [HBW.out]; exact Below.refl _ _, by rw [HBW.out]; exact Nat.le_refl _⟩
  case round =>
    obtain ⟨k, out, HG, rfl, HX, ho65, ho, bb, ss⟩ := hrel
    by_cases hlt : k < ps.length
    · obtain ⟨bl, ol, rfl, hblt, hcells⟩ := (HRD.out.below (by rw [← HBW.out]; exact bb)).old (by omega)
      obtain ⟨q0, q1, q2⟩ := hcells k hlt
      clear hcells
      have t0 : (k : Int) < (ps.length : Int) := by omega
      have HD := Lib.hid (expFold_drop (out := out) hlt)
      obtain ⟨p, hp⟩ : ∃ p, p = ps[k] := ⟨_, rfl⟩
      have hpk := (by obtain ⟨_, _, _, _, _, _, hok, _⟩ := HRD.out; exact hok ps[k] (List.getElem_mem hlt) : (ps[k]).ok)
      rw [← hp] at q0 q1 q2 HD hpk
      have HP := Lib.hid hp
      clear hp
      obtain ⟨A4, c4, rfl⟩ := own_slice ho
      obtain ⟨⟨pb0, pb1⟩, ⟨pl0, pl1⟩, pd0, pd1⟩ := hpk
      obtain ⟨gp, hgpe⟩ : ∃ gp, gp = wr.heap.size := ⟨_, rfl⟩
      have HGP := Lib.hid hgpe
      go_upto_region 6 with fail
      rw [← hgpe]
      clear hgpe
      generalize hw1 : wr.alloc (.cells #[.int .u8 p.b, .int .i64 p.len, .int .i64 p.dist] 35) = w1
      have hgp : w1.heap[gp]? = some (.cells #[.int .u8 p.b, .int .i64 p.len, .int .i64 p.dist] 35 (0, 0)) := by rw [HGP.out, ← hw1]; exact heap_alloc_new wr _
      have bb1 : Below B W w1 := by rw [← hw1]; exact bb.alloc ss _
      have ss1 : B ≤ w1.heap.size := by rw [← hw1]; simp; omega
      have ho1 : w1.ownsRow B 5 1 (.slice A4 out.length c4) out.length (out.map (Value.int .u8)) := by rw [← hw1]; exact ho.alloc _
      have g0 : w1.cell? ⟨gp, 0, none⟩ = some (.int .u8 p.b) := (blk_cell hgp 0).trans rfl
      have g1 : w1.cell? ⟨gp, 1, none⟩ = some (.int .i64 p.len) := (blk_cell hgp 1).trans rfl
      have g2 : w1.cell? ⟨gp, 2, none⟩ = some (.int .i64 p.dist) := (blk_cell hgp 2).trans rfl
      have HGB := Lib.hid hgp
      clear hw1 hgp bb ss ho q0 q1 q2
      go_wp2_with fail
      refine (right_any p w1).mono ?_
      rintro e w2 ⟨rfl, hw2⟩
      have hgp2 : w2.heap[gp]? = some (.cells #[.int .u8 p.b, .int .i64 p.len, .int .i64 p.dist] 35 (0, 0)) := by rw [hw2]; exact blk_alloc HGB.out _
      have bb2 : Below B W w2 := by rw [hw2]; exact bb1.alloc ss1 _
      have ss2 : B ≤ w2.heap.size := by rw [hw2]; simp; omega
      have ho2 : w2.ownsRow B 5 1 (.slice A4 out.length c4) out.length (out.map (Value.int .u8)) := by rw [hw2]; exact ho1.alloc _
      clear hw2 g0 g1 g2 bb1 ss1 ho1
      have g0 : w2.cell? ⟨gp, 0, none⟩ = some (.int .u8 p.b) := (blk_cell hgp2 0).trans rfl
      have g1 : w2.cell? ⟨gp, 1, none⟩ = some (.int .i64 p.len) := (blk_cell hgp2 1).trans rfl
      have g2 : w2.cell? ⟨gp, 2, none⟩ = some (.int .i64 p.dist) := (blk_cell hgp2 2).trans rfl
      have HG2 := Lib.hid hgp2
      have HO2 := Lib.hid ho2
      clear hgp2 ho2
      cases hrt : isRight p with
      | false =>
        have hRn : R = none := by
          rw [← HX.out, HD.out, expStep_bad (.inl hrt)]
          rfl
        have HRN := Lib.hid hRn
        clear hRn hrt
        go_wp2
        go_ret2
        exact ⟨.slice none 0 0, by rw [HRN.out]; rfl, by rw [HRN.out]; exact World.ownsRow_nil _ _ _ _, bb2⟩
      | true =>
        by_cases hds : (out.length : Int) < p.dist
        · have d1 : decide ((out.length : Int) < p.dist) = true := decide_eq_true hds
          have hRn : R = none := by
            rw [← HX.out, HD.out, expStep_bad (.inr hds)]
            rfl
          have HRN := Lib.hid hRn
          clear hRn hrt hds
          go_wp2
          go_ret2
          exact ⟨.slice none 0 0, by rw [HRN.out]; rfl, by rw [HRN.out]; exact World.ownsRow_nil _ _ _ _, bb2⟩
        · have d1 : decide ((out.length : Int) < p.dist) = false := decide_eq_false hds
          have hel := expOne_length (out := out) hrt
          by_cases hbig : 65536 < (expOne out p).length
          · have hRn : R = none := by
              rw [← HX.out, HD.out]
              unfold expStep
              split
              · first | (rw [if_pos hbig]; rfl) | rfl
              · rfl
            have HRN := Lib.hid hRn
            by_cases hz : p.len < 1
            · rw [if_pos hz] at hel
              have o1 : (out.length : Int) + 1 ≤ 65537 := by omega
              have d2 : decide ((65536 : Int) < (out.length : Int) + 1) = true := decide_eq_true (by omega)
              clear hRn hrt hds hel hbig
              go_wp2
              go_ret2
              exact ⟨.slice none 0 0, by rw [HRN.out]; rfl, by rw [HRN.out]; exact World.ownsRow_nil _ _ _ _, bb2⟩
            · rw [if_neg hz] at hel
              have hl258 : p.len ≤ 258 := by
                unfold isRight at hrt
                rw [if_neg (by omega)] at hrt
                exact (of_decide_eq_true hrt).2.2.1
              have o1 : (out.length : Int) + p.len ≤ 70000 := by omega
              have o2 : (0 : Int) ≤ (out.length : Int) + p.len := by omega
              have d2 : decide ((65536 : Int) < (out.length : Int) + p.len) = true := decide_eq_true (by omega)
              clear hRn hrt hds hel hbig
              go_wp2
              go_ret2
              exact ⟨.slice none 0 0, by rw [HRN.out]; rfl, by rw [HRN.out]; exact World.ownsRow_nil _ _ _ _, bb2⟩
          · have hRs : expFold (expOne out p) (ps.drop (k + 1)) = R := by
              rw [← HX.out, HD.out]
              have hok : (isLit p || isMat p out.length) = true := by
                unfold isRight at hrt
                split at hrt
                · rename_i h0
                  have := of_decide_eq_true hrt
                  simp [isLit, h0, this]
                · have h1 := of_decide_eq_true hrt
                  have : isMat p out.length = true := by simp only [isMat, decide_eq_true_eq]; exact ⟨h1.1, h1.2.1, h1.2.2.1, h1.2.2.2.1, h1.2.2.2.2, by omega⟩
                  simp [this]
              unfold expStep
              rw [if_pos hok, if_neg hbig]
              rfl
            have HRS := Lib.hid hRs
            have HBIG := Lib.hid (show (expOne out p).length ≤ 65536 by omega)
            by_cases hz : p.len < 1
            · rw [if_pos hz] at hel
              have hz0' : p.len = 0 := by
                unfold isRight at hrt
                split at hrt
                · assumption
                · have := of_decide_eq_true hrt; omega
              have hz00 : p.dist = 0 := by
                unfold isRight at hrt
                rw [if_pos hz0'] at hrt
                exact of_decide_eq_true hrt
              obtain ⟨S, hS⟩ : ∃ S, S = out ++ [p.b] := ⟨_, rfl⟩
              have HS : Hid (expOne out p = copyN S p.dist.toNat p.len.toNat) := by
                simp only [Hid, expOne]
                rw [if_pos (by simp [isLit, hz0', hz00]), hz0', hS]
                rfl
              have HSS := Lib.hid hS
              have o1 : (out.length : Int) + 1 ≤ 65536 := by omega
              have d2 : decide ((65536 : Int) < (out.length : Int) + 1) = false := decide_eq_false (by omega)
              have e0 : (p.len == 0) = true := by rw [hz0']; rfl
              have HZ0 := Lib.hid hz0'
              have HM : Hid (0 < p.len.toNat → 1 ≤ p.dist ∧ p.dist ≤ (S.length : Int) ∧ p.len ≤ 258) := fun h => by rw [HZ0.out] at h; simp at h
              have hSle : S.length ≤ 65537 := by rw [hS]; simp; omega
              clear hRs hrt hds hel hbig hS hz0' hz00
              go_wp2_with (at_builtin; refine wpList_append_own_at _ rfl _ _ 25 rfl B 5 i0 (.int .u8 0) 1 1 Try.underlying25 hi hz0 hz1 hz2 rfl (by decide) (.slice A4 out.length c4) out.length (out.map (Value.int .u8)) rfl (HO2.out.alloc _) ⟨w2.heap.size, 0, none⟩ 1 1 [.int .u8 p.b] rfl rfl (cell_one_new _ _ _) (by simp [Value.oneCell']) (by simp only [maxLen]; omega) (by omega) (by simp; omega) ?_)
              intro v3 w3 ho3' hg3 _ _
              have f3 : Fr (fun k => (Value.slice A4 out.length c4).ownBlock = some k) w2 w3 := Fr.grown (Fr.alloc (Fr.refl _ w2) _) hg3 (fun k hk => Or.inl hk)
              have HG3 := Lib.hid (f3.heap HG2.out (fun hk => own_ne_blk HO2.out HG2.out (by decide) hk))
              have bb3 : Below B W w3 := Fr.then_below bb2 f3 ss2 (fun k hk => own_base HO2.out k hk)
              have ss3 : B ≤ w3.heap.size := Nat.le_trans ss2 f3.size
              have ho3 : w3.ownsRow B 5 1 v3 (copyN S p.dist.toNat 0).length ((copyN S p.dist.toNat 0).map (Value.int .u8)) := by
                show w3.ownsRow B 5 1 v3 S.length (S.map (Value.int .u8))
                rw [HSS.out]
                simpa using ho3'
              clear ho3' hg3 f3 g0 g1 g2 bb2 ss2
              obtain ⟨gK, rfl⟩ : ∃ gK : Nat, gK = gk := ⟨_, rfl⟩
              obtain ⟨wo, rfl⟩ : ∃ wo : World, wo = wr := ⟨_, rfl⟩
              go_wp2_with fail
              have hk1 : w3.cell? ⟨gp, 1, none⟩ = some (.int .i64 p.len) := (blk_cell HG3.out 1).trans rfl
              clear hk1
              go_loopg [4, 7] p.len.toNat (fun gj v4 v7 w3 => ∃ (j : Nat), Hid (gj + j = p.len.toNat) ∧ v7 = .int .i64 (j : Int) ∧ w3.ownsRow B 5 1 v4 (copyN S p.dist.toNat j).length ((copyN S p.dist.toNat j).map (Value.int .u8)) ∧ Below B W w3 ∧ B ≤ w3.heap.size ∧ w3.heap[gp]? = some (.cells #[.int .u8 p.b, .int .i64 p.len, .int .i64 p.dist] 35 (0, 0)))
              case atStart => exact ⟨0, by simp [Hid], rfl, ho3, bb3, ss3, HG3.out⟩
              case round =>
                clear HG3 bb3 ss3 ho3
                obtain ⟨j, HJ, rfl, ho3, bb3, ss3, hbp3⟩ := hrel
                have hclen := copyN_length S p.dist.toNat j
                have k1 : wr.cell? ⟨gp, 1, none⟩ = some (.int .i64 p.len) := (blk_cell hbp3 1).trans rfl
                have k2 : wr.cell? ⟨gp, 2, none⟩ = some (.int .i64 p.dist) := (blk_cell hbp3 2).trans rfl
                have HB3 := Lib.hid hbp3
                clear hbp3
                by_cases hjl : j < p.len.toNat
                · exfalso; have := HZ0.out; omega
                · have hje : j = p.len.toNat := by have := HJ.out; omega
                  have z0 : ¬ (j : Int) < p.len := by omega
                  rw [hje, ← HS.out] at ho3
                  obtain ⟨A3, c3, rfl⟩ := own_slice ho3
                  have t1 : (k : Int) < (ps.length : Int) := by omega
                  clear hz d1 d2 o1 e0 hjl
                  go_wp2
                  go_roundg (gK - 1)
                  case measure => have := HG.out; omega
                  case rel => exact ⟨k + 1, expOne out p, by have := HG.out; simp only [Hid]; omega, by go_num, HRS.out, HBIG.out, ho3, bb3, ss3⟩
            · rw [if_neg hz] at hel
              have hm := hrt
              unfold isRight at hm
              rw [if_neg (by omega)] at hm
              obtain ⟨m0, m1, m2, m3, m4⟩ := of_decide_eq_true hm
              obtain ⟨S, hS⟩ : ∃ S, S = out := ⟨_, rfl⟩
              have HS : Hid (expOne out p = copyN S p.dist.toNat p.len.toNat) := by
                simp only [Hid, expOne]
                rw [if_neg (by simp [isLit]; omega), hS]
              have o1 : (out.length : Int) + p.len ≤ 65536 := by omega
              have o2 : (0 : Int) ≤ (out.length : Int) + p.len := by omega
              have d2 : decide ((65536 : Int) < (out.length : Int) + p.len) = false := decide_eq_false (by omega)
              have e0 : (p.len == 0) = false := by rw [beq_eq_false_iff_ne]; omega
              have HM : Hid (0 < p.len.toNat → 1 ≤ p.dist ∧ p.dist ≤ (S.length : Int) ∧ p.len ≤ 258) := fun _ => ⟨m3, by rw [hS]; omega, m2⟩
              have hSle : S.length ≤ 65537 := by rw [hS]; omega
              have HG3 := HG2
              have bb3 := bb2
              have ss3 := ss2
              have ho3 : w2.ownsRow B 5 1 (.slice A4 out.length c4) (copyN S p.dist.toNat 0).length ((copyN S p.dist.toNat 0).map (Value.int .u8)) := by
                show w2.ownsRow B 5 1 _ S.length (S.map (Value.int .u8))
                rw [hS]
                exact HO2.out
              clear hRs hrt hds hel hbig hS hm m0 m1 m3 m4
              obtain ⟨gK, rfl⟩ : ∃ gK : Nat, gK = gk := ⟨_, rfl⟩
              obtain ⟨wo, rfl⟩ : ∃ wo : World, wo = wr := ⟨_, rfl⟩
              go_wp2_with fail
              clear g0 g1 g2 bb2 ss2
              go_loopg [4, 7] p.len.toNat (fun gj v4 v7 w3 => ∃ (j : Nat), Hid (gj + j = p.len.toNat) ∧ v7 = .int .i64 (j : Int) ∧ w3.ownsRow B 5 1 v4 (copyN S p.dist.toNat j).length ((copyN S p.dist.toNat j).map (Value.int .u8)) ∧ Below B W w3 ∧ B ≤ w3.heap.size ∧ w3.heap[gp]? = some (.cells #[.int .u8 p.b, .int .i64 p.len, .int .i64 p.dist] 35 (0, 0)))
              case atStart => exact ⟨0, by simp [Hid], rfl, ho3, bb3, ss3, HG3.out⟩
              case round =>
                clear HG3 bb3 ss3 ho3
                obtain ⟨j, HJ, rfl, ho3, bb3, ss3, hbp3⟩ := hrel
                have hclen := copyN_length S p.dist.toNat j
                have k1 : wr.cell? ⟨gp, 1, none⟩ = some (.int .i64 p.len) := (blk_cell hbp3 1).trans rfl
                have k2 : wr.cell? ⟨gp, 2, none⟩ = some (.int .i64 p.dist) := (blk_cell hbp3 2).trans rfl
                have HB3 := Lib.hid hbp3
                clear hbp3
                by_cases hjl : j < p.len.toNat
                · obtain ⟨m1, m2, m3⟩ := HM.out (by omega)
                  have z0 : (j : Int) < p.len := by omega
                  obtain ⟨g3, c3, rfl, _, _⟩ := ho3.form (by rw [hclen]; omega)
                  have hd1 : 1 ≤ p.dist := m1
                  have hidx : (copyN S p.dist.toNat j).length - p.dist.toNat < (copyN S p.dist.toNat j).length := by omega
                  have hcc := ho3.cells (g := g3) rfl ((copyN S p.dist.toNat j).length - p.dist.toNat) (.int .u8 ((copyN S p.dist.toNat j).getD ((copyN S p.dist.toNat j).length - p.dist.toNat) 0)) (by rw [List.getElem?_map, List.getElem?_eq_getElem hidx, List.getD_eq_getElem?_getD, List.getElem?_eq_getElem hidx]; rfl)
                  rw [add_plain] at hcc
                  have hsucc : copyN S p.dist.toNat (j + 1) = copyN S p.dist.toNat j ++ [(copyN S p.dist.toNat j).getD ((copyN S p.dist.toNat j).length - p.dist.toNat) 0] := rfl
                  have HSU := Lib.hid hsucc
                  clear hsucc
                  generalize (copyN S p.dist.toNat j).getD ((copyN S p.dist.toNat j).length - p.dist.toNat) 0 = x at *
                  generalize hO : copyN S p.dist.toNat j = O at *
                  have HO := Lib.hid hO
                  clear hO
                  obtain ⟨dn, hdn⟩ : ∃ dn : Nat, p.dist = (dn : Int) := ⟨p.dist.toNat, by omega⟩
                  rw [hdn] at hcc k2 hidx hd1 m2
                  rw [Int.toNat_natCast] at hcc hidx
                  have HDN := Lib.hid hdn
                  clear hdn
                  have y1 : (dn : Int) ≤ (O.length : Int) := by omega
                  have y2 : (O.length : Int) - (dn : Int) < (O.length : Int) := by omega
                  have hOle : O.length ≤ 66000 := by omega
                  have HCL := Lib.hid hclen
                  clear hclen
                  go_wp2_with (at_builtin; refine wpList_append_own_at _ rfl _ _ 25 rfl B 5 i0 (.int .u8 0) 1 1 Try.underlying25 hi hz0 hz1 hz2 rfl (by decide) (.slice (some ⟨g3, 0, none⟩) O.length c3) O.length (O.map (Value.int .u8)) rfl (ho3.alloc _) ⟨wr.heap.size, 0, none⟩ 1 1 [.int .u8 x] rfl rfl (cell_one_new _ _ _) (by simp [Value.oneCell']) (by simp only [maxLen]; omega) (by omega) (by simp; omega) ?_)
                  intro v5 w5 ho5 hg5 _ _
                  have f5 : Fr (fun k => (Value.slice (some ⟨g3, 0, none⟩) O.length c3).ownBlock = some k) wr w5 := Fr.grown (Fr.alloc (Fr.refl _ wr) _) hg5 (fun k hk => Or.inl hk)
                  have hb5 := f5.heap HB3.out (fun hk => own_ne_blk ho3 HB3.out (by decide) hk)
                  have bb5 : Below B W w5 := Fr.then_below bb3 f5 ss3 (fun k hk => own_base ho3 k hk)
                  have ho5' : w5.ownsRow B 5 1 v5 (copyN S p.dist.toNat (j + 1)).length ((copyN S p.dist.toNat (j + 1)).map (Value.int .u8)) := by
                    rw [HSU.out]
                    simpa using ho5
                  clear ho5 hcc k1 k2
                  go_wp2
                  go_roundg (gk - 1)
                  case measure => have := HJ.out; omega
                  case rel => exact ⟨j + 1, by have := HJ.out; simp only [Hid]; omega, by go_num, ho5', bb5, Nat.le_trans ss3 f5.size, hb5⟩
                · have hje : j = p.len.toNat := by have := HJ.out; omega
                  have z0 : ¬ (j : Int) < p.len := by omega
                  rw [hje, ← HS.out] at ho3
                  obtain ⟨A3, c3, rfl⟩ := own_slice ho3
                  have t1 : (k : Int) < (ps.length : Int) := by omega
                  go_wp2
                  go_roundg (gK - 1)
                  case measure => have := HG.out; omega
                  case rel => exact ⟨k + 1, expOne out p, by have := HG.out; simp only [Hid]; omega, by go_num, HRS.out, HBIG.out, ho3, bb3, ss3⟩
    · have hke : k = ps.length := by have := HG.out; omega
      have hRe : R = some out := by rw [← HX.out, hke, List.drop_length]; rfl
      have HRE := Lib.hid hRe
      have tt : ¬ (k : Int) < (ps.length : Int) := by omega
      clear hke hRe hlt
      go_wp2
      go_ret2
      exact ⟨_, by rw [HRE.out]; rfl, by rw [HRE.out]; exact ho, bb⟩

end Go.Proofs.Ytpjjiighojkagaa
