/- The law LzBack: the walk. -/
import Derived.Test.YtpjjiighojkagaaApartP
import Derived.Test.YtpjjiighojkagaaLzExp
set_option linter.unusedVariables false
set_option linter.unusedSimpArgs false
namespace Go.Proofs.Ytpjjiighojkagaa
open Go.RowKit Go.Proofs.YtpjjiighojkagaaW.PrintWords

theorem neqPiece_same (p : Pie) (w : World) : (binOp .neq 35 (.agg #[.int .u8 p.b, .int .i64 p.len, .int .i64 p.dist]) (.agg #[.int .u8 p.b, .int .i64 p.len, .int .i64 p.dist])).run Try.prog w = .ok (.bool false) w := by
  have h := eqPiece 9998 w p.b p.len p.dist p.b p.len p.dist
  simp only [BEq.rfl, Bool.and_self] at h
  simp only [binOp, Op.equal, Sem.run_bind]
  rw [show Op.maxDepth = 9998 + 2 from rfl, h]
  rfl

set_option maxHeartbeats 1000000 in
set_option maxRecDepth 100000 in
theorem samePieces_any (v v' : Value) (ps : List Pie) (W : World) (h : RdsQ W v ps) (h' : RdsQ W v' ps) :
    Calls Try.prog 21 #[v, v'] W fun e W' => e = .returned (.bool true) ∧ ∃ d, W' = W.drewN d := by
  have HA := Lib.hid h
  have HB := Lib.hid h'
  obtain ⟨A, c, rfl, hc, _, hm, _, _⟩ := h
  obtain ⟨A', c', rfl, _, _, _, _, _⟩ := h'
  go_enter Try.func21, Try.ntmps21
  go_wp2
  go_loopw [5] (fun v5 wr => ∃ (j d : Nat), j ≤ ps.length ∧ v5 = .int .i64 (j : Int) ∧ Hid (wr = W.drewN d)) (fun v5 _ => ps.length - (intOf v5).toNat)
  case atStart => exact ⟨0, 0, Nat.zero_le _, rfl, rfl⟩
  case round =>
    obtain ⟨j, d, hj, rfl, HW⟩ := hrel
    by_cases hlt : j < ps.length
    · obtain ⟨b1, o1, e1, _, hq1⟩ := HA.out.old (by omega)
      obtain ⟨b2, o2, e2, _, hq2⟩ := HB.out.old (by omega)
      subst e1
      subst e2
      obtain ⟨a0, a1, a2⟩ := hq1 j hlt
      obtain ⟨c0, c1, c2⟩ := hq2 j hlt
      replace a0 := cell_dr HW a0
      replace a1 := cell_dr HW a1
      replace a2 := cell_dr HW a2
      replace c0 := cell_dr HW c0
      replace c1 := cell_dr HW c1
      replace c2 := cell_dr HW c2
      have heq := fun w : World => neqPiece_same ps[j] w
      generalize ps[j] = p at *
      have t0 : (0 : Int) ≤ (j : Int) := by omega
      have t1 : (j : Int) < (ps.length : Int) := by omega
      clear hq1 hq2
      go_wp2
      go_quiet (fail)
      go_wp2
      go_roundw
      case rel => exact ⟨j + 1, d + nq, by omega, by go_num, by simp only [Hid]; rw [HW.out, World.drewN_drewN]⟩
      case measure => simp [intOf]; omega
    · go_wp2
      go_ret
      exact ⟨rfl, d, HW.out⟩

/-- The place behind so many pieces. -/
def psum (l : List Pie) : Nat := (l.map adv).sum
theorem psum_snoc (l : List Pie) (p : Pie) : psum (l ++ [p]) = psum l + adv p := by simp [psum]
theorem PS.sum {bs : List Int} {out : List Pie} {p : Nat} (h : PS bs out p) : p = psum out := by
  induction h with
  | nil => rfl
  | snoc h _ _ _ ih => rw [psum_snoc, ← ih]
theorem PS.at_ {bs : List Int} {out : List Pie} {p : Nat} (h : PS bs out p) : ∀ i (hi : i < out.length), psum (out.take i) < bs.length ∧ StepOK bs (psum (out.take i)) out[i] := by
  induction h with
  | nil => intro i hi; simp at hi
  | @snoc out p pc h hp hs hn ih =>
    intro i hi
    rw [List.length_append, List.length_singleton] at hi
    by_cases hlt : i < out.length
    · obtain ⟨h1, h2⟩ := ih i hlt
      rw [List.take_append_of_le_length (by omega), List.getElem_append_left hlt]
      exact ⟨h1, h2⟩
    · obtain rfl : i = out.length := by omega
      rw [List.take_left' rfl, ← h.sum, List.getElem_append_right (Nat.le_refl _)]
      simpa using ⟨hp, hs⟩
theorem psum_succ {out : List Pie} {i : Nat} (h : i < out.length) : psum (out.take (i + 1)) = psum (out.take i) + adv out[i] := by
  rw [List.take_succ_eq_append_getElem h, psum_snoc]

theorem flatP_two {w : World} {B n1 n2 : Nat} {v1 v2 : Value} {x1 x2 : List Value} (h1 : w.ownsRow B 35 3 v1 n1 x1) (h2 : w.ownsRow B 35 3 v2 n2 x2) (hne : ∀ b, v1.ownBlock = some b → v2.ownBlock ≠ some b) :
    FlatW (fun _ => False) w B 2 (two v1 v2) (two n1 n2) (two x1 x2) := by
  refine ⟨fun k hk => ?_, fun k hk => World.ownsRow_nil _ _ _ _, fun i j b hi hj hij hb hb' => ?_, fun _ _ _ _ h => h, fun _ h => h.elim⟩
  · match k, hk with
    | 0, _ => exact h1
    | 1, _ => exact h2
  · have nb : ∀ b, ¬ (nilS).ownBlock = some b := fun b h => by simp [nilS, Value.ownBlock] at h
    have hc : (i = 0 ∧ j = 1) ∨ (i = 1 ∧ j = 0) := by omega
    rcases hc with ⟨rfl, rfl⟩ | ⟨rfl, rfl⟩
    · exact hb.elim (fun e => hb'.elim (fun e' => hne b e e') (nb b)) (nb b)
    · exact hb.elim (fun e => hb'.elim (fun e' => hne b e' e) (nb b)) (nb b)

set_option maxHeartbeats 4000000 in
set_option maxRecDepth 100000 in
theorem lzback_walk (v : Value) (bs : List Int) (W : World) (h : Rds W .u8 v bs) (hx : ∀ x ∈ bs, Byte x) : Calls Try.prog 5 #[v] W fun e W' => e = .returned (.bool true) ∧ Below W.heap.size W W' := by
  obtain ⟨B, hB⟩ : ∃ B, B = W.heap.size := ⟨_, rfl⟩
  rw [← hB]
  have HBW := Lib.hid hB
  have HV := Lib.hid h
  have HX := Lib.hid hx
  have hml : bs.length ≤ 9223372036854775807 := by obtain ⟨_, _, _, _, _, hr⟩ := h; exact hr.2.1
  obtain ⟨A, c, rfl, _⟩ := h
  clear hB hx
  go_enter Try.func5, Try.ntmps5
  go_wp2_with fail
  refine (awake_any W).mono ?_
  rintro e w1 ⟨rfl, b1⟩
  have HV1 := Lib.hid (HV.out.below b1)
  rw [← HBW.out] at b1
  have s1 : B ≤ w1.heap.size := by rw [HBW.out]; rw [HBW.out] at b1; exact b1.size
  by_cases h12 : bs.length ≤ 12000
  · have d1 : decide ((12000 : Int) < (bs.length : Int)) = false := decide_eq_false (by omega)
    go_wp2_with fail
    refine (lent_any _ bs w1 HV1.out (by omega)).mono ?_
    rintro e w2 ⟨bl, rfl, hI, b2⟩
    have bb2 : Below B W w2 := b1.trans (b2.mono s1)
    have s2 : B ≤ w2.heap.size := Nat.le_trans s1 b2.size
    have HI2 := Lib.hid hI
    have HV2 := Lib.hid (HV1.out.below b2)
    clear hI b1 b2
    go_wp2_with fail
    refine (parse_all _ bs w2 (HI2.out.rds (by omega)) HX.out (by omega)).mono ?_
    rintro e w3 ⟨vl, out, rfl, HO3, b3, hPS, hSY⟩
    have bb3 : Below B W w3 := bb2.trans (b3.mono s2)
    have s3 : w2.heap.size ≤ w3.heap.size := b3.size
    have HI3 := Lib.hid (HI2.out.fr (Fr.of_below b3 (fun _ => False)) (fun h => h))
    have HV3 := Lib.hid (HV2.out.below b3)
    clear b3 bb2
    go_wp2_with fail
    refine (parse_all _ bs w3 (HI3.out.rds (by omega)) HX.out (by omega)).mono ?_
    rintro e w4 ⟨vm, out', rfl, HO4, b4, _, hSY'⟩
    obtain rfl := hSY.uniq hSY'
    have bb4 : Below B W w4 := bb3.trans (b4.mono (by omega))
    have s4 : w3.heap.size ≤ w4.heap.size := b4.size
    have HI4 := Lib.hid (HI3.out.fr (Fr.of_below b4 (fun _ => False)) (fun h => h))
    have HV4 := Lib.hid (HV3.out.below b4)
    have HL4 := Lib.hid (pw_own_below HO3.out b4)
    have hne : ∀ b, vl.ownBlock = some b → vm.ownBlock ≠ some b := fun b hb hb' => by have := own_lt HO3.out b hb; have := own_base HO4.out b hb'; omega
    have HNE := Lib.hid hne
    have hok := hPS.ok HX.out (by omega)
    have HQL := Lib.hid (own_rdsQ HL4.out hok rfl)
    have HQM := Lib.hid (own_rdsQ HO4.out hok rfl)
    have hle := hPS.le
    have HPS := Lib.hid hPS
    have HPB := Lib.hid hPS
    obtain ⟨Al, cl, rfl⟩ := own_slice HL4.out
    obtain ⟨Am, cm, rfl⟩ := own_slice HO4.out
    clear b4 bb3 hSY hSY' hne hok hPS HO3
    go_wp2_with fail
    refine (kept_any _ bl _ bs w4 HI4.out HV4.out (by omega)).mono ?_
    rintro e w5 ⟨rfl, d5, hd5⟩
    have q5 : Below w4.heap.size w4 w5 := by rw [hd5]; exact pw_below_drewN (Below.refl _ _) d5
    have HQL5 := Lib.hid (HQL.out.below q5)
    have HQM5 := Lib.hid (HQM.out.below q5)
    have HV5 := Lib.hid (HV4.out.below q5)
    clear hd5
    go_wp2_with fail
    refine (samePieces_any _ _ out w5 HQL5.out HQM5.out).mono ?_
    rintro e w6 ⟨rfl, d6, hd6⟩
    have q6 : Below w4.heap.size w4 w6 := by rw [hd6]; exact pw_below_drewN q5 d6
    have HQ6 := Lib.hid q6
    have HQL6 := Lib.hid (HQL.out.below q6)
    have HV6 := Lib.hid (HV4.out.below q6)
    have ol1 : out.length ≤ bs.length := hle.2
    have d7 : decide (bs.length < out.length) = false := decide_eq_false (by omega)
    clear hd6 q5 q6 hle
    go_wp2_with fail
    go_loopg [6, 7] out.length (fun gk v6 v7 wr => ∃ i d : Nat, Hid (gk + i = out.length) ∧ v7 = .int .i64 (i : Int) ∧ v6 = .int .i64 ((psum (out.take i) : Nat) : Int) ∧ i ≤ out.length ∧ Hid (wr = w6.drewN d))
    case atStart => exact ⟨0, 0, by simp [Hid], rfl, rfl, by omega, rfl⟩
    case round =>
      obtain ⟨i, d, HG, rfl, rfl, hi, HW⟩ := hrel
      by_cases hlt : i < out.length
      · have t0 : (i : Int) < (out.length : Int) := by omega
        have tz : (0 : Int) ≤ (i : Int) := by omega
        obtain ⟨hp, hs⟩ := HPB.out.at_ i hlt
        have hadv := adv_le hs hp
        have hsu := psum_succ hlt
        obtain ⟨b1, o1, e1, _, hq1⟩ := HQL6.out.old (by omega)
        subst e1
        obtain ⟨a0, a1, a2⟩ := hq1 i hlt
        replace a0 := cell_dr HW a0
        replace a1 := cell_dr HW a1
        replace a2 := cell_dr HW a2
        obtain ⟨b3, o3, e3, _, hb3⟩ := Rds.at_old HV6.out (by omega)
        subst e3
        generalize psum (out.take i) = p at *
        have HB3 := Lib.hid hb3
        have HQC := Lib.hid (hq1 i hlt)
        clear hq1 hb3
        rcases hs with hpc | ⟨q, m, hq, hm, hl, hdist, hpc⟩
        · -- a byte
          rw [hpc] at a0 a1 a2 hsu
          have hadv1 : adv ⟨bs.getD p 0, 0, 0⟩ = 1 := rfl
          rw [hadv1] at hsu
          have c0 := cell_dr HW (HB3.out p hp)
          generalize bs.getD p 0 = X at *
          have HSU := Lib.hid hsu
          have HPC := Lib.hid hpc
          have zp : (0 : Int) ≤ (p : Int) := by omega
          have zq : (p : Int) < (bs.length : Int) := by omega
          have zr : ¬ (bs.length : Int) < (p : Int) + 1 := by omega
          have x1 : (X != X) = false := by simp
          have x2 : ((0 : Int) == 0) = true := rfl
          have x3 : ((0 : Int) != 0) = false := rfl
          dsimp only at a0 a1 a2
          clear hpc hadv hadv1 hsu
          go_wp2_with fail
          go_quiet (fail)
          go_wp2_with fail
          obtain ⟨gK, rfl⟩ : ∃ gK : Nat, gK = gk := ⟨_, rfl⟩
          obtain ⟨wo, rfl⟩ : ∃ wo : World, wo = wr := ⟨_, rfl⟩
          go_loopg [9] 0 (fun gj v9 wx => ∃ dd : Nat, v9 = .int .i64 0 ∧ Hid (wx = w6.drewN dd))
          case atStart => exact ⟨d + nq, rfl, by simp only [Hid]; rw [HW.out, World.drewN_drewN]⟩
          case round =>
            clear a0 a1 a2 c0
            obtain ⟨dd, rfl, HW2⟩ := hrel
            have a1 := cell_dr HW2 HQC.out.2.1
            rw [HPC.out] at a1
            dsimp only at a1
            go_wp2_with fail
            go_roundg (gK - 1)
            case measure => have := HG.out; omega
            case rel => exact ⟨i + 1, dd, by have := HG.out; simp only [Hid]; omega, by go_num, by rw [HSU.out]; go_num, by omega, HW2⟩
        · -- a match
          rw [hpc] at a0 a1 a2 hsu
          have hadv1 : adv ⟨0, (m : Int), ((p - q : Nat) : Int)⟩ = m := by
            show max ((m : Int)).toNat 1 = m
            rw [Int.toNat_natCast]
            omega
          rw [hadv1] at hsu
          have HSU := Lib.hid hsu
          have HPC := Lib.hid hpc
          have htop := hl.top
          have hfit := hl.fits
          have HL := Lib.hid hl
          dsimp only at a0 a1 a2
          have zr : ¬ (bs.length : Int) < (p : Int) + (m : Int) := by omega
          have y0 : ((m : Int) == 0) = false := by rw [beq_eq_false_iff_ne]; omega
          have y1 : ((0 : Int) != 0) = false := rfl
          have y2 : decide ((m : Int) < 3) = false := decide_eq_false (by omega)
          have y3 : decide ((258 : Int) < (m : Int)) = false := decide_eq_false (by omega)
          have y4 : decide (((p - q : Nat) : Int) < 1) = false := decide_eq_false (by omega)
          clear hpc hadv hadv1 hsu hl
          have y5 : decide (p < p - q) = false := decide_eq_false (by omega)
          go_wp2_with fail
          obtain ⟨gK, rfl⟩ : ∃ gK : Nat, gK = gk := ⟨_, rfl⟩
          obtain ⟨wo, rfl⟩ : ∃ wo : World, wo = wr := ⟨_, rfl⟩
          go_loopg [9] m (fun gj v9 wx => ∃ kk dd : Nat, Hid (gj + kk = m) ∧ v9 = .int .i64 (kk : Int) ∧ kk ≤ m ∧ Hid (wx = w6.drewN dd))
          case atStart => exact ⟨0, d, by simp [Hid], rfl, by omega, HW.out⟩
          case round =>
            clear a0 a1 a2 y0 y1 y2 y3 y4 y5
            obtain ⟨kk, dd, HJ, rfl, hkk, HW2⟩ := hrel
            have a1 := cell_dr HW2 HQC.out.2.1
            have a2 := cell_dr HW2 HQC.out.2.2
            rw [HPC.out] at a1 a2
            dsimp only at a1 a2
            by_cases hkm : kk < m
            · have z0 : (kk : Int) < (m : Int) := by omega
              have c0 := cell_dr HW2 (HB3.out (p + kk) (by omega))
              have c1 := cell_dr HW2 (HB3.out (q + kk) (by omega))
              rw [HL.out.same kk hkm] at c1
              generalize bs.getD (p + kk) 0 = Y at *
              have y0 : (0 : Int) ≤ (p : Int) + (kk : Int) := by omega
              have y1 : (p : Int) + (kk : Int) < (bs.length : Int) := by omega
              have y2 : ((p : Int) + (kk : Int)).toNat = p + kk := by omega
              have y3 : (0 : Int) ≤ (p : Int) + (kk : Int) - ((p - q : Nat) : Int) := by omega
              have y4 : (p : Int) + (kk : Int) - ((p - q : Nat) : Int) < (bs.length : Int) := by omega
              have y5 : ((p : Int) + (kk : Int) - ((p - q : Nat) : Int)).toNat = q + kk := by omega
              have x1 : (Y != Y) = false := by simp
              go_wp2_with fail
              go_quiet (fail)
              go_wp2
              go_roundg (gk - 1)
              case measure => have := HJ.out; omega
              case rel => exact ⟨kk + 1, dd + nq, by have := HJ.out; simp only [Hid]; omega, by go_num, by omega, by simp only [Hid]; rw [HW2.out, World.drewN_drewN]⟩
            · have hkm' : kk = m := by omega
              have z0 : ¬ (kk : Int) < (m : Int) := by omega
              clear hkm'
              go_wp2_with fail
              go_roundg (gK - 1)
              case measure => have := HG.out; omega
              case rel => exact ⟨i + 1, dd, by have := HG.out; simp only [Hid]; omega, by go_num, by rw [HSU.out]; go_num, by omega, HW2⟩
      · have hie : i = out.length := by omega
        have t0 : ¬ (i : Int) < (out.length : Int) := by omega
        have hps : psum (out.take i) = bs.length := by rw [hie, List.take_length, ← HPS.out.sum]
        rw [hps]
        have q7 : Below w4.heap.size w4 wr := by rw [HW.out]; exact pw_below_drewN HQ6.out d
        have HQ7 := Lib.hid q7
        have HQL7 := Lib.hid (HQL.out.below q7)
        have HV7 := Lib.hid (HV4.out.below q7)
        have hsay := HPS.out.says (base := []) (by simp; omega)
        rw [List.take_length, List.nil_append] at hsay
        have HSAY := Lib.hid hsay
        clear hps q7 hsay hie
        go_wp2_with fail
        refine (expand_any _ out wr HQL7.out).mono ?_
        rw [HSAY.out]
        rintro e w8 ⟨vc, rfl, oc, b8⟩
        have s7 : w4.heap.size ≤ wr.heap.size := HQ7.out.size
        have HQ8 := Lib.hid (HQ7.out.trans (b8.mono s7))
        have HV8 := Lib.hid (HV7.out.below b8)
        have HC8 : Hid (Rds w8 .u8 vc bs) := own_rds (xs := bs) (by simpa using oc)
        simp only [Option.isSome_some]
        have e1 : ((bs.length : Int) == (bs.length : Int)) = true := by simp
        clear oc b8
        go_wp2_with fail
        refine (same_yes _ _ bs w8 HV8.out HC8.out).mono ?_
        rintro e w9 ⟨rfl, d9, hd9⟩
        have q9 : Below w4.heap.size w4 w9 := by rw [hd9]; exact pw_below_drewN HQ8.out d9
        have bb9 : Below B W w9 := bb4.trans (q9.mono (by omega))
        have s9 : w4.heap.size ≤ w9.heap.size := q9.size
        have oa9 := own_less (base := B) (pw_own_below HL4.out q9) s2
        have ob9 := own_less (base := B) (pw_own_below HO4.out q9) (by omega)
        have hfl := flatP_two oa9 ob9 HNE.out
        have HFL := Lib.hid (hfl.fr ((Fr.refl (fun _ => False) w9).alloc (.cells #[.slice Al out.length cl, .slice Am out.length cm] 22)) (fun _ h => h.elim))
        have HAR : Hid (Arr (w9.alloc (.cells #[.slice Al out.length cl, .slice Am out.length cm] 22)) 22 w9.heap.size 2 (two (.slice Al out.length cl) (.slice Am out.length cm))) := ⟨_, heap_alloc_new w9 _, fun j hj => by
          have hc : j = 0 ∨ j = 1 := by omega
          rcases hc with rfl | rfl <;> rfl⟩
        have hnn : ∀ k, k < 2 → two out.length out.length k ≤ 1000000000 := fun k _ => by unfold two; split <;> omega
        have bb10 := bb9.alloc (show B ≤ w9.heap.size by omega) (.cells #[.slice Al out.length cl, .slice Am out.length cm] 22)
        clear oa9 ob9 hfl q9 hd9 bb9
        go_wp2_with fail
        refine (apartPieces_any B 2 w9.heap.size 2 _ _ _ _ HAR.out HFL.out (by decide) (by decide) hnn (by simp; omega)).mono ?_
        rintro e w11 ⟨rfl, b11⟩
        go_wp2
        go_ret
        exact ⟨rfl, bb10.trans b11⟩
  · have d1 : decide ((12000 : Int) < (bs.length : Int)) = true := decide_eq_true (by omega)
    go_wp2
    go_ret
    exact ⟨rfl, b1⟩

end Go.Proofs.Ytpjjiighojkagaa
