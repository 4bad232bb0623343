/- lz.Expand: what it does, over the memory; what it answers, plainly. -/
import Derived.Test.YtpjjiighojkagaaPie
import Derived.Test.YtpjjiighojkagaaLent
import Derived.Maps.AppendAt
import Derived.Deep.DeepCutAuto
set_option linter.unusedVariables false
set_option linter.unusedSimpArgs false
namespace Go.Proofs.Ytpjjiighojkagaa
open Go.RowKit Go.Proofs.YtpjjiighojkagaaW.PrintWords

/-! ### The plain answer -/
def isLit (p : Pie) : Bool := decide (p.len = 0 ∧ p.dist = 0)
def isMat (p : Pie) (n : Nat) : Bool := decide (p.b = 0 ∧ 3 ≤ p.len ∧ p.len ≤ 258 ∧ 1 ≤ p.dist ∧ p.dist ≤ 32768 ∧ p.dist ≤ (n : Int))
def copyN (out : List Int) (d : Nat) : Nat → List Int
  | 0 => out
  | n + 1 => copyN out d n ++ [(copyN out d n).getD ((copyN out d n).length - d) 0]
theorem copyN_length (out : List Int) (d n : Nat) : (copyN out d n).length = out.length + n := by
  induction n with
  | zero => rfl
  | succ n ih => simp [copyN, ih]; omega
def expOne (out : List Int) (p : Pie) : List Int := if isLit p then out ++ [p.b] else copyN out p.dist.toNat p.len.toNat
def expStep (out : List Int) (p : Pie) : Option (List Int) := if (isLit p || isMat p out.length) = true then (if 65536 < (expOne out p).length then none else some (expOne out p)) else none
def expFold : List Int → List Pie → Option (List Int)
  | out, [] => some out
  | out, p :: ps => (expStep out p).bind (fun o => expFold o ps)
theorem expFold_drop {out : List Int} {ps : List Pie} {k : Nat} (h : k < ps.length) : expFold out (ps.drop k) = (expStep out ps[k]).bind (fun o => expFold o (ps.drop (k + 1))) := by
  rw [List.drop_eq_getElem_cons h]
  rfl

/-! ### The walk -/
theorem own_ne_blk {w : World} {b : Nat} {e t : TypeId} {s n g : Nat} {v : Value} {xs : List Value} {cs : Array Value} (h : w.ownsRow b e s v n xs) (hb : w.heap[g]? = some (.cells cs t (0, 0))) (hne : e ≠ t) : v.ownBlock ≠ some g := by
  intro e1
  obtain ⟨cells, hc⟩ := own_typed h g e1
  rw [hb] at hc
  simp at hc
  exact hne hc.2.symm

def ExpRel (W : World) (B : Nat) (ps : List Pie) (R : Option (List Int)) (gk : Nat) (v4 v10 : Value) (wr : World) : Prop :=
  ∃ (k : Nat) (out : List Int), Hid (gk + k = ps.length) ∧ v10 = .int .i64 (k : Int) ∧ Hid (expFold out (ps.drop k) = R) ∧ out.length ≤ 65536 ∧
    wr.ownsRow B 5 1 v4 out.length (out.map (Value.int .u8)) ∧ Below B W wr ∧ B ≤ wr.heap.size
def ExpPost (B : Nat) (W : World) (R : Option (List Int)) (e : Ending) (W' : World) : Prop :=
  ∃ v', e = .returned (.tuple #[v', .bool R.isSome]) ∧ W'.ownsRow B 5 1 v' (R.getD []).length ((R.getD []).map (Value.int .u8)) ∧ Below B W W'
def CopyRel (W : World) (B : Nat) (out : List Int) (d n : Nat) (v4 v59 : Value) (wr : World) : Prop :=
  ∃ (j : Nat), j ≤ n ∧ v59 = .int .i64 (j : Int) ∧ wr.ownsRow B 5 1 v4 (copyN out d j).length ((copyN out d j).map (Value.int .u8)) ∧ Below B W wr ∧ B ≤ wr.heap.size

set_option maxHeartbeats 2000000 in
set_option maxRecDepth 100000 in
theorem expand_any (v : Value) (ps : List Pie) (W : World) (h : RdsQ W v ps) :
    Calls Try.prog 10 #[v] W (ExpPost W.heap.size W (expFold [] ps)) := by
  obtain ⟨i0, hi, hz0, hz1, hz2⟩ := info_parts Try.infoB
  obtain ⟨B, hB⟩ : ∃ B, B = W.heap.size := ⟨_, rfl⟩
  rw [← hB]
  have HBW := Lib.hid hB
  clear hB
  have hl0 := h
  obtain ⟨A, c, rfl, hc1, hc2, hc3, hok, _⟩ := h
  have hcl : ps.length ≤ 9223372036854775807 := by omega
  have HRD := Lib.hid hl0
  clear hl0 hc1 hc2 hc3 hok
  obtain ⟨R, hR⟩ : ∃ R, expFold [] ps = R := ⟨_, rfl⟩
  rw [hR]
  have HR := Lib.hid hR
  clear hR
  go_enter Try.func10, Try.ntmps10
  go_wp2_with fail
  go_loopg [4, 10] ps.length (fun gk v4 v10 wr => ExpRel W B ps R gk v4 v10 wr)
  case atStart => exact ⟨0, [], by simp [Hid], rfl, HR.out, by simp, World.ownsRow_nil _ _ _ _, by rw [HBW.out]; exact Below.refl _ _, by rw [HBW.out]; exact Nat.le_refl _⟩
  case round =>
    obtain ⟨k, out, HG, rfl, HX, ho65, ho, bb, ss⟩ := hrel
    by_cases hlt : k < ps.length
    · obtain ⟨bl, ol, rfl, hblt, hcells⟩ := (HRD.out.below (by rw [← HBW.out]; exact bb)).old (by omega)
      obtain ⟨q0, q1, q2⟩ := hcells k hlt
      clear hcells
      have t0 : (k : Int) < (ps.length : Int) := by omega
      have HD := Lib.hid (expFold_drop (out := out) hlt)
      obtain ⟨p, hp⟩ : ∃ p, p = ps[k] := ⟨_, rfl⟩
      have hpk := (by obtain ⟨_, _, _, _, _, _, hok, _⟩ := HRD.out; exact hok ps[k] (List.getElem_mem hlt) : (ps[k]).ok)
      rw [← hp] at q0 q1 q2 HD hpk
      have HP := Lib.hid hp
      clear hp
      obtain ⟨A4, c4, rfl⟩ := own_slice ho
      obtain ⟨⟨pb0, pb1⟩, ⟨pl0, pl1⟩, pd0, pd1⟩ := hpk
      by_cases hA : p.len = 0 ∧ p.dist = 0
      · -- a byte
        obtain ⟨hA1, hA2⟩ := hA
        have hok' : (isLit p || isMat p out.length) = true := by simp [isLit, hA1, hA2]
        obtain ⟨S, hS⟩ : ∃ S, S = out ++ [p.b] := ⟨_, rfl⟩
        have HS : Hid (expOne out p = copyN S p.dist.toNat p.len.toNat) := by
          simp only [Hid, expOne]
          rw [if_pos (by simp [isLit, hA1, hA2]), hA1, hS]
          rfl
        have HSS := Lib.hid hS
        clear hS
        have hSl : S.length = out.length + 1 := by rw [HSS.out]; simp
        have HSL := Lib.hid hSl
        have hlen0 : (p.len == 0) = true := by rw [hA1]; rfl
        have hdist0 : (p.dist == 0) = true := by rw [hA2]; rfl
        have hl3 : decide (3 ≤ p.len) = false := decide_eq_false (by omega)
        have HA1 := Lib.hid hA1
        have HA2 := Lib.hid hA2
        clear hA1 hA2 hSl
        have hgrow : ∃ gp, gp = wr.heap.size := ⟨_, rfl⟩
        obtain ⟨gp, hgpe⟩ := hgrow
        have HGP := Lib.hid hgpe
        clear hgpe
        by_cases hb0 : p.b = 0
        all_goals
          first
            | (have hb1 : (p.b == 0) = true := by rw [hb0]; rfl)
            | (have hb1 : (p.b == 0) = false := beq_eq_false_iff_ne.2 hb0)
          have HB0 := Lib.hid hb0
          clear hb0
          go_wp2_with (at_builtin; refine wpList_append_own_at _ rfl _ _ 25 rfl B 5 i0 (.int .u8 0) 1 1 Try.underlying25 hi hz0 hz1 hz2 rfl (by decide) (.slice A4 out.length c4) out.length (out.map (Value.int .u8)) rfl ((ho.alloc _).alloc _) ⟨wr.heap.size + 1, 0, none⟩ 1 1 [.int .u8 p.b] rfl rfl (by intro j u hj; have := cell_one_new (wr.alloc (.cells #[.int .u8 p.b, .int .i64 p.len, .int .i64 p.dist] 35)) (.int .u8 p.b) 5 j u hj; simpa using this) (by simp [Value.oneCell']) (by simp only [maxLen]; omega) (by omega) (by simp; omega) ?_)
        all_goals
          intro v2 w2 ho2' hg2 _ _
          have f2 : Fr (fun k => (Value.slice A4 out.length c4).ownBlock = some k) wr w2 := Fr.grown (Fr.alloc (Fr.alloc (Fr.refl _ wr) _) _) hg2 (fun k hk => Or.inl hk)
          have bb2 : Below B W w2 := Fr.then_below bb f2 ss (fun k hk => own_base ho k hk)
          have ss2 : B ≤ w2.heap.size := Nat.le_trans ss f2.size
          have hgp : w2.heap[gp]? = some (.cells #[.int .u8 p.b, .int .i64 p.len, .int .i64 p.dist] 35 (0, 0)) := by
            rw [HGP.out]
            refine (hg2.block wr.heap.size (by simp; omega) (fun e => ?_)).trans (blk_alloc (heap_alloc_new wr _) _)
            have := own_lt ho _ e.symm
            omega
          have ho2 : w2.ownsRow B 5 1 v2 (copyN S p.dist.toNat 0).length ((copyN S p.dist.toNat 0).map (Value.int .u8)) := by
            show w2.ownsRow B 5 1 v2 S.length (S.map (Value.int .u8))
            rw [HSL.out, HSS.out]
            simpa using ho2'
          clear ho2' hg2 f2
          rw [← HGP.out]
          have HM : Hid (0 < p.len.toNat → 1 ≤ p.dist ∧ p.dist ≤ (S.length : Int) ∧ p.len ≤ 258) := fun h => by rw [HA1.out] at h; simp at h
          have hSle : S.length ≤ 65537 := by rw [HSL.out]; omega
          obtain ⟨gK, rfl⟩ : ∃ gK : Nat, gK = gk := ⟨_, rfl⟩
          obtain ⟨wo, rfl⟩ : ∃ wo : World, wo = wr := ⟨_, rfl⟩
          have hbp : w2.heap[gp]? = some (.cells #[.int .u8 p.b, .int .i64 p.len, .int .i64 p.dist] 35 (0, 0)) := hgp
          have HBP := Lib.hid hbp
          clear hgp hbp
          have k1 : w2.cell? ⟨gp, 1, none⟩ = some (.int .i64 p.len) := (blk_cell HBP.out 1).trans rfl
          go_wp2_with fail
          clear k1
          go_loopg [4, 59] p.len.toNat (fun gj v4 v59 w3 => ∃ (j : Nat), Hid (gj + j = p.len.toNat) ∧ v59 = .int .i64 (j : Int) ∧ w3.ownsRow B 5 1 v4 (copyN S p.dist.toNat j).length ((copyN S p.dist.toNat j).map (Value.int .u8)) ∧ Below B W w3 ∧ B ≤ w3.heap.size ∧ w3.heap[gp]? = some (.cells #[.int .u8 p.b, .int .i64 p.len, .int .i64 p.dist] 35 (0, 0)))
          case atStart => exact ⟨0, by simp [Hid], rfl, ho2, bb2, ss2, HBP.out⟩
          case round =>
            clear HBP bb2 ss2
            obtain ⟨j, HJ, rfl, ho3, bb3, ss3, hbp3⟩ := hrel
            have hclen := copyN_length S p.dist.toNat j
            have k1 : wr.cell? ⟨gp, 1, none⟩ = some (.int .i64 p.len) := (blk_cell hbp3 1).trans rfl
            have k2 : wr.cell? ⟨gp, 2, none⟩ = some (.int .i64 p.dist) := (blk_cell hbp3 2).trans rfl
            have HB3 := Lib.hid hbp3
            clear hbp3
            by_cases hjl : j < p.len.toNat
            · obtain ⟨m1, m2, m3⟩ := HM.out (by omega)
              have z0 : (j : Int) < p.len := by omega
              obtain ⟨g3, c3, rfl, _, _⟩ := ho3.form (by rw [hclen]; omega)
              have hd1 : 1 ≤ p.dist := m1
              have hidx : (copyN S p.dist.toNat j).length - p.dist.toNat < (copyN S p.dist.toNat j).length := by omega
              have hcc := ho3.cells (g := g3) rfl ((copyN S p.dist.toNat j).length - p.dist.toNat) (.int .u8 ((copyN S p.dist.toNat j).getD ((copyN S p.dist.toNat j).length - p.dist.toNat) 0)) (by rw [List.getElem?_map, List.getElem?_eq_getElem hidx, List.getD_eq_getElem?_getD, List.getElem?_eq_getElem hidx]; rfl)
              rw [add_plain] at hcc
              have hsucc : copyN S p.dist.toNat (j + 1) = copyN S p.dist.toNat j ++ [(copyN S p.dist.toNat j).getD ((copyN S p.dist.toNat j).length - p.dist.toNat) 0] := rfl
              have HSU := Lib.hid hsucc
              clear hsucc
              generalize (copyN S p.dist.toNat j).getD ((copyN S p.dist.toNat j).length - p.dist.toNat) 0 = x at *
              generalize hO : copyN S p.dist.toNat j = O at *
              have HO := Lib.hid hO
              clear hO
              obtain ⟨dn, hdn⟩ : ∃ dn : Nat, p.dist = (dn : Int) := ⟨p.dist.toNat, by omega⟩
              rw [hdn] at hcc k2 hidx hd1 m2
              rw [Int.toNat_natCast] at hcc hidx
              have HDN := Lib.hid hdn
              clear hdn
              have y1 : (dn : Int) ≤ (O.length : Int) := by omega
              have y2 : (O.length : Int) - (dn : Int) < (O.length : Int) := by omega
              have hOle : O.length ≤ 66000 := by omega
              have HCL := Lib.hid hclen
              clear hclen
              go_wp2_with (at_builtin; refine wpList_append_own_at _ rfl _ _ 25 rfl B 5 i0 (.int .u8 0) 1 1 Try.underlying25 hi hz0 hz1 hz2 rfl (by decide) (.slice (some ⟨g3, 0, none⟩) O.length c3) O.length (O.map (Value.int .u8)) rfl (ho3.alloc _) ⟨wr.heap.size, 0, none⟩ 1 1 [.int .u8 x] rfl rfl (cell_one_new _ _ _) (by simp [Value.oneCell']) (by simp only [maxLen]; omega) (by omega) (by simp; omega) ?_)
              intro v5 w5 ho5 hg5 _ _
              have f5 : Fr (fun k => (Value.slice (some ⟨g3, 0, none⟩) O.length c3).ownBlock = some k) wr w5 := Fr.grown (Fr.alloc (Fr.refl _ wr) _) hg5 (fun k hk => Or.inl hk)
              have hb5 := f5.heap HB3.out (fun hk => own_ne_blk ho3 HB3.out (by decide) hk)
              have bb5 : Below B W w5 := Fr.then_below bb3 f5 ss3 (fun k hk => own_base ho3 k hk)
              have ho5' : w5.ownsRow B 5 1 v5 (copyN S p.dist.toNat (j + 1)).length ((copyN S p.dist.toNat (j + 1)).map (Value.int .u8)) := by
                rw [HSU.out]
                simpa using ho5
              clear ho5 hcc k1 k2
              go_wp2
              go_roundg (gk - 1)
              case measure => have := HJ.out; omega
              case rel => exact ⟨j + 1, by have := HJ.out; simp only [Hid]; omega, by go_num, ho5', bb5, Nat.le_trans ss3 f5.size, hb5⟩
            · have hje : j = p.len.toNat := by have := HJ.out; omega
              have z0 : ¬ (j : Int) < p.len := by omega
              rw [hje, ← HS.out] at ho3
              obtain ⟨A3, c3, rfl⟩ := own_slice ho3
              by_cases hbig : 65536 < (expOne out p).length
              · have d5 : decide ((65536 : Int) < ((expOne out p).length : Int)) = true := decide_eq_true (by omega)
                have hRn : R = none := by
                  rw [← HX.out, HD.out]
                  unfold expStep
                  rw [if_pos hok', if_pos hbig]
                  rfl
                have HRN := Lib.hid hRn
                clear hRn
                go_wp2
                go_ret2
                exact ⟨.slice none 0 0, by rw [HRN.out]; rfl, by rw [HRN.out]; exact World.ownsRow_nil _ _ _ _, bb3⟩
              · have d5 : decide ((65536 : Int) < ((expOne out p).length : Int)) = false := decide_eq_false (by omega)
                have hRs : expFold (expOne out p) (ps.drop (k + 1)) = R := by
                  rw [← HX.out, HD.out]
                  unfold expStep
                  rw [if_pos hok', if_neg hbig]
                  rfl
                have HRS := Lib.hid hRs
                clear hRs
                have t1 : (k : Int) < (ps.length : Int) := by omega
                go_wp2
                go_roundg (gK - 1)
                case measure => have := HG.out; omega
                case rel => exact ⟨k + 1, expOne out p, by have := HG.out; simp only [Hid]; omega, by go_num, HRS, by omega, ho3, bb3, ss3⟩
      · have hnl : isLit p = false := by simp only [isLit, decide_eq_false_iff_not]; exact hA
        by_cases hM : p.b = 0 ∧ 3 ≤ p.len ∧ p.len ≤ 258 ∧ 1 ≤ p.dist ∧ p.dist ≤ 32768 ∧ p.dist ≤ (out.length : Int)
        · -- a match
          have hok' : (isLit p || isMat p out.length) = true := by rw [hnl]; simp only [isMat, Bool.false_or, decide_eq_true_eq]; exact hM
          obtain ⟨m0, m1, m2, m3, m4, m5⟩ := hM
          obtain ⟨S, hS⟩ : ∃ S, S = out := ⟨_, rfl⟩
          have HS : Hid (expOne out p = copyN S p.dist.toNat p.len.toNat) := by
            simp only [Hid, expOne]
            rw [hnl, hS]
            rfl
          have HSS := Lib.hid hS
          have hSle : S.length ≤ 65537 := by rw [hS]; omega
          have HM : Hid (0 < p.len.toNat → 1 ≤ p.dist ∧ p.dist ≤ (S.length : Int) ∧ p.len ≤ 258) := fun _ => ⟨m3, by rw [hS]; exact m5, m2⟩
          clear hS hA
          have hlen0 : (p.len == 0) = false := by rw [beq_eq_false_iff_ne]; omega
          have hb1 : (p.b == 0) = true := by rw [m0]; rfl
          have hl3 : decide (3 ≤ p.len) = true := decide_eq_true m1
          have hl4 : decide (p.len ≤ 258) = true := decide_eq_true m2
          have hl5 : decide (1 ≤ p.dist) = true := decide_eq_true m3
          have HB0 := Lib.hid m0
          have HNL := Lib.hid hnl
          clear m0 hnl
          obtain ⟨gp, hgpe⟩ : ∃ gp, gp = wr.heap.size := ⟨_, rfl⟩
          have HGP := Lib.hid hgpe
          clear hgpe
          have hl6 : decide (p.dist ≤ if (out.length : Int) < 32768 then (out.length : Int) else 32768) = true := by apply decide_eq_true; split <;> omega
          go_upto_if 40 with fail
          generalize (if (out.length : Int) < 32768 then (out.length : Int) else 32768) = mn at *
          clear m1 m2 m3 m4 m5
          go_wp2_with fail
          rw [← HGP.out]
          generalize hw2 : wr.alloc (.cells #[.int .u8 p.b, .int .i64 p.len, .int .i64 p.dist] 35) = w2
          have hgp : w2.heap[gp]? = some (.cells #[.int .u8 p.b, .int .i64 p.len, .int .i64 p.dist] 35 (0, 0)) := by rw [HGP.out, ← hw2]; exact heap_alloc_new wr _
          have bb2 : Below B W w2 := by rw [← hw2]; exact bb.alloc ss _
          have ss2 : B ≤ w2.heap.size := by rw [← hw2]; simp; omega
          have ho2 : w2.ownsRow B 5 1 (.slice A4 out.length c4) (copyN S p.dist.toNat 0).length ((copyN S p.dist.toNat 0).map (Value.int .u8)) := by
            show w2.ownsRow B 5 1 _ S.length (S.map (Value.int .u8))
            rw [HSS.out, ← hw2]
            exact ho.alloc _
          clear hw2 hl3 hl4 hl5 hl6 hlen0 hb1
          obtain ⟨gK, rfl⟩ : ∃ gK : Nat, gK = gk := ⟨_, rfl⟩
          obtain ⟨wo, rfl⟩ : ∃ wo : World, wo = wr := ⟨_, rfl⟩
          have hbp : w2.heap[gp]? = some (.cells #[.int .u8 p.b, .int .i64 p.len, .int .i64 p.dist] 35 (0, 0)) := hgp
          have HBP := Lib.hid hbp
          clear hgp hbp
          have k1 : w2.cell? ⟨gp, 1, none⟩ = some (.int .i64 p.len) := (blk_cell HBP.out 1).trans rfl
          go_wp2_with fail
          clear k1
          go_loopg [4, 59] p.len.toNat (fun gj v4 v59 w3 => ∃ (j : Nat), Hid (gj + j = p.len.toNat) ∧ v59 = .int .i64 (j : Int) ∧ w3.ownsRow B 5 1 v4 (copyN S p.dist.toNat j).length ((copyN S p.dist.toNat j).map (Value.int .u8)) ∧ Below B W w3 ∧ B ≤ w3.heap.size ∧ w3.heap[gp]? = some (.cells #[.int .u8 p.b, .int .i64 p.len, .int .i64 p.dist] 35 (0, 0)))
          case atStart => exact ⟨0, by simp [Hid], rfl, ho2, bb2, ss2, HBP.out⟩
          case round =>
            clear HBP bb2 ss2
            obtain ⟨j, HJ, rfl, ho3, bb3, ss3, hbp3⟩ := hrel
            have hclen := copyN_length S p.dist.toNat j
            have k1 : wr.cell? ⟨gp, 1, none⟩ = some (.int .i64 p.len) := (blk_cell hbp3 1).trans rfl
            have k2 : wr.cell? ⟨gp, 2, none⟩ = some (.int .i64 p.dist) := (blk_cell hbp3 2).trans rfl
            have HB3 := Lib.hid hbp3
            clear hbp3
            by_cases hjl : j < p.len.toNat
            · obtain ⟨m1, m2, m3⟩ := HM.out (by omega)
              have z0 : (j : Int) < p.len := by omega
              obtain ⟨g3, c3, rfl, _, _⟩ := ho3.form (by rw [hclen]; omega)
              have hd1 : 1 ≤ p.dist := m1
              have hidx : (copyN S p.dist.toNat j).length - p.dist.toNat < (copyN S p.dist.toNat j).length := by omega
              have hcc := ho3.cells (g := g3) rfl ((copyN S p.dist.toNat j).length - p.dist.toNat) (.int .u8 ((copyN S p.dist.toNat j).getD ((copyN S p.dist.toNat j).length - p.dist.toNat) 0)) (by rw [List.getElem?_map, List.getElem?_eq_getElem hidx, List.getD_eq_getElem?_getD, List.getElem?_eq_getElem hidx]; rfl)
              rw [add_plain] at hcc
              have hsucc : copyN S p.dist.toNat (j + 1) = copyN S p.dist.toNat j ++ [(copyN S p.dist.toNat j).getD ((copyN S p.dist.toNat j).length - p.dist.toNat) 0] := rfl
              have HSU := Lib.hid hsucc
              clear hsucc
              generalize (copyN S p.dist.toNat j).getD ((copyN S p.dist.toNat j).length - p.dist.toNat) 0 = x at *
              generalize hO : copyN S p.dist.toNat j = O at *
              have HO := Lib.hid hO
              clear hO
              obtain ⟨dn, hdn⟩ : ∃ dn : Nat, p.dist = (dn : Int) := ⟨p.dist.toNat, by omega⟩
              rw [hdn] at hcc k2 hidx hd1 m2
              rw [Int.toNat_natCast] at hcc hidx
              have HDN := Lib.hid hdn
              clear hdn
              have y1 : (dn : Int) ≤ (O.length : Int) := by omega
              have y2 : (O.length : Int) - (dn : Int) < (O.length : Int) := by omega
              have hOle : O.length ≤ 66000 := by omega
              have HCL := Lib.hid hclen
              clear hclen
              go_wp2_with (at_builtin; refine wpList_append_own_at _ rfl _ _ 25 rfl B 5 i0 (.int .u8 0) 1 1 Try.underlying25 hi hz0 hz1 hz2 rfl (by decide) (.slice (some ⟨g3, 0, none⟩) O.length c3) O.length (O.map (Value.int .u8)) rfl (ho3.alloc _) ⟨wr.heap.size, 0, none⟩ 1 1 [.int .u8 x] rfl rfl (cell_one_new _ _ _) (by simp [Value.oneCell']) (by simp only [maxLen]; omega) (by omega) (by simp; omega) ?_)
              intro v5 w5 ho5 hg5 _ _
              have f5 : Fr (fun k => (Value.slice (some ⟨g3, 0, none⟩) O.length c3).ownBlock = some k) wr w5 := Fr.grown (Fr.alloc (Fr.refl _ wr) _) hg5 (fun k hk => Or.inl hk)
              have hb5 := f5.heap HB3.out (fun hk => own_ne_blk ho3 HB3.out (by decide) hk)
              have bb5 : Below B W w5 := Fr.then_below bb3 f5 ss3 (fun k hk => own_base ho3 k hk)
              have ho5' : w5.ownsRow B 5 1 v5 (copyN S p.dist.toNat (j + 1)).length ((copyN S p.dist.toNat (j + 1)).map (Value.int .u8)) := by
                rw [HSU.out]
                simpa using ho5
              clear ho5 hcc k1 k2
              go_wp2
              go_roundg (gk - 1)
              case measure => have := HJ.out; omega
              case rel => exact ⟨j + 1, by have := HJ.out; simp only [Hid]; omega, by go_num, ho5', bb5, Nat.le_trans ss3 f5.size, hb5⟩
            · have hje : j = p.len.toNat := by have := HJ.out; omega
              have z0 : ¬ (j : Int) < p.len := by omega
              rw [hje, ← HS.out] at ho3
              obtain ⟨A3, c3, rfl⟩ := own_slice ho3
              by_cases hbig : 65536 < (expOne out p).length
              · have d5 : decide ((65536 : Int) < ((expOne out p).length : Int)) = true := decide_eq_true (by omega)
                have hRn : R = none := by
                  rw [← HX.out, HD.out]
                  unfold expStep
                  rw [if_pos hok', if_pos hbig]
                  rfl
                have HRN := Lib.hid hRn
                clear hRn
                go_wp2
                go_ret2
                exact ⟨.slice none 0 0, by rw [HRN.out]; rfl, by rw [HRN.out]; exact World.ownsRow_nil _ _ _ _, bb3⟩
              · have d5 : decide ((65536 : Int) < ((expOne out p).length : Int)) = false := decide_eq_false (by omega)
                have hRs : expFold (expOne out p) (ps.drop (k + 1)) = R := by
                  rw [← HX.out, HD.out]
                  unfold expStep
                  rw [if_pos hok', if_neg hbig]
                  rfl
                have HRS := Lib.hid hRs
                clear hRs
                have t1 : (k : Int) < (ps.length : Int) := by omega
                go_wp2
                go_roundg (gK - 1)
                case measure => have := HG.out; omega
                case rel => exact ⟨k + 1, expOne out p, by have := HG.out; simp only [Hid]; omega, by go_num, HRS, by omega, ho3, bb3, ss3⟩
        · -- none
          have hno : ¬ (isLit p || isMat p out.length) = true := by rw [hnl]; simp only [isMat, Bool.false_or, decide_eq_true_eq]; exact hM
          have hRn : R = none := by
            rw [← HX.out, HD.out]
            unfold expStep
            rw [if_neg hno]
            rfl
          have HRN := Lib.hid hRn
          have HA := Lib.hid hA
          have HMM := Lib.hid hM
          clear hRn hno hnl hA hM
          have hsplit : (p.len == 0) = false ∨ ((p.len == 0) = true ∧ (p.dist == 0) = false) := by
            by_cases h : p.len = 0
            · exact .inr ⟨by rw [h]; rfl, beq_eq_false_iff_ne.2 (fun h2 => HA.out ⟨h, h2⟩)⟩
            · exact .inl (beq_eq_false_iff_ne.2 h)
          have hfail : (p.b == 0) = false ∨ ((p.b == 0) = true ∧ decide (3 ≤ p.len) = false) ∨ ((p.b == 0) = true ∧ decide (3 ≤ p.len) = true ∧ decide (p.len ≤ 258) = false) ∨ ((p.b == 0) = true ∧ decide (3 ≤ p.len) = true ∧ decide (p.len ≤ 258) = true ∧ decide (1 ≤ p.dist) = false) ∨
              ((p.b == 0) = true ∧ decide (3 ≤ p.len) = true ∧ decide (p.len ≤ 258) = true ∧ decide (1 ≤ p.dist) = true ∧ decide (p.dist ≤ if (out.length : Int) < 32768 then (out.length : Int) else 32768) = false) := by
            by_cases h1 : p.b = 0
            · by_cases h2 : 3 ≤ p.len
              · by_cases h3 : p.len ≤ 258
                · by_cases h4 : 1 ≤ p.dist
                  · refine .inr (.inr (.inr (.inr ⟨by rw [h1]; rfl, decide_eq_true h2, decide_eq_true h3, decide_eq_true h4, decide_eq_false (fun h5 => HMM.out ⟨h1, h2, h3, h4, ?_, ?_⟩)⟩)))
                    · split at h5 <;> omega
                    · split at h5 <;> omega
                  · exact .inr (.inr (.inr (.inl ⟨by rw [h1]; rfl, decide_eq_true h2, decide_eq_true h3, decide_eq_false h4⟩)))
                · exact .inr (.inr (.inl ⟨by rw [h1]; rfl, decide_eq_true h2, decide_eq_false h3⟩))
              · exact .inr (.inl ⟨by rw [h1]; rfl, decide_eq_false h2⟩)
            · exact .inl (beq_eq_false_iff_ne.2 h1)
          rcases hsplit with y1 | ⟨y1, y2⟩ <;> rcases hfail with x1 | ⟨x1, x2⟩ | ⟨x1, x2, x3⟩ | ⟨x1, x2, x3, x4⟩ | ⟨x1, x2, x3, x4, x5⟩
          all_goals
            first
              | (exfalso; have e1 := of_decide_eq_true x2; have e2 : p.len = 0 := by simpa using y1
                 omega)
              | (go_upto_if 40 with fail
                 generalize (if (out.length : Int) < 32768 then (out.length : Int) else 32768) = mn at *
                 go_wp2
                 go_ret2
                 exact ⟨.slice none 0 0, by rw [HRN.out]; rfl, by rw [HRN.out]; exact World.ownsRow_nil _ _ _ _, bb.alloc ss _⟩)
    · have hke : k = ps.length := by have := HG.out; omega
      have hRe : R = some out := by rw [← HX.out, hke, List.drop_length]; rfl
      have HRE := Lib.hid hRe
      have tt : ¬ (k : Int) < (ps.length : Int) := by omega
      clear hke hRe hlt
      go_wp2
      go_ret2
      exact ⟨_, by rw [HRE.out]; rfl, by rw [HRE.out]; exact ho, bb⟩

end Go.Proofs.Ytpjjiighojkagaa
