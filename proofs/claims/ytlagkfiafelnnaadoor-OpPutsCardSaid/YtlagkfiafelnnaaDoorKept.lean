/- KeptFreshes, KeptPuts, KeptOp. -/
import Derived.Test.YtlagkfiafelnnaaDoorLentO
import Derived.Test.YtlagkfiafelnnaaDoorRefW
set_option linter.unusedVariables false
set_option linter.unusedSimpArgs false
namespace Go.Proofs.YtlagkfiafelnnaaDoor
open Go.RowKit Go.Proofs.YtlagkfiafelnnaaDoorW.PrintWords

theorem marksF_at {j : Nat} (h : j < 12) : (marksF 12)[j]? = some (mFre 1 (j : Int)) := by simp [marksF, h]
theorem marksP_at {j : Nat} (h : j < 12) : (marksP 12)[j]? = some (mPu 1 (j : Int)) := by simp [marksP, h]

set_option maxHeartbeats 4000000 in
set_option maxRecDepth 100000 in
theorem keptF_any (B b : Nat) (v : Value) (xs : List Fre) (W : World) (h : IsLentF W B b xs) (hv : RdsF W v xs) (hl : xs.length ≤ 1000000) :
    Calls Tryd.prog 36 #[.slice (some ⟨b, 0, none⟩) xs.length (xs.length + 12), v] W fun e W' => e = .returned (.bool true) ∧ Below W.heap.size W W' := by
  obtain ⟨A2, c2, rfl, q1, q2⟩ := hv.form
  have HH := Lib.hid h
  have HV := Lib.hid hv
  clear h hv
  have b0 : Hid (Below W.heap.size W W) := Below.refl _ _
  have t1 : (xs.length : Int) + 12 ≤ ((xs.length + 12 : Nat) : Int) := by omega
  go_enter Tryd.func36, Tryd.ntmps36
  go_wp2_with fail
  go_loopw [6] (fun v6 wr => ∃ j : Nat, j ≤ xs.length + 12 ∧ v6 = .int .i64 (j : Int) ∧ Hid (Below W.heap.size W wr)) (fun v6 _ => xs.length + 12 - (intOf v6).toNat)
  case atStart => exact ⟨0, Nat.zero_le _, rfl, b0.out⟩
  case round =>
    obtain ⟨j, hj, rfl, HB⟩ := hrel
    by_cases hlt : j < xs.length + 12
    · have z0 : (0 : Int) ≤ (j : Int) := by omega
      have z1 : (j : Int) < (xs.length : Int) + 12 := by omega
      have hall := (HH.out.below HB.out).all.at_ (by rw [List.length_append, marksF_length]; omega)
      obtain ⟨b', off', e1, _, hat⟩ := hall
      injection e1 with e1
      injection e1 with e2 e3
      subst e2 e3
      have hi := hat j (by rw [List.length_append, marksF_length]; exact hlt)
      rw [Nat.zero_add] at hi
      by_cases hin : j < xs.length
      · obtain ⟨b2, off, rfl, _, hat2⟩ := (HV.out.below HB.out).at_ (by omega)
        have hi2 := hat2 j hin
        have hwf := HV.out.2 _ (List.getElem_mem hin)
        rw [List.getElem_append_left hin] at hi
        generalize xs[j] = f at hi hi2 hwf
        have HI := Lib.hid hi
        have HI2 := Lib.hid hi2
        have HEQ := Lib.hid (eq64 hwf)
        have HSZ : Hid ((Tryd.prog.info? 64).map (·.size) = some f.cells.length) := by simp only [Hid]; rw [hwf.len]; exact size64'
        have z2 : (j : Int) < (xs.length : Int) := by omega
        have d1 : decide ((j : Int) < (xs.length : Int)) = true := decide_eq_true z2
        have d2 : decide ((xs.length : Int) ≤ (j : Int)) = false := decide_eq_false (by omega)
        have d3 : decide (j < xs.length) = true := decide_eq_true hin
        have d4 : decide (xs.length ≤ j) = false := decide_eq_false (by omega)
        clear hat hat2 hi hi2 hwf
        go_upto_region 7 with fail
        refine wp_region_gen (S := fun w' => w'.rangeAt b (j * 36) f.cells ∧ w'.rangeAt b2 (off + j * 36) f.cells) (by kernel_rfl) (fun _ _ _ _ _ h => h) ?_
        intro Q' HQP HQN
        change wpAnyH _ _ _ _ _ _ _ _ (wr.drewN 1)
        have hS : (fun w' : World => w'.rangeAt b (j * 36) f.cells ∧ w'.rangeAt b2 (off + j * 36) f.cells) (wr.drewN 1) := ⟨HI.out, HI2.out⟩
        refine wpAnyH_take (i := 0) (oi := ⟨some 23, _, _, _, _, none⟩) (v := ?_) rfl (by kernel_rfl) (by kernel_rfl) (by kernel_rfl) (fun c _ w h => HQP.out c _ _ _ w h) (Or.inl ⟨by rfl, ?v0⟩) hS ?_
        case v0 => (intro w hSw; (try dsimp only at hSw); obtain ⟨s0, s1⟩ := hSw; go_simp; try with_reducible rfl)
        try simp only [Act.put, List.setIfInBounds_toArray, List.set_cons_zero, List.set_cons_succ]
        refine wpAnyH_take (i := 1) (oi := ⟨some 24, _, _, _, _, none⟩) (v := ?_) rfl (by kernel_rfl) (by kernel_rfl) (by kernel_rfl) (fun c _ w h => HQP.out c _ _ _ w h) (Or.inl ⟨by rfl, ?v1⟩) hS ?_
        case v1 => (intro w hSw; (try dsimp only at hSw); obtain ⟨s0, s1⟩ := hSw; go_simp; try with_reducible rfl)
        try simp only [Act.put, List.setIfInBounds_toArray, List.set_cons_zero, List.set_cons_succ]
        refine wpAnyH_take (i := 2) (oi := ⟨some 25, _, _, _, _, none⟩) (v := ?_) rfl (by kernel_rfl) (by kernel_rfl) (by kernel_rfl) (fun c _ w h => HQP.out c _ _ _ w h) (Or.inl ⟨by rfl, ?v2⟩) hS ?_
        case v2 => (intro w hSw; (try dsimp only at hSw); obtain ⟨s0, s1⟩ := hSw; go_simp; try with_reducible rfl)
        try simp only [Act.put, List.setIfInBounds_toArray, List.set_cons_zero, List.set_cons_succ]
        refine wpAnyH_take (i := 3) (oi := ⟨some 26, _, _, _, _, none⟩) (v := ?_) rfl (by kernel_rfl) (by kernel_rfl) (by kernel_rfl) (fun c _ w h => HQP.out c _ _ _ w h) (Or.inl ⟨by rfl, ?v3⟩) hS ?_
        case v3 => (intro w hSw; (try dsimp only at hSw); obtain ⟨s0, s1⟩ := hSw; go_simp; try with_reducible rfl)
        try simp only [Act.put, List.setIfInBounds_toArray, List.set_cons_zero, List.set_cons_succ]
        refine wpAnyH_take (i := 4) (oi := ⟨some 27, _, _, _, _, none⟩) (v := ?_) rfl (by kernel_rfl) (by kernel_rfl) (by kernel_rfl) (fun c _ w h => HQP.out c _ _ _ w h) (Or.inl ⟨by rfl, ?v4⟩) hS ?_
        case v4 => (intro w hSw; (try dsimp only at hSw); obtain ⟨s0, s1⟩ := hSw; go_simp; try with_reducible rfl)
        try simp only [Act.put, List.setIfInBounds_toArray, List.set_cons_zero, List.set_cons_succ]
        refine wpAnyH_take (i := 5) (oi := ⟨some 28, _, _, _, _, some (4, true)⟩) (v := ?_) rfl (by kernel_rfl) (by kernel_rfl) (by kernel_rfl) (fun c _ w h => HQP.out c _ _ _ w h) (Or.inl ⟨by rfl, ?v5⟩) hS ?_
        case v5 => (intro w hSw; (try dsimp only at hSw); obtain ⟨s0, s1⟩ := hSw; go_simp; try with_reducible rfl)
        try simp only [Act.put, List.setIfInBounds_toArray, List.set_cons_zero, List.set_cons_succ]
        refine wpAnyH_take (i := 6) (oi := ⟨some 29, _, _, _, _, some (4, true)⟩) (v := ?_) rfl (by kernel_rfl) (by kernel_rfl) (by kernel_rfl) (fun c _ w h => HQP.out c _ _ _ w h) (Or.inl ⟨by rfl, ?v6⟩) hS ?_
        case v6 => (intro w hSw; (try dsimp only at hSw); obtain ⟨s0, s1⟩ := hSw; go_simp; try with_reducible rfl)
        try simp only [Act.put, List.setIfInBounds_toArray, List.set_cons_zero, List.set_cons_succ]
        refine wpAnyH_take (i := 7) (oi := ⟨some 30, _, _, _, _, some (4, true)⟩) (v := ?_) rfl (by kernel_rfl) (by kernel_rfl) (by kernel_rfl) (fun c _ w h => HQP.out c _ _ _ w h) (Or.inl ⟨by rfl, ?v7⟩) hS ?_
        case v7 => (intro w hSw; (try dsimp only at hSw); obtain ⟨s0, s1⟩ := hSw; go_simp; try with_reducible rfl)
        try simp only [Act.put, List.setIfInBounds_toArray, List.set_cons_zero, List.set_cons_succ]
        refine wpAnyH_take (i := 8) (oi := ⟨some 31, _, _, _, _, some (4, true)⟩) (v := .agg f.cells.toArray) rfl (by kernel_rfl) (by kernel_rfl) (by kernel_rfl) (fun c _ w h => HQP.out c _ _ _ w h) (yieldsIf_load_mid (by rfl) 64 (.tmp 30) rfl b (j * 36) rfl _ _ (fun w hw => hw.1) Tryd.underlying64 rfl HSZ.out) hS ?_
        try simp only [Act.put, List.setIfInBounds_toArray, List.set_cons_zero, List.set_cons_succ]
        refine wpAnyH_take (i := 9) (oi := ⟨some 32, _, _, _, _, some (4, true)⟩) (v := ?_) rfl (by kernel_rfl) (by kernel_rfl) (by kernel_rfl) (fun c _ w h => HQP.out c _ _ _ w h) (Or.inl ⟨by rfl, ?v9⟩) hS ?_
        case v9 => (intro w hSw; (try dsimp only at hSw); obtain ⟨s0, s1⟩ := hSw; go_simp; try with_reducible rfl)
        try simp only [Act.put, List.setIfInBounds_toArray, List.set_cons_zero, List.set_cons_succ]
        refine wpAnyH_take (i := 10) (oi := ⟨some 33, _, _, _, _, some (4, true)⟩) (v := ?_) rfl (by kernel_rfl) (by kernel_rfl) (by kernel_rfl) (fun c _ w h => HQP.out c _ _ _ w h) (Or.inl ⟨by rfl, ?v10⟩) hS ?_
        case v10 => (intro w hSw; (try dsimp only at hSw); obtain ⟨s0, s1⟩ := hSw; go_simp; try with_reducible rfl)
        try simp only [Act.put, List.setIfInBounds_toArray, List.set_cons_zero, List.set_cons_succ]
        refine wpAnyH_take (i := 11) (oi := ⟨some 34, _, _, _, _, some (4, true)⟩) (v := ?_) rfl (by kernel_rfl) (by kernel_rfl) (by kernel_rfl) (fun c _ w h => HQP.out c _ _ _ w h) (Or.inl ⟨by rfl, ?v11⟩) hS ?_
        case v11 => (intro w hSw; (try dsimp only at hSw); obtain ⟨s0, s1⟩ := hSw; go_simp; try with_reducible rfl)
        try simp only [Act.put, List.setIfInBounds_toArray, List.set_cons_zero, List.set_cons_succ]
        refine wpAnyH_take (i := 12) (oi := ⟨some 35, _, _, _, _, some (4, true)⟩) (v := .agg f.cells.toArray) rfl (by kernel_rfl) (by kernel_rfl) (by kernel_rfl) (fun c _ w h => HQP.out c _ _ _ w h) (yieldsIf_load_mid (by rfl) 64 (.tmp 34) rfl b2 (off + j * 36) rfl _ _ (fun w hw => hw.2) Tryd.underlying64 rfl HSZ.out) hS ?_
        try simp only [Act.put, List.setIfInBounds_toArray, List.set_cons_zero, List.set_cons_succ]
        refine wpAnyH_take (i := 13) (oi := ⟨some 36, _, _, _, _, some (4, true)⟩) (v := .bool true) rfl (by kernel_rfl) (by kernel_rfl) (by kernel_rfl) (fun c _ w h => HQP.out c _ _ _ w h) (yieldsIf_eql_agg (by rfl) 64 64 (.tmp 31) (.tmp 35) rfl f.cells.toArray f.cells.toArray rfl rfl (by kernel_rfl) true HEQ.out) hS ?_
        try simp only [Act.put, List.setIfInBounds_toArray, List.set_cons_zero, List.set_cons_succ]
        refine wpAnyH_take (i := 14) (oi := ⟨some 37, _, _, _, _, some (4, true)⟩) (v := ?_) rfl (by kernel_rfl) (by kernel_rfl) (by kernel_rfl) (fun c _ w h => HQP.out c _ _ _ w h) (Or.inl ⟨by rfl, ?v14⟩) hS ?_
        case v14 => (intro w hSw; (try dsimp only at hSw); obtain ⟨s0, s1⟩ := hSw; go_simp; try with_reducible rfl)
        try simp only [Act.put, List.setIfInBounds_toArray, List.set_cons_zero, List.set_cons_succ]
        refine wpAnyH_take (i := 15) (oi := ⟨some 38, _, _, _, _, none⟩) (v := ?_) rfl (by kernel_rfl) (by kernel_rfl) (by kernel_rfl) (fun c _ w h => HQP.out c _ _ _ w h) (Or.inl ⟨by rfl, ?v15⟩) hS ?_
        case v15 => (intro w hSw; (try dsimp only at hSw); obtain ⟨s0, s1⟩ := hSw; go_simp; try with_reducible rfl)
        try simp only [Act.put, List.setIfInBounds_toArray, List.set_cons_zero, List.set_cons_succ]
        refine wpAnyH_take (i := 16) (oi := ⟨some 39, _, _, _, _, none⟩) (v := ?_) rfl (by kernel_rfl) (by kernel_rfl) (by kernel_rfl) (fun c _ w h => HQP.out c _ _ _ w h) (Or.inl ⟨by rfl, ?v16⟩) hS ?_
        case v16 => (intro w hSw; (try dsimp only at hSw); obtain ⟨s0, s1⟩ := hSw; go_simp; try with_reducible rfl)
        try simp only [Act.put, List.setIfInBounds_toArray, List.set_cons_zero, List.set_cons_succ]
        refine wpAnyH_take (i := 17) (oi := ⟨some 40, _, _, _, _, some (16, false)⟩) (v := ?_) rfl (by kernel_rfl) (by kernel_rfl) (by kernel_rfl) (fun c _ w h => HQP.out c _ _ _ w h) (Or.inl ⟨by rfl, ?v17⟩) hS ?_
        case v17 => (intro w hSw; (try dsimp only at hSw); obtain ⟨s0, s1⟩ := hSw; go_simp; try with_reducible rfl)
        try simp only [Act.put, List.setIfInBounds_toArray, List.set_cons_zero, List.set_cons_succ]
        refine wpAnyH_take (i := 18) (oi := ⟨some 41, _, _, _, _, some (16, false)⟩) (v := ?_) rfl (by kernel_rfl) (by kernel_rfl) (by kernel_rfl) (fun c _ w h => HQP.out c _ _ _ w h) (Or.inl ⟨by rfl, ?v18⟩) hS ?_
        case v18 => (intro w hSw; (try dsimp only at hSw); obtain ⟨s0, s1⟩ := hSw; go_simp; try with_reducible rfl)
        try simp only [Act.put, List.setIfInBounds_toArray, List.set_cons_zero, List.set_cons_succ]
        refine wpAnyH_take (i := 19) (oi := ⟨some 42, _, _, _, _, some (16, false)⟩) (v := ?_) rfl (by kernel_rfl) (by kernel_rfl) (by kernel_rfl) (fun c _ w h => HQP.out c _ _ _ w h) (Or.inl ⟨by rfl, ?v19⟩) hS ?_
        case v19 => (intro w hSw; (try dsimp only at hSw); obtain ⟨s0, s1⟩ := hSw; go_simp; try with_reducible rfl)
        try simp only [Act.put, List.setIfInBounds_toArray, List.set_cons_zero, List.set_cons_succ]
        refine wpAnyH_take (i := 20) (oi := ⟨some 43, _, _, _, _, some (16, false)⟩) (v := ?_) rfl (by kernel_rfl) (by kernel_rfl) (by kernel_rfl) (fun c _ w h => HQP.out c _ _ _ w h) (Or.inl ⟨by rfl, ?v20⟩) hS ?_
        case v20 => (intro w hSw; (try dsimp only at hSw); obtain ⟨s0, s1⟩ := hSw; go_simp; try with_reducible rfl)
        try simp only [Act.put, List.setIfInBounds_toArray, List.set_cons_zero, List.set_cons_succ]
        refine wpAnyH_take (i := 21) (oi := ⟨some 44, _, _, _, _, some (16, false)⟩) (v := ?_) rfl (by kernel_rfl) (by kernel_rfl) (by kernel_rfl) (fun c _ w h => HQP.out c _ _ _ w h) (Or.inl ⟨by rfl, ?v21⟩) hS ?_
        case v21 => (intro w hSw; (try dsimp only at hSw); obtain ⟨s0, s1⟩ := hSw; go_simp; try with_reducible rfl)
        try simp only [Act.put, List.setIfInBounds_toArray, List.set_cons_zero, List.set_cons_succ]
        refine wpAnyH_take (i := 22) (oi := ⟨some 45, _, _, _, _, some (21, true)⟩) (v := undef) rfl (by kernel_rfl) (by kernel_rfl) (by kernel_rfl) (fun c _ w h => HQP.out c _ _ _ w h) (Or.inr ⟨by rfl, rfl⟩) hS ?_
        try simp only [Act.put, List.setIfInBounds_toArray, List.set_cons_zero, List.set_cons_succ]
        refine wpAnyH_take (i := 23) (oi := ⟨some 46, _, _, _, _, some (21, true)⟩) (v := undef) rfl (by kernel_rfl) (by kernel_rfl) (by kernel_rfl) (fun c _ w h => HQP.out c _ _ _ w h) (Or.inr ⟨by rfl, rfl⟩) hS ?_
        try simp only [Act.put, List.setIfInBounds_toArray, List.set_cons_zero, List.set_cons_succ]
        refine wpAnyH_take (i := 24) (oi := ⟨some 47, _, _, _, _, some (21, true)⟩) (v := undef) rfl (by kernel_rfl) (by kernel_rfl) (by kernel_rfl) (fun c _ w h => HQP.out c _ _ _ w h) (Or.inr ⟨by rfl, rfl⟩) hS ?_
        try simp only [Act.put, List.setIfInBounds_toArray, List.set_cons_zero, List.set_cons_succ]
        refine wpAnyH_take (i := 25) (oi := ⟨some 48, _, _, _, _, some (21, true)⟩) (v := undef) rfl (by kernel_rfl) (by kernel_rfl) (by kernel_rfl) (fun c _ w h => HQP.out c _ _ _ w h) (Or.inr ⟨by rfl, rfl⟩) hS ?_
        try simp only [Act.put, List.setIfInBounds_toArray, List.set_cons_zero, List.set_cons_succ]
        refine wpAnyH_take (i := 26) (oi := ⟨some 49, _, _, _, _, some (21, true)⟩) (v := undef) rfl (by kernel_rfl) (by kernel_rfl) (by kernel_rfl) (fun c _ w h => HQP.out c _ _ _ w h) (Or.inr ⟨by rfl, rfl⟩) hS ?_
        try simp only [Act.put, List.setIfInBounds_toArray, List.set_cons_zero, List.set_cons_succ]
        refine wpAnyH_take (i := 27) (oi := ⟨some 50, _, _, _, _, some (21, true)⟩) (v := undef) rfl (by kernel_rfl) (by kernel_rfl) (by kernel_rfl) (fun c _ w h => HQP.out c _ _ _ w h) (Or.inr ⟨by rfl, rfl⟩) hS ?_
        try simp only [Act.put, List.setIfInBounds_toArray, List.set_cons_zero, List.set_cons_succ]
        refine wpAnyH_take (i := 28) (oi := ⟨some 51, _, _, _, _, some (21, true)⟩) (v := undef) rfl (by kernel_rfl) (by kernel_rfl) (by kernel_rfl) (fun c _ w h => HQP.out c _ _ _ w h) (Or.inr ⟨by rfl, rfl⟩) hS ?_
        try simp only [Act.put, List.setIfInBounds_toArray, List.set_cons_zero, List.set_cons_succ]
        refine wpAnyH_take (i := 29) (oi := ⟨some 52, _, _, _, _, some (21, true)⟩) (v := undef) rfl (by kernel_rfl) (by kernel_rfl) (by kernel_rfl) (fun c _ w h => HQP.out c _ _ _ w h) (Or.inr ⟨by rfl, rfl⟩) hS ?_
        try simp only [Act.put, List.setIfInBounds_toArray, List.set_cons_zero, List.set_cons_succ]
        refine wpAnyH_take (i := 30) (oi := ⟨some 53, _, _, _, _, some (21, true)⟩) (v := undef) rfl (by kernel_rfl) (by kernel_rfl) (by kernel_rfl) (fun c _ w h => HQP.out c _ _ _ w h) (Or.inr ⟨by rfl, rfl⟩) hS ?_
        try simp only [Act.put, List.setIfInBounds_toArray, List.set_cons_zero, List.set_cons_succ]
        refine wpAnyH_take (i := 31) (oi := ⟨some 54, _, _, _, _, some (21, true)⟩) (v := undef) rfl (by kernel_rfl) (by kernel_rfl) (by kernel_rfl) (fun c _ w h => HQP.out c _ _ _ w h) (Or.inr ⟨by rfl, rfl⟩) hS ?_
        try simp only [Act.put, List.setIfInBounds_toArray, List.set_cons_zero, List.set_cons_succ]
        refine wpAnyH_take (i := 32) (oi := ⟨some 55, _, _, _, _, some (21, true)⟩) (v := undef) rfl (by kernel_rfl) (by kernel_rfl) (by kernel_rfl) (fun c _ w h => HQP.out c _ _ _ w h) (Or.inr ⟨by rfl, rfl⟩) hS ?_
        try simp only [Act.put, List.setIfInBounds_toArray, List.set_cons_zero, List.set_cons_succ]
        refine wpAnyH_take (i := 33) (oi := ⟨some 56, _, _, _, _, some (16, false)⟩) (v := ?_) rfl (by kernel_rfl) (by kernel_rfl) (by kernel_rfl) (fun c _ w h => HQP.out c _ _ _ w h) (Or.inl ⟨by rfl, ?v33⟩) hS ?_
        case v33 => (intro w hSw; (try dsimp only at hSw); obtain ⟨s0, s1⟩ := hSw; go_simp; try with_reducible rfl)
        try simp only [Act.put, List.setIfInBounds_toArray, List.set_cons_zero, List.set_cons_succ]
        refine wpAnyH_take (i := 34) (oi := ⟨some 57, _, _, _, _, none⟩) (v := ?_) rfl (by kernel_rfl) (by kernel_rfl) (by kernel_rfl) (fun c _ w h => HQP.out c _ _ _ w h) (Or.inl ⟨by rfl, ?v34⟩) hS ?_
        case v34 => (intro w hSw; (try dsimp only at hSw); obtain ⟨s0, s1⟩ := hSw; go_simp; try with_reducible rfl)
        try simp only [Act.put, List.setIfInBounds_toArray, List.set_cons_zero, List.set_cons_succ]
        refine wpAnyH_done (by kernel_rfl) ?_ _
        refine HQN.out _ _ ?_
        clear HQP HQN hS
        have HBD : Hid (Below W.heap.size W (wr.drewN 1)) := below_drewN HB.out 1
        go_wp2
        go_roundw
        case rel => exact ⟨j + 1, by omega, by go_num, HBD.out⟩
        case measure => simp [intOf]; omega
      · have hj12 : j - xs.length < 12 := by omega
        have hfe : (xs ++ marksF 12)[j]'(by rw [List.length_append, marksF_length]; exact hlt) = mFre 1 ((j : Int) - (xs.length : Int)) := by
          have e1 : (xs ++ marksF 12)[j]? = some (mFre 1 ((j - xs.length : Nat) : Int)) := by rw [List.getElem?_append_right (by omega)]; exact marksF_at hj12
          rw [List.getElem?_eq_getElem (by rw [List.length_append, marksF_length]; exact hlt)] at e1
          rw [Option.some.inj e1]
          congr 1
          omega
        have hwf : (mFre 1 ((j : Int) - (xs.length : Int))).wf := mFre_wf _ _ (by omega) (by omega) (by omega) (by omega)
        rw [hfe] at hi
        obtain ⟨f, hf⟩ : ∃ f, f = mFre 1 ((j : Int) - (xs.length : Int)) := ⟨_, rfl⟩
        rw [← hf] at hi hwf
        have HI := Lib.hid hi
        have HEQ := Lib.hid (eq64 hwf)
        have HFE := Lib.hid hf
        have HSZ : Hid ((Tryd.prog.info? 64).map (·.size) = some f.cells.length) := by simp only [Hid]; rw [hwf.len]; exact size64'
        have z2 : (xs.length : Int) ≤ (j : Int) := by omega
        have d1 : decide ((j : Int) < (xs.length : Int)) = false := decide_eq_false (by omega)
        have d2 : decide ((xs.length : Int) ≤ (j : Int)) = true := decide_eq_true z2
        have d3 : decide (j < xs.length) = false := decide_eq_false hin
        have d4 : decide (xs.length ≤ j) = true := decide_eq_true (by omega)
        clear hat hi hwf hf hfe
        go_upto_region 7 with fail
        refine wp_region_gen (S := fun w' => w'.rangeAt b (j * 36) f.cells ∧ True) (by kernel_rfl) (fun _ _ _ _ _ h => h) ?_
        intro Q' HQP HQN
        change wpAnyH _ _ _ _ _ _ _ _ (wr.drewN 1)
        have hS : (fun w' : World => w'.rangeAt b (j * 36) f.cells ∧ True) (wr.drewN 1) := ⟨HI.out, trivial⟩
        refine wpAnyH_take (i := 0) (oi := ⟨some 23, _, _, _, _, none⟩) (v := ?_) rfl (by kernel_rfl) (by kernel_rfl) (by kernel_rfl) (fun c _ w h => HQP.out c _ _ _ w h) (Or.inl ⟨by rfl, ?v0⟩) hS ?_
        case v0 => (intro w hSw; (try dsimp only at hSw); obtain ⟨s0, s1⟩ := hSw; go_simp; try with_reducible rfl)
        try simp only [Act.put, List.setIfInBounds_toArray, List.set_cons_zero, List.set_cons_succ]
        refine wpAnyH_take (i := 1) (oi := ⟨some 24, _, _, _, _, none⟩) (v := ?_) rfl (by kernel_rfl) (by kernel_rfl) (by kernel_rfl) (fun c _ w h => HQP.out c _ _ _ w h) (Or.inl ⟨by rfl, ?v1⟩) hS ?_
        case v1 => (intro w hSw; (try dsimp only at hSw); obtain ⟨s0, s1⟩ := hSw; go_simp; try with_reducible rfl)
        try simp only [Act.put, List.setIfInBounds_toArray, List.set_cons_zero, List.set_cons_succ]
        refine wpAnyH_take (i := 2) (oi := ⟨some 25, _, _, _, _, none⟩) (v := ?_) rfl (by kernel_rfl) (by kernel_rfl) (by kernel_rfl) (fun c _ w h => HQP.out c _ _ _ w h) (Or.inl ⟨by rfl, ?v2⟩) hS ?_
        case v2 => (intro w hSw; (try dsimp only at hSw); obtain ⟨s0, s1⟩ := hSw; go_simp; try with_reducible rfl)
        try simp only [Act.put, List.setIfInBounds_toArray, List.set_cons_zero, List.set_cons_succ]
        refine wpAnyH_take (i := 3) (oi := ⟨some 26, _, _, _, _, none⟩) (v := ?_) rfl (by kernel_rfl) (by kernel_rfl) (by kernel_rfl) (fun c _ w h => HQP.out c _ _ _ w h) (Or.inl ⟨by rfl, ?v3⟩) hS ?_
        case v3 => (intro w hSw; (try dsimp only at hSw); obtain ⟨s0, s1⟩ := hSw; go_simp; try with_reducible rfl)
        try simp only [Act.put, List.setIfInBounds_toArray, List.set_cons_zero, List.set_cons_succ]
        refine wpAnyH_take (i := 4) (oi := ⟨some 27, _, _, _, _, none⟩) (v := ?_) rfl (by kernel_rfl) (by kernel_rfl) (by kernel_rfl) (fun c _ w h => HQP.out c _ _ _ w h) (Or.inl ⟨by rfl, ?v4⟩) hS ?_
        case v4 => (intro w hSw; (try dsimp only at hSw); obtain ⟨s0, s1⟩ := hSw; go_simp; try with_reducible rfl)
        try simp only [Act.put, List.setIfInBounds_toArray, List.set_cons_zero, List.set_cons_succ]
        refine wpAnyH_take (i := 5) (oi := ⟨some 28, _, _, _, _, some (4, true)⟩) (v := undef) rfl (by kernel_rfl) (by kernel_rfl) (by kernel_rfl) (fun c _ w h => HQP.out c _ _ _ w h) (Or.inr ⟨by rfl, rfl⟩) hS ?_
        try simp only [Act.put, List.setIfInBounds_toArray, List.set_cons_zero, List.set_cons_succ]
        refine wpAnyH_take (i := 6) (oi := ⟨some 29, _, _, _, _, some (4, true)⟩) (v := undef) rfl (by kernel_rfl) (by kernel_rfl) (by kernel_rfl) (fun c _ w h => HQP.out c _ _ _ w h) (Or.inr ⟨by rfl, rfl⟩) hS ?_
        try simp only [Act.put, List.setIfInBounds_toArray, List.set_cons_zero, List.set_cons_succ]
        refine wpAnyH_take (i := 7) (oi := ⟨some 30, _, _, _, _, some (4, true)⟩) (v := undef) rfl (by kernel_rfl) (by kernel_rfl) (by kernel_rfl) (fun c _ w h => HQP.out c _ _ _ w h) (Or.inr ⟨by rfl, rfl⟩) hS ?_
        try simp only [Act.put, List.setIfInBounds_toArray, List.set_cons_zero, List.set_cons_succ]
        refine wpAnyH_take (i := 8) (oi := ⟨some 31, _, _, _, _, some (4, true)⟩) (v := undef) rfl (by kernel_rfl) (by kernel_rfl) (by kernel_rfl) (fun c _ w h => HQP.out c _ _ _ w h) (Or.inr ⟨by rfl, rfl⟩) hS ?_
        try simp only [Act.put, List.setIfInBounds_toArray, List.set_cons_zero, List.set_cons_succ]
        refine wpAnyH_take (i := 9) (oi := ⟨some 32, _, _, _, _, some (4, true)⟩) (v := undef) rfl (by kernel_rfl) (by kernel_rfl) (by kernel_rfl) (fun c _ w h => HQP.out c _ _ _ w h) (Or.inr ⟨by rfl, rfl⟩) hS ?_
        try simp only [Act.put, List.setIfInBounds_toArray, List.set_cons_zero, List.set_cons_succ]
        refine wpAnyH_take (i := 10) (oi := ⟨some 33, _, _, _, _, some (4, true)⟩) (v := undef) rfl (by kernel_rfl) (by kernel_rfl) (by kernel_rfl) (fun c _ w h => HQP.out c _ _ _ w h) (Or.inr ⟨by rfl, rfl⟩) hS ?_
        try simp only [Act.put, List.setIfInBounds_toArray, List.set_cons_zero, List.set_cons_succ]
        refine wpAnyH_take (i := 11) (oi := ⟨some 34, _, _, _, _, some (4, true)⟩) (v := undef) rfl (by kernel_rfl) (by kernel_rfl) (by kernel_rfl) (fun c _ w h => HQP.out c _ _ _ w h) (Or.inr ⟨by rfl, rfl⟩) hS ?_
        try simp only [Act.put, List.setIfInBounds_toArray, List.set_cons_zero, List.set_cons_succ]
        refine wpAnyH_take (i := 12) (oi := ⟨some 35, _, _, _, _, some (4, true)⟩) (v := undef) rfl (by kernel_rfl) (by kernel_rfl) (by kernel_rfl) (fun c _ w h => HQP.out c _ _ _ w h) (Or.inr ⟨by rfl, rfl⟩) hS ?_
        try simp only [Act.put, List.setIfInBounds_toArray, List.set_cons_zero, List.set_cons_succ]
        refine wpAnyH_take (i := 13) (oi := ⟨some 36, _, _, _, _, some (4, true)⟩) (v := undef) rfl (by kernel_rfl) (by kernel_rfl) (by kernel_rfl) (fun c _ w h => HQP.out c _ _ _ w h) (Or.inr ⟨by rfl, rfl⟩) hS ?_
        try simp only [Act.put, List.setIfInBounds_toArray, List.set_cons_zero, List.set_cons_succ]
        refine wpAnyH_take (i := 14) (oi := ⟨some 37, _, _, _, _, some (4, true)⟩) (v := undef) rfl (by kernel_rfl) (by kernel_rfl) (by kernel_rfl) (fun c _ w h => HQP.out c _ _ _ w h) (Or.inr ⟨by rfl, rfl⟩) hS ?_
        try simp only [Act.put, List.setIfInBounds_toArray, List.set_cons_zero, List.set_cons_succ]
        refine wpAnyH_take (i := 15) (oi := ⟨some 38, _, _, _, _, none⟩) (v := ?_) rfl (by kernel_rfl) (by kernel_rfl) (by kernel_rfl) (fun c _ w h => HQP.out c _ _ _ w h) (Or.inl ⟨by rfl, ?v15⟩) hS ?_
        case v15 => (intro w hSw; (try dsimp only at hSw); obtain ⟨s0, s1⟩ := hSw; go_simp; try with_reducible rfl)
        try simp only [Act.put, List.setIfInBounds_toArray, List.set_cons_zero, List.set_cons_succ]
        refine wpAnyH_take (i := 16) (oi := ⟨some 39, _, _, _, _, none⟩) (v := ?_) rfl (by kernel_rfl) (by kernel_rfl) (by kernel_rfl) (fun c _ w h => HQP.out c _ _ _ w h) (Or.inl ⟨by rfl, ?v16⟩) hS ?_
        case v16 => (intro w hSw; (try dsimp only at hSw); obtain ⟨s0, s1⟩ := hSw; go_simp; try with_reducible rfl)
        try simp only [Act.put, List.setIfInBounds_toArray, List.set_cons_zero, List.set_cons_succ]
        refine wpAnyH_take (i := 17) (oi := ⟨some 40, _, _, _, _, some (16, false)⟩) (v := ?_) rfl (by kernel_rfl) (by kernel_rfl) (by kernel_rfl) (fun c _ w h => HQP.out c _ _ _ w h) (Or.inl ⟨by rfl, ?v17⟩) hS ?_
        case v17 => (intro w hSw; (try dsimp only at hSw); obtain ⟨s0, s1⟩ := hSw; go_simp; try with_reducible rfl)
        try simp only [Act.put, List.setIfInBounds_toArray, List.set_cons_zero, List.set_cons_succ]
        refine wpAnyH_take (i := 18) (oi := ⟨some 41, _, _, _, _, some (16, false)⟩) (v := ?_) rfl (by kernel_rfl) (by kernel_rfl) (by kernel_rfl) (fun c _ w h => HQP.out c _ _ _ w h) (Or.inl ⟨by rfl, ?v18⟩) hS ?_
        case v18 => (intro w hSw; (try dsimp only at hSw); obtain ⟨s0, s1⟩ := hSw; go_simp; try with_reducible rfl)
        try simp only [Act.put, List.setIfInBounds_toArray, List.set_cons_zero, List.set_cons_succ]
        refine wpAnyH_take (i := 19) (oi := ⟨some 42, _, _, _, _, some (16, false)⟩) (v := ?_) rfl (by kernel_rfl) (by kernel_rfl) (by kernel_rfl) (fun c _ w h => HQP.out c _ _ _ w h) (Or.inl ⟨by rfl, ?v19⟩) hS ?_
        case v19 => (intro w hSw; (try dsimp only at hSw); obtain ⟨s0, s1⟩ := hSw; go_simp; try with_reducible rfl)
        try simp only [Act.put, List.setIfInBounds_toArray, List.set_cons_zero, List.set_cons_succ]
        refine wpAnyH_take (i := 20) (oi := ⟨some 43, _, _, _, _, some (16, false)⟩) (v := ?_) rfl (by kernel_rfl) (by kernel_rfl) (by kernel_rfl) (fun c _ w h => HQP.out c _ _ _ w h) (Or.inl ⟨by rfl, ?v20⟩) hS ?_
        case v20 => (intro w hSw; (try dsimp only at hSw); obtain ⟨s0, s1⟩ := hSw; go_simp; try with_reducible rfl)
        try simp only [Act.put, List.setIfInBounds_toArray, List.set_cons_zero, List.set_cons_succ]
        refine wpAnyH_take (i := 21) (oi := ⟨some 44, _, _, _, _, some (16, false)⟩) (v := ?_) rfl (by kernel_rfl) (by kernel_rfl) (by kernel_rfl) (fun c _ w h => HQP.out c _ _ _ w h) (Or.inl ⟨by rfl, ?v21⟩) hS ?_
        case v21 => (intro w hSw; (try dsimp only at hSw); obtain ⟨s0, s1⟩ := hSw; go_simp; try with_reducible rfl)
        try simp only [Act.put, List.setIfInBounds_toArray, List.set_cons_zero, List.set_cons_succ]
        refine wpAnyH_take (i := 22) (oi := ⟨some 45, _, _, _, _, some (21, true)⟩) (v := ?_) rfl (by kernel_rfl) (by kernel_rfl) (by kernel_rfl) (fun c _ w h => HQP.out c _ _ _ w h) (Or.inl ⟨by rfl, ?v22⟩) hS ?_
        case v22 => (intro w hSw; (try dsimp only at hSw); obtain ⟨s0, s1⟩ := hSw; go_simp; try with_reducible rfl)
        try simp only [Act.put, List.setIfInBounds_toArray, List.set_cons_zero, List.set_cons_succ]
        refine wpAnyH_take (i := 23) (oi := ⟨some 46, _, _, _, _, some (21, true)⟩) (v := ?_) rfl (by kernel_rfl) (by kernel_rfl) (by kernel_rfl) (fun c _ w h => HQP.out c _ _ _ w h) (Or.inl ⟨by rfl, ?v23⟩) hS ?_
        case v23 => (intro w hSw; (try dsimp only at hSw); obtain ⟨s0, s1⟩ := hSw; go_simp; try with_reducible rfl)
        try simp only [Act.put, List.setIfInBounds_toArray, List.set_cons_zero, List.set_cons_succ]
        refine wpAnyH_take (i := 24) (oi := ⟨some 47, _, _, _, _, some (21, true)⟩) (v := ?_) rfl (by kernel_rfl) (by kernel_rfl) (by kernel_rfl) (fun c _ w h => HQP.out c _ _ _ w h) (Or.inl ⟨by rfl, ?v24⟩) hS ?_
        case v24 => (intro w hSw; (try dsimp only at hSw); obtain ⟨s0, s1⟩ := hSw; go_simp; try with_reducible rfl)
        try simp only [Act.put, List.setIfInBounds_toArray, List.set_cons_zero, List.set_cons_succ]
        refine wpAnyH_take (i := 25) (oi := ⟨some 48, _, _, _, _, some (21, true)⟩) (v := .agg f.cells.toArray) rfl (by kernel_rfl) (by kernel_rfl) (by kernel_rfl) (fun c _ w h => HQP.out c _ _ _ w h) (yieldsIf_load_mid (by rfl) 64 (.tmp 47) rfl b (j * 36) rfl _ _ (fun w hw => hw.1) Tryd.underlying64 rfl HSZ.out) hS ?_
        try simp only [Act.put, List.setIfInBounds_toArray, List.set_cons_zero, List.set_cons_succ]
        refine wpAnyH_take (i := 26) (oi := ⟨some 49, _, _, _, _, some (21, true)⟩) (v := ?_) rfl (by kernel_rfl) (by kernel_rfl) (by kernel_rfl) (fun c _ w h => HQP.out c _ _ _ w h) (Or.inl ⟨by rfl, ?v26⟩) hS ?_
        case v26 => (intro w hSw; (try dsimp only at hSw); obtain ⟨s0, s1⟩ := hSw; go_simp; try with_reducible rfl)
        try simp only [Act.put, List.setIfInBounds_toArray, List.set_cons_zero, List.set_cons_succ]
        refine wpAnyH_take (i := 27) (oi := ⟨some 50, _, _, _, _, some (21, true)⟩) (v := ?_) rfl (by kernel_rfl) (by kernel_rfl) (by kernel_rfl) (fun c _ w h => HQP.out c _ _ _ w h) (Or.inl ⟨by rfl, ?v27⟩) hS ?_
        case v27 => (intro w hSw; (try dsimp only at hSw); obtain ⟨s0, s1⟩ := hSw; go_simp; try with_reducible rfl)
        try simp only [Act.put, List.setIfInBounds_toArray, List.set_cons_zero, List.set_cons_succ]
        refine wpAnyH_take (i := 28) (oi := ⟨some 51, _, _, _, _, some (21, true)⟩) (v := ?_) rfl (by kernel_rfl) (by kernel_rfl) (by kernel_rfl) (fun c _ w h => HQP.out c _ _ _ w h) (Or.inl ⟨by rfl, ?v28⟩) hS ?_
        case v28 => (intro w hSw; (try dsimp only at hSw); obtain ⟨s0, s1⟩ := hSw; go_simp; try with_reducible rfl)
        try simp only [Act.put, List.setIfInBounds_toArray, List.set_cons_zero, List.set_cons_succ]
        refine wpAnyH_take (i := 29) (oi := ⟨some 52, _, _, _, _, some (21, true)⟩) (v := ?_) rfl (by kernel_rfl) (by kernel_rfl) (by kernel_rfl) (fun c _ w h => HQP.out c _ _ _ w h) (Or.inl ⟨by rfl, ?v29⟩) hS ?_
        case v29 => (intro w hSw; (try dsimp only at hSw); obtain ⟨s0, s1⟩ := hSw; go_simp; try with_reducible rfl)
        try simp only [Act.put, List.setIfInBounds_toArray, List.set_cons_zero, List.set_cons_succ]
        refine wpAnyH_ready (rs := [30]) (by kernel_rfl) (by simp) ?_
        refine AllReadyH.cons (o := ⟨some 53, _, _, _, _, some (21, true)⟩) rfl (fun KQ hK => ?_) AllReadyH.nil
        rw [if_pos (by rfl)]
        go_wp2_with fail
        refine (markFresh_any 1 ((j : Int) - (xs.length : Int)) (wr.drewN 1) (by omega) (by omega) (by omega) (by omega)).mono ?_
        rintro e w2 ⟨rfl, qq⟩
        have HQ2 := Lib.hid qq
        have HI3 : Hid (w2.rangeAt b (j * 36) f.cells) := (fun k v hk => pw_cell_below qq (HI.out k v hk))
        clear qq
        rw [← HFE.out]
        go_wp2_with fail
        clear hS
        have hS : (fun w' : World => w'.rangeAt b (j * 36) f.cells ∧ True) (w2) := ⟨HI3.out, trivial⟩
        refine hK.out _ _ hS (fun _ => ?_)
        try simp only [Act.put, List.setIfInBounds_toArray, List.set_cons_zero, List.set_cons_succ]
        refine wpAnyH_take (i := 31) (oi := ⟨some 54, _, _, _, _, some (21, true)⟩) (v := .bool true) rfl (by kernel_rfl) (by kernel_rfl) (by kernel_rfl) (fun c _ w h => HQP.out c _ _ _ w h) (yieldsIf_eql_agg (by rfl) 64 64 (.tmp 48) (.tmp 53) rfl f.cells.toArray f.cells.toArray rfl rfl (by kernel_rfl) true HEQ.out) hS ?_
        try simp only [Act.put, List.setIfInBounds_toArray, List.set_cons_zero, List.set_cons_succ]
        refine wpAnyH_take (i := 32) (oi := ⟨some 55, _, _, _, _, some (21, true)⟩) (v := ?_) rfl (by kernel_rfl) (by kernel_rfl) (by kernel_rfl) (fun c _ w h => HQP.out c _ _ _ w h) (Or.inl ⟨by rfl, ?v32⟩) hS ?_
        case v32 => (intro w hSw; (try dsimp only at hSw); obtain ⟨s0, s1⟩ := hSw; go_simp; try with_reducible rfl)
        try simp only [Act.put, List.setIfInBounds_toArray, List.set_cons_zero, List.set_cons_succ]
        refine wpAnyH_take (i := 33) (oi := ⟨some 56, _, _, _, _, some (16, false)⟩) (v := ?_) rfl (by kernel_rfl) (by kernel_rfl) (by kernel_rfl) (fun c _ w h => HQP.out c _ _ _ w h) (Or.inl ⟨by rfl, ?v33⟩) hS ?_
        case v33 => (intro w hSw; (try dsimp only at hSw); obtain ⟨s0, s1⟩ := hSw; go_simp; try with_reducible rfl)
        try simp only [Act.put, List.setIfInBounds_toArray, List.set_cons_zero, List.set_cons_succ]
        refine wpAnyH_take (i := 34) (oi := ⟨some 57, _, _, _, _, none⟩) (v := ?_) rfl (by kernel_rfl) (by kernel_rfl) (by kernel_rfl) (fun c _ w h => HQP.out c _ _ _ w h) (Or.inl ⟨by rfl, ?v34⟩) hS ?_
        case v34 => (intro w hSw; (try dsimp only at hSw); obtain ⟨s0, s1⟩ := hSw; go_simp; try with_reducible rfl)
        try simp only [Act.put, List.setIfInBounds_toArray, List.set_cons_zero, List.set_cons_succ]
        refine wpAnyH_done (by kernel_rfl) ?_ _
        refine HQN.out _ _ ?_
        clear HQP HQN hS
        have HBD : Hid (Below W.heap.size W w2) := (below_drewN HB.out 1).trans (HQ2.out.mono HB.out.size)
        go_wp2
        go_roundw
        case rel => exact ⟨j + 1, by omega, by go_num, HBD.out⟩
        case measure => simp [intOf]; omega
    · have z1 : ¬ (j : Int) < (xs.length : Int) + 12 := by omega
      go_wp2
      go_ret
      exact ⟨rfl, HB.out⟩

set_option maxHeartbeats 4000000 in
set_option maxRecDepth 100000 in
theorem keptP_any (B b : Nat) (v : Value) (xs : List Pu) (W : World) (h : IsLentP W B b xs) (hv : RdsP W v xs) (hl : xs.length ≤ 1000000) :
    Calls Tryd.prog 37 #[.slice (some ⟨b, 0, none⟩) xs.length (xs.length + 12), v] W fun e W' => e = .returned (.bool true) ∧ Below W.heap.size W W' := by
  obtain ⟨A2, c2, rfl, q1, q2⟩ := hv.form
  have HH := Lib.hid h
  have HV := Lib.hid hv
  clear h hv
  have b0 : Hid (Below W.heap.size W W) := Below.refl _ _
  have t1 : (xs.length : Int) + 12 ≤ ((xs.length + 12 : Nat) : Int) := by omega
  go_enter Tryd.func37, Tryd.ntmps37
  go_wp2_with fail
  go_loopw [6] (fun v6 wr => ∃ j : Nat, j ≤ xs.length + 12 ∧ v6 = .int .i64 (j : Int) ∧ Hid (Below W.heap.size W wr)) (fun v6 _ => xs.length + 12 - (intOf v6).toNat)
  case atStart => exact ⟨0, Nat.zero_le _, rfl, b0.out⟩
  case round =>
    obtain ⟨j, hj, rfl, HB⟩ := hrel
    by_cases hlt : j < xs.length + 12
    · have z0 : (0 : Int) ≤ (j : Int) := by omega
      have z1 : (j : Int) < (xs.length : Int) + 12 := by omega
      have hall := (HH.out.below HB.out).all.at_ (by rw [List.length_append, marksP_length]; omega)
      obtain ⟨b', off', e1, _, hat⟩ := hall
      injection e1 with e1
      injection e1 with e2 e3
      subst e2 e3
      have hi := hat j (by rw [List.length_append, marksP_length]; exact hlt)
      rw [Nat.zero_add] at hi
      by_cases hin : j < xs.length
      · obtain ⟨b2, off, rfl, _, hat2⟩ := (HV.out.below HB.out).at_ (by omega)
        have hi2 := hat2 j hin
        have hwf := HV.out.2 _ (List.getElem_mem hin)
        rw [List.getElem_append_left hin] at hi
        generalize xs[j] = f at hi hi2 hwf
        have HI := Lib.hid hi
        have HI2 := Lib.hid hi2
        have HEQ := Lib.hid (eq72 hwf)
        have HSZ : Hid ((Tryd.prog.info? 72).map (·.size) = some f.cells.length) := by simp only [Hid]; rw [hwf.len]; exact size72'
        have z2 : (j : Int) < (xs.length : Int) := by omega
        have d1 : decide ((j : Int) < (xs.length : Int)) = true := decide_eq_true z2
        have d2 : decide ((xs.length : Int) ≤ (j : Int)) = false := decide_eq_false (by omega)
        have d3 : decide (j < xs.length) = true := decide_eq_true hin
        have d4 : decide (xs.length ≤ j) = false := decide_eq_false (by omega)
        clear hat hat2 hi hi2 hwf
        go_upto_region 7 with fail
        refine wp_region_gen (S := fun w' => w'.rangeAt b (j * 35) f.cells ∧ w'.rangeAt b2 (off + j * 35) f.cells) (by kernel_rfl) (fun _ _ _ _ _ h => h) ?_
        intro Q' HQP HQN
        change wpAnyH _ _ _ _ _ _ _ _ (wr.drewN 1)
        have hS : (fun w' : World => w'.rangeAt b (j * 35) f.cells ∧ w'.rangeAt b2 (off + j * 35) f.cells) (wr.drewN 1) := ⟨HI.out, HI2.out⟩
        refine wpAnyH_take (i := 0) (oi := ⟨some 23, _, _, _, _, none⟩) (v := ?_) rfl (by kernel_rfl) (by kernel_rfl) (by kernel_rfl) (fun c _ w h => HQP.out c _ _ _ w h) (Or.inl ⟨by rfl, ?v0⟩) hS ?_
        case v0 => (intro w hSw; (try dsimp only at hSw); obtain ⟨s0, s1⟩ := hSw; go_simp; try with_reducible rfl)
        try simp only [Act.put, List.setIfInBounds_toArray, List.set_cons_zero, List.set_cons_succ]
        refine wpAnyH_take (i := 1) (oi := ⟨some 24, _, _, _, _, none⟩) (v := ?_) rfl (by kernel_rfl) (by kernel_rfl) (by kernel_rfl) (fun c _ w h => HQP.out c _ _ _ w h) (Or.inl ⟨by rfl, ?v1⟩) hS ?_
        case v1 => (intro w hSw; (try dsimp only at hSw); obtain ⟨s0, s1⟩ := hSw; go_simp; try with_reducible rfl)
        try simp only [Act.put, List.setIfInBounds_toArray, List.set_cons_zero, List.set_cons_succ]
        refine wpAnyH_take (i := 2) (oi := ⟨some 25, _, _, _, _, none⟩) (v := ?_) rfl (by kernel_rfl) (by kernel_rfl) (by kernel_rfl) (fun c _ w h => HQP.out c _ _ _ w h) (Or.inl ⟨by rfl, ?v2⟩) hS ?_
        case v2 => (intro w hSw; (try dsimp only at hSw); obtain ⟨s0, s1⟩ := hSw; go_simp; try with_reducible rfl)
        try simp only [Act.put, List.setIfInBounds_toArray, List.set_cons_zero, List.set_cons_succ]
        refine wpAnyH_take (i := 3) (oi := ⟨some 26, _, _, _, _, none⟩) (v := ?_) rfl (by kernel_rfl) (by kernel_rfl) (by kernel_rfl) (fun c _ w h => HQP.out c _ _ _ w h) (Or.inl ⟨by rfl, ?v3⟩) hS ?_
        case v3 => (intro w hSw; (try dsimp only at hSw); obtain ⟨s0, s1⟩ := hSw; go_simp; try with_reducible rfl)
        try simp only [Act.put, List.setIfInBounds_toArray, List.set_cons_zero, List.set_cons_succ]
        refine wpAnyH_take (i := 4) (oi := ⟨some 27, _, _, _, _, none⟩) (v := ?_) rfl (by kernel_rfl) (by kernel_rfl) (by kernel_rfl) (fun c _ w h => HQP.out c _ _ _ w h) (Or.inl ⟨by rfl, ?v4⟩) hS ?_
        case v4 => (intro w hSw; (try dsimp only at hSw); obtain ⟨s0, s1⟩ := hSw; go_simp; try with_reducible rfl)
        try simp only [Act.put, List.setIfInBounds_toArray, List.set_cons_zero, List.set_cons_succ]
        refine wpAnyH_take (i := 5) (oi := ⟨some 28, _, _, _, _, some (4, true)⟩) (v := ?_) rfl (by kernel_rfl) (by kernel_rfl) (by kernel_rfl) (fun c _ w h => HQP.out c _ _ _ w h) (Or.inl ⟨by rfl, ?v5⟩) hS ?_
        case v5 => (intro w hSw; (try dsimp only at hSw); obtain ⟨s0, s1⟩ := hSw; go_simp; try with_reducible rfl)
        try simp only [Act.put, List.setIfInBounds_toArray, List.set_cons_zero, List.set_cons_succ]
        refine wpAnyH_take (i := 6) (oi := ⟨some 29, _, _, _, _, some (4, true)⟩) (v := ?_) rfl (by kernel_rfl) (by kernel_rfl) (by kernel_rfl) (fun c _ w h => HQP.out c _ _ _ w h) (Or.inl ⟨by rfl, ?v6⟩) hS ?_
        case v6 => (intro w hSw; (try dsimp only at hSw); obtain ⟨s0, s1⟩ := hSw; go_simp; try with_reducible rfl)
        try simp only [Act.put, List.setIfInBounds_toArray, List.set_cons_zero, List.set_cons_succ]
        refine wpAnyH_take (i := 7) (oi := ⟨some 30, _, _, _, _, some (4, true)⟩) (v := ?_) rfl (by kernel_rfl) (by kernel_rfl) (by kernel_rfl) (fun c _ w h => HQP.out c _ _ _ w h) (Or.inl ⟨by rfl, ?v7⟩) hS ?_
        case v7 => (intro w hSw; (try dsimp only at hSw); obtain ⟨s0, s1⟩ := hSw; go_simp; try with_reducible rfl)
        try simp only [Act.put, List.setIfInBounds_toArray, List.set_cons_zero, List.set_cons_succ]
        refine wpAnyH_take (i := 8) (oi := ⟨some 31, _, _, _, _, some (4, true)⟩) (v := .agg f.cells.toArray) rfl (by kernel_rfl) (by kernel_rfl) (by kernel_rfl) (fun c _ w h => HQP.out c _ _ _ w h) (yieldsIf_load_mid (by rfl) 72 (.tmp 30) rfl b (j * 35) rfl _ _ (fun w hw => hw.1) Tryd.underlying72 rfl HSZ.out) hS ?_
        try simp only [Act.put, List.setIfInBounds_toArray, List.set_cons_zero, List.set_cons_succ]
        refine wpAnyH_take (i := 9) (oi := ⟨some 32, _, _, _, _, some (4, true)⟩) (v := ?_) rfl (by kernel_rfl) (by kernel_rfl) (by kernel_rfl) (fun c _ w h => HQP.out c _ _ _ w h) (Or.inl ⟨by rfl, ?v9⟩) hS ?_
        case v9 => (intro w hSw; (try dsimp only at hSw); obtain ⟨s0, s1⟩ := hSw; go_simp; try with_reducible rfl)
        try simp only [Act.put, List.setIfInBounds_toArray, List.set_cons_zero, List.set_cons_succ]
        refine wpAnyH_take (i := 10) (oi := ⟨some 33, _, _, _, _, some (4, true)⟩) (v := ?_) rfl (by kernel_rfl) (by kernel_rfl) (by kernel_rfl) (fun c _ w h => HQP.out c _ _ _ w h) (Or.inl ⟨by rfl, ?v10⟩) hS ?_
        case v10 => (intro w hSw; (try dsimp only at hSw); obtain ⟨s0, s1⟩ := hSw; go_simp; try with_reducible rfl)
        try simp only [Act.put, List.setIfInBounds_toArray, List.set_cons_zero, List.set_cons_succ]
        refine wpAnyH_take (i := 11) (oi := ⟨some 34, _, _, _, _, some (4, true)⟩) (v := ?_) rfl (by kernel_rfl) (by kernel_rfl) (by kernel_rfl) (fun c _ w h => HQP.out c _ _ _ w h) (Or.inl ⟨by rfl, ?v11⟩) hS ?_
        case v11 => (intro w hSw; (try dsimp only at hSw); obtain ⟨s0, s1⟩ := hSw; go_simp; try with_reducible rfl)
        try simp only [Act.put, List.setIfInBounds_toArray, List.set_cons_zero, List.set_cons_succ]
        refine wpAnyH_take (i := 12) (oi := ⟨some 35, _, _, _, _, some (4, true)⟩) (v := .agg f.cells.toArray) rfl (by kernel_rfl) (by kernel_rfl) (by kernel_rfl) (fun c _ w h => HQP.out c _ _ _ w h) (yieldsIf_load_mid (by rfl) 72 (.tmp 34) rfl b2 (off + j * 35) rfl _ _ (fun w hw => hw.2) Tryd.underlying72 rfl HSZ.out) hS ?_
        try simp only [Act.put, List.setIfInBounds_toArray, List.set_cons_zero, List.set_cons_succ]
        refine wpAnyH_take (i := 13) (oi := ⟨some 36, _, _, _, _, some (4, true)⟩) (v := .bool true) rfl (by kernel_rfl) (by kernel_rfl) (by kernel_rfl) (fun c _ w h => HQP.out c _ _ _ w h) (yieldsIf_eql_agg (by rfl) 72 72 (.tmp 31) (.tmp 35) rfl f.cells.toArray f.cells.toArray rfl rfl (by kernel_rfl) true HEQ.out) hS ?_
        try simp only [Act.put, List.setIfInBounds_toArray, List.set_cons_zero, List.set_cons_succ]
        refine wpAnyH_take (i := 14) (oi := ⟨some 37, _, _, _, _, some (4, true)⟩) (v := ?_) rfl (by kernel_rfl) (by kernel_rfl) (by kernel_rfl) (fun c _ w h => HQP.out c _ _ _ w h) (Or.inl ⟨by rfl, ?v14⟩) hS ?_
        case v14 => (intro w hSw; (try dsimp only at hSw); obtain ⟨s0, s1⟩ := hSw; go_simp; try with_reducible rfl)
        try simp only [Act.put, List.setIfInBounds_toArray, List.set_cons_zero, List.set_cons_succ]
        refine wpAnyH_take (i := 15) (oi := ⟨some 38, _, _, _, _, none⟩) (v := ?_) rfl (by kernel_rfl) (by kernel_rfl) (by kernel_rfl) (fun c _ w h => HQP.out c _ _ _ w h) (Or.inl ⟨by rfl, ?v15⟩) hS ?_
        case v15 => (intro w hSw; (try dsimp only at hSw); obtain ⟨s0, s1⟩ := hSw; go_simp; try with_reducible rfl)
        try simp only [Act.put, List.setIfInBounds_toArray, List.set_cons_zero, List.set_cons_succ]
        refine wpAnyH_take (i := 16) (oi := ⟨some 39, _, _, _, _, none⟩) (v := ?_) rfl (by kernel_rfl) (by kernel_rfl) (by kernel_rfl) (fun c _ w h => HQP.out c _ _ _ w h) (Or.inl ⟨by rfl, ?v16⟩) hS ?_
        case v16 => (intro w hSw; (try dsimp only at hSw); obtain ⟨s0, s1⟩ := hSw; go_simp; try with_reducible rfl)
        try simp only [Act.put, List.setIfInBounds_toArray, List.set_cons_zero, List.set_cons_succ]
        refine wpAnyH_take (i := 17) (oi := ⟨some 40, _, _, _, _, some (16, false)⟩) (v := ?_) rfl (by kernel_rfl) (by kernel_rfl) (by kernel_rfl) (fun c _ w h => HQP.out c _ _ _ w h) (Or.inl ⟨by rfl, ?v17⟩) hS ?_
        case v17 => (intro w hSw; (try dsimp only at hSw); obtain ⟨s0, s1⟩ := hSw; go_simp; try with_reducible rfl)
        try simp only [Act.put, List.setIfInBounds_toArray, List.set_cons_zero, List.set_cons_succ]
        refine wpAnyH_take (i := 18) (oi := ⟨some 41, _, _, _, _, some (16, false)⟩) (v := ?_) rfl (by kernel_rfl) (by kernel_rfl) (by kernel_rfl) (fun c _ w h => HQP.out c _ _ _ w h) (Or.inl ⟨by rfl, ?v18⟩) hS ?_
        case v18 => (intro w hSw; (try dsimp only at hSw); obtain ⟨s0, s1⟩ := hSw; go_simp; try with_reducible rfl)
        try simp only [Act.put, List.setIfInBounds_toArray, List.set_cons_zero, List.set_cons_succ]
        refine wpAnyH_take (i := 19) (oi := ⟨some 42, _, _, _, _, some (16, false)⟩) (v := ?_) rfl (by kernel_rfl) (by kernel_rfl) (by kernel_rfl) (fun c _ w h => HQP.out c _ _ _ w h) (Or.inl ⟨by rfl, ?v19⟩) hS ?_
        case v19 => (intro w hSw; (try dsimp only at hSw); obtain ⟨s0, s1⟩ := hSw; go_simp; try with_reducible rfl)
        try simp only [Act.put, List.setIfInBounds_toArray, List.set_cons_zero, List.set_cons_succ]
        refine wpAnyH_take (i := 20) (oi := ⟨some 43, _, _, _, _, some (16, false)⟩) (v := ?_) rfl (by kernel_rfl) (by kernel_rfl) (by kernel_rfl) (fun c _ w h => HQP.out c _ _ _ w h) (Or.inl ⟨by rfl, ?v20⟩) hS ?_
        case v20 => (intro w hSw; (try dsimp only at hSw); obtain ⟨s0, s1⟩ := hSw; go_simp; try with_reducible rfl)
        try simp only [Act.put, List.setIfInBounds_toArray, List.set_cons_zero, List.set_cons_succ]
        refine wpAnyH_take (i := 21) (oi := ⟨some 44, _, _, _, _, some (16, false)⟩) (v := ?_) rfl (by kernel_rfl) (by kernel_rfl) (by kernel_rfl) (fun c _ w h => HQP.out c _ _ _ w h) (Or.inl ⟨by rfl, ?v21⟩) hS ?_
        case v21 => (intro w hSw; (try dsimp only at hSw); obtain ⟨s0, s1⟩ := hSw; go_simp; try with_reducible rfl)
        try simp only [Act.put, List.setIfInBounds_toArray, List.set_cons_zero, List.set_cons_succ]
        refine wpAnyH_take (i := 22) (oi := ⟨some 45, _, _, _, _, some (21, true)⟩) (v := undef) rfl (by kernel_rfl) (by kernel_rfl) (by kernel_rfl) (fun c _ w h => HQP.out c _ _ _ w h) (Or.inr ⟨by rfl, rfl⟩) hS ?_
        try simp only [Act.put, List.setIfInBounds_toArray, List.set_cons_zero, List.set_cons_succ]
        refine wpAnyH_take (i := 23) (oi := ⟨some 46, _, _, _, _, some (21, true)⟩) (v := undef) rfl (by kernel_rfl) (by kernel_rfl) (by kernel_rfl) (fun c _ w h => HQP.out c _ _ _ w h) (Or.inr ⟨by rfl, rfl⟩) hS ?_
        try simp only [Act.put, List.setIfInBounds_toArray, List.set_cons_zero, List.set_cons_succ]
        refine wpAnyH_take (i := 24) (oi := ⟨some 47, _, _, _, _, some (21, true)⟩) (v := undef) rfl (by kernel_rfl) (by kernel_rfl) (by kernel_rfl) (fun c _ w h => HQP.out c _ _ _ w h) (Or.inr ⟨by rfl, rfl⟩) hS ?_
        try simp only [Act.put, List.setIfInBounds_toArray, List.set_cons_zero, List.set_cons_succ]
        refine wpAnyH_take (i := 25) (oi := ⟨some 48, _, _, _, _, some (21, true)⟩) (v := undef) rfl (by kernel_rfl) (by kernel_rfl) (by kernel_rfl) (fun c _ w h => HQP.out c _ _ _ w h) (Or.inr ⟨by rfl, rfl⟩) hS ?_
        try simp only [Act.put, List.setIfInBounds_toArray, List.set_cons_zero, List.set_cons_succ]
        refine wpAnyH_take (i := 26) (oi := ⟨some 49, _, _, _, _, some (21, true)⟩) (v := undef) rfl (by kernel_rfl) (by kernel_rfl) (by kernel_rfl) (fun c _ w h => HQP.out c _ _ _ w h) (Or.inr ⟨by rfl, rfl⟩) hS ?_
        try simp only [Act.put, List.setIfInBounds_toArray, List.set_cons_zero, List.set_cons_succ]
        refine wpAnyH_take (i := 27) (oi := ⟨some 50, _, _, _, _, some (21, true)⟩) (v := undef) rfl (by kernel_rfl) (by kernel_rfl) (by kernel_rfl) (fun c _ w h => HQP.out c _ _ _ w h) (Or.inr ⟨by rfl, rfl⟩) hS ?_
        try simp only [Act.put, List.setIfInBounds_toArray, List.set_cons_zero, List.set_cons_succ]
        refine wpAnyH_take (i := 28) (oi := ⟨some 51, _, _, _, _, some (21, true)⟩) (v := undef) rfl (by kernel_rfl) (by kernel_rfl) (by kernel_rfl) (fun c _ w h => HQP.out c _ _ _ w h) (Or.inr ⟨by rfl, rfl⟩) hS ?_
        try simp only [Act.put, List.setIfInBounds_toArray, List.set_cons_zero, List.set_cons_succ]
        refine wpAnyH_take (i := 29) (oi := ⟨some 52, _, _, _, _, some (21, true)⟩) (v := undef) rfl (by kernel_rfl) (by kernel_rfl) (by kernel_rfl) (fun c _ w h => HQP.out c _ _ _ w h) (Or.inr ⟨by rfl, rfl⟩) hS ?_
        try simp only [Act.put, List.setIfInBounds_toArray, List.set_cons_zero, List.set_cons_succ]
        refine wpAnyH_take (i := 30) (oi := ⟨some 53, _, _, _, _, some (21, true)⟩) (v := undef) rfl (by kernel_rfl) (by kernel_rfl) (by kernel_rfl) (fun c _ w h => HQP.out c _ _ _ w h) (Or.inr ⟨by rfl, rfl⟩) hS ?_
        try simp only [Act.put, List.setIfInBounds_toArray, List.set_cons_zero, List.set_cons_succ]
        refine wpAnyH_take (i := 31) (oi := ⟨some 54, _, _, _, _, some (21, true)⟩) (v := undef) rfl (by kernel_rfl) (by kernel_rfl) (by kernel_rfl) (fun c _ w h => HQP.out c _ _ _ w h) (Or.inr ⟨by rfl, rfl⟩) hS ?_
        try simp only [Act.put, List.setIfInBounds_toArray, List.set_cons_zero, List.set_cons_succ]
        refine wpAnyH_take (i := 32) (oi := ⟨some 55, _, _, _, _, some (21, true)⟩) (v := undef) rfl (by kernel_rfl) (by kernel_rfl) (by kernel_rfl) (fun c _ w h => HQP.out c _ _ _ w h) (Or.inr ⟨by rfl, rfl⟩) hS ?_
        try simp only [Act.put, List.setIfInBounds_toArray, List.set_cons_zero, List.set_cons_succ]
        refine wpAnyH_take (i := 33) (oi := ⟨some 56, _, _, _, _, some (16, false)⟩) (v := ?_) rfl (by kernel_rfl) (by kernel_rfl) (by kernel_rfl) (fun c _ w h => HQP.out c _ _ _ w h) (Or.inl ⟨by rfl, ?v33⟩) hS ?_
        case v33 => (intro w hSw; (try dsimp only at hSw); obtain ⟨s0, s1⟩ := hSw; go_simp; try with_reducible rfl)
        try simp only [Act.put, List.setIfInBounds_toArray, List.set_cons_zero, List.set_cons_succ]
        refine wpAnyH_take (i := 34) (oi := ⟨some 57, _, _, _, _, none⟩) (v := ?_) rfl (by kernel_rfl) (by kernel_rfl) (by kernel_rfl) (fun c _ w h => HQP.out c _ _ _ w h) (Or.inl ⟨by rfl, ?v34⟩) hS ?_
        case v34 => (intro w hSw; (try dsimp only at hSw); obtain ⟨s0, s1⟩ := hSw; go_simp; try with_reducible rfl)
        try simp only [Act.put, List.setIfInBounds_toArray, List.set_cons_zero, List.set_cons_succ]
        refine wpAnyH_done (by kernel_rfl) ?_ _
        refine HQN.out _ _ ?_
        clear HQP HQN hS
        have HBD : Hid (Below W.heap.size W (wr.drewN 1)) := below_drewN HB.out 1
        go_wp2
        go_roundw
        case rel => exact ⟨j + 1, by omega, by go_num, HBD.out⟩
        case measure => simp [intOf]; omega
      · have hj12 : j - xs.length < 12 := by omega
        have hfe : (xs ++ marksP 12)[j]'(by rw [List.length_append, marksP_length]; exact hlt) = mPu 1 ((j : Int) - (xs.length : Int)) := by
          have e1 : (xs ++ marksP 12)[j]? = some (mPu 1 ((j - xs.length : Nat) : Int)) := by rw [List.getElem?_append_right (by omega)]; exact marksP_at hj12
          rw [List.getElem?_eq_getElem (by rw [List.length_append, marksP_length]; exact hlt)] at e1
          rw [Option.some.inj e1]
          congr 1
          omega
        have hwf : (mPu 1 ((j : Int) - (xs.length : Int))).wf := mPu_wf _ _ (by omega) (by omega) (by omega) (by omega)
        rw [hfe] at hi
        obtain ⟨f, hf⟩ : ∃ f, f = mPu 1 ((j : Int) - (xs.length : Int)) := ⟨_, rfl⟩
        rw [← hf] at hi hwf
        have HI := Lib.hid hi
        have HEQ := Lib.hid (eq72 hwf)
        have HFE := Lib.hid hf
        have HSZ : Hid ((Tryd.prog.info? 72).map (·.size) = some f.cells.length) := by simp only [Hid]; rw [hwf.len]; exact size72'
        have z2 : (xs.length : Int) ≤ (j : Int) := by omega
        have d1 : decide ((j : Int) < (xs.length : Int)) = false := decide_eq_false (by omega)
        have d2 : decide ((xs.length : Int) ≤ (j : Int)) = true := decide_eq_true z2
        have d3 : decide (j < xs.length) = false := decide_eq_false hin
        have d4 : decide (xs.length ≤ j) = true := decide_eq_true (by omega)
        clear hat hi hwf hf hfe
        go_upto_region 7 with fail
        refine wp_region_gen (S := fun w' => w'.rangeAt b (j * 35) f.cells ∧ True) (by kernel_rfl) (fun _ _ _ _ _ h => h) ?_
        intro Q' HQP HQN
        change wpAnyH _ _ _ _ _ _ _ _ (wr.drewN 1)
        have hS : (fun w' : World => w'.rangeAt b (j * 35) f.cells ∧ True) (wr.drewN 1) := ⟨HI.out, trivial⟩
        refine wpAnyH_take (i := 0) (oi := ⟨some 23, _, _, _, _, none⟩) (v := ?_) rfl (by kernel_rfl) (by kernel_rfl) (by kernel_rfl) (fun c _ w h => HQP.out c _ _ _ w h) (Or.inl ⟨by rfl, ?v0⟩) hS ?_
        case v0 => (intro w hSw; (try dsimp only at hSw); obtain ⟨s0, s1⟩ := hSw; go_simp; try with_reducible rfl)
        try simp only [Act.put, List.setIfInBounds_toArray, List.set_cons_zero, List.set_cons_succ]
        refine wpAnyH_take (i := 1) (oi := ⟨some 24, _, _, _, _, none⟩) (v := ?_) rfl (by kernel_rfl) (by kernel_rfl) (by kernel_rfl) (fun c _ w h => HQP.out c _ _ _ w h) (Or.inl ⟨by rfl, ?v1⟩) hS ?_
        case v1 => (intro w hSw; (try dsimp only at hSw); obtain ⟨s0, s1⟩ := hSw; go_simp; try with_reducible rfl)
        try simp only [Act.put, List.setIfInBounds_toArray, List.set_cons_zero, List.set_cons_succ]
        refine wpAnyH_take (i := 2) (oi := ⟨some 25, _, _, _, _, none⟩) (v := ?_) rfl (by kernel_rfl) (by kernel_rfl) (by kernel_rfl) (fun c _ w h => HQP.out c _ _ _ w h) (Or.inl ⟨by rfl, ?v2⟩) hS ?_
        case v2 => (intro w hSw; (try dsimp only at hSw); obtain ⟨s0, s1⟩ := hSw; go_simp; try with_reducible rfl)
        try simp only [Act.put, List.setIfInBounds_toArray, List.set_cons_zero, List.set_cons_succ]
        refine wpAnyH_take (i := 3) (oi := ⟨some 26, _, _, _, _, none⟩) (v := ?_) rfl (by kernel_rfl) (by kernel_rfl) (by kernel_rfl) (fun c _ w h => HQP.out c _ _ _ w h) (Or.inl ⟨by rfl, ?v3⟩) hS ?_
        case v3 => (intro w hSw; (try dsimp only at hSw); obtain ⟨s0, s1⟩ := hSw; go_simp; try with_reducible rfl)
        try simp only [Act.put, List.setIfInBounds_toArray, List.set_cons_zero, List.set_cons_succ]
        refine wpAnyH_take (i := 4) (oi := ⟨some 27, _, _, _, _, none⟩) (v := ?_) rfl (by kernel_rfl) (by kernel_rfl) (by kernel_rfl) (fun c _ w h => HQP.out c _ _ _ w h) (Or.inl ⟨by rfl, ?v4⟩) hS ?_
        case v4 => (intro w hSw; (try dsimp only at hSw); obtain ⟨s0, s1⟩ := hSw; go_simp; try with_reducible rfl)
        try simp only [Act.put, List.setIfInBounds_toArray, List.set_cons_zero, List.set_cons_succ]
        refine wpAnyH_take (i := 5) (oi := ⟨some 28, _, _, _, _, some (4, true)⟩) (v := undef) rfl (by kernel_rfl) (by kernel_rfl) (by kernel_rfl) (fun c _ w h => HQP.out c _ _ _ w h) (Or.inr ⟨by rfl, rfl⟩) hS ?_
        try simp only [Act.put, List.setIfInBounds_toArray, List.set_cons_zero, List.set_cons_succ]
        refine wpAnyH_take (i := 6) (oi := ⟨some 29, _, _, _, _, some (4, true)⟩) (v := undef) rfl (by kernel_rfl) (by kernel_rfl) (by kernel_rfl) (fun c _ w h => HQP.out c _ _ _ w h) (Or.inr ⟨by rfl, rfl⟩) hS ?_
        try simp only [Act.put, List.setIfInBounds_toArray, List.set_cons_zero, List.set_cons_succ]
        refine wpAnyH_take (i := 7) (oi := ⟨some 30, _, _, _, _, some (4, true)⟩) (v := undef) rfl (by kernel_rfl) (by kernel_rfl) (by kernel_rfl) (fun c _ w h => HQP.out c _ _ _ w h) (Or.inr ⟨by rfl, rfl⟩) hS ?_
        try simp only [Act.put, List.setIfInBounds_toArray, List.set_cons_zero, List.set_cons_succ]
        refine wpAnyH_take (i := 8) (oi := ⟨some 31, _, _, _, _, some (4, true)⟩) (v := undef) rfl (by kernel_rfl) (by kernel_rfl) (by kernel_rfl) (fun c _ w h => HQP.out c _ _ _ w h) (Or.inr ⟨by rfl, rfl⟩) hS ?_
        try simp only [Act.put, List.setIfInBounds_toArray, List.set_cons_zero, List.set_cons_succ]
        refine wpAnyH_take (i := 9) (oi := ⟨some 32, _, _, _, _, some (4, true)⟩) (v := undef) rfl (by kernel_rfl) (by kernel_rfl) (by kernel_rfl) (fun c _ w h => HQP.out c _ _ _ w h) (Or.inr ⟨by rfl, rfl⟩) hS ?_
        try simp only [Act.put, List.setIfInBounds_toArray, List.set_cons_zero, List.set_cons_succ]
        refine wpAnyH_take (i := 10) (oi := ⟨some 33, _, _, _, _, some (4, true)⟩) (v := undef) rfl (by kernel_rfl) (by kernel_rfl) (by kernel_rfl) (fun c _ w h => HQP.out c _ _ _ w h) (Or.inr ⟨by rfl, rfl⟩) hS ?_
        try simp only [Act.put, List.setIfInBounds_toArray, List.set_cons_zero, List.set_cons_succ]
        refine wpAnyH_take (i := 11) (oi := ⟨some 34, _, _, _, _, some (4, true)⟩) (v := undef) rfl (by kernel_rfl) (by kernel_rfl) (by kernel_rfl) (fun c _ w h => HQP.out c _ _ _ w h) (Or.inr ⟨by rfl, rfl⟩) hS ?_
        try simp only [Act.put, List.setIfInBounds_toArray, List.set_cons_zero, List.set_cons_succ]
        refine wpAnyH_take (i := 12) (oi := ⟨some 35, _, _, _, _, some (4, true)⟩) (v := undef) rfl (by kernel_rfl) (by kernel_rfl) (by kernel_rfl) (fun c _ w h => HQP.out c _ _ _ w h) (Or.inr ⟨by rfl, rfl⟩) hS ?_
        try simp only [Act.put, List.setIfInBounds_toArray, List.set_cons_zero, List.set_cons_succ]
        refine wpAnyH_take (i := 13) (oi := ⟨some 36, _, _, _, _, some (4, true)⟩) (v := undef) rfl (by kernel_rfl) (by kernel_rfl) (by kernel_rfl) (fun c _ w h => HQP.out c _ _ _ w h) (Or.inr ⟨by rfl, rfl⟩) hS ?_
        try simp only [Act.put, List.setIfInBounds_toArray, List.set_cons_zero, List.set_cons_succ]
        refine wpAnyH_take (i := 14) (oi := ⟨some 37, _, _, _, _, some (4, true)⟩) (v := undef) rfl (by kernel_rfl) (by kernel_rfl) (by kernel_rfl) (fun c _ w h => HQP.out c _ _ _ w h) (Or.inr ⟨by rfl, rfl⟩) hS ?_
        try simp only [Act.put, List.setIfInBounds_toArray, List.set_cons_zero, List.set_cons_succ]
        refine wpAnyH_take (i := 15) (oi := ⟨some 38, _, _, _, _, none⟩) (v := ?_) rfl (by kernel_rfl) (by kernel_rfl) (by kernel_rfl) (fun c _ w h => HQP.out c _ _ _ w h) (Or.inl ⟨by rfl, ?v15⟩) hS ?_
        case v15 => (intro w hSw; (try dsimp only at hSw); obtain ⟨s0, s1⟩ := hSw; go_simp; try with_reducible rfl)
        try simp only [Act.put, List.setIfInBounds_toArray, List.set_cons_zero, List.set_cons_succ]
        refine wpAnyH_take (i := 16) (oi := ⟨some 39, _, _, _, _, none⟩) (v := ?_) rfl (by kernel_rfl) (by kernel_rfl) (by kernel_rfl) (fun c _ w h => HQP.out c _ _ _ w h) (Or.inl ⟨by rfl, ?v16⟩) hS ?_
        case v16 => (intro w hSw; (try dsimp only at hSw); obtain ⟨s0, s1⟩ := hSw; go_simp; try with_reducible rfl)
        try simp only [Act.put, List.setIfInBounds_toArray, List.set_cons_zero, List.set_cons_succ]
        refine wpAnyH_take (i := 17) (oi := ⟨some 40, _, _, _, _, some (16, false)⟩) (v := ?_) rfl (by kernel_rfl) (by kernel_rfl) (by kernel_rfl) (fun c _ w h => HQP.out c _ _ _ w h) (Or.inl ⟨by rfl, ?v17⟩) hS ?_
        case v17 => (intro w hSw; (try dsimp only at hSw); obtain ⟨s0, s1⟩ := hSw; go_simp; try with_reducible rfl)
        try simp only [Act.put, List.setIfInBounds_toArray, List.set_cons_zero, List.set_cons_succ]
        refine wpAnyH_take (i := 18) (oi := ⟨some 41, _, _, _, _, some (16, false)⟩) (v := ?_) rfl (by kernel_rfl) (by kernel_rfl) (by kernel_rfl) (fun c _ w h => HQP.out c _ _ _ w h) (Or.inl ⟨by rfl, ?v18⟩) hS ?_
        case v18 => (intro w hSw; (try dsimp only at hSw); obtain ⟨s0, s1⟩ := hSw; go_simp; try with_reducible rfl)
        try simp only [Act.put, List.setIfInBounds_toArray, List.set_cons_zero, List.set_cons_succ]
        refine wpAnyH_take (i := 19) (oi := ⟨some 42, _, _, _, _, some (16, false)⟩) (v := ?_) rfl (by kernel_rfl) (by kernel_rfl) (by kernel_rfl) (fun c _ w h => HQP.out c _ _ _ w h) (Or.inl ⟨by rfl, ?v19⟩) hS ?_
        case v19 => (intro w hSw; (try dsimp only at hSw); obtain ⟨s0, s1⟩ := hSw; go_simp; try with_reducible rfl)
        try simp only [Act.put, List.setIfInBounds_toArray, List.set_cons_zero, List.set_cons_succ]
        refine wpAnyH_take (i := 20) (oi := ⟨some 43, _, _, _, _, some (16, false)⟩) (v := ?_) rfl (by kernel_rfl) (by kernel_rfl) (by kernel_rfl) (fun c _ w h => HQP.out c _ _ _ w h) (Or.inl ⟨by rfl, ?v20⟩) hS ?_
        case v20 => (intro w hSw; (try dsimp only at hSw); obtain ⟨s0, s1⟩ := hSw; go_simp; try with_reducible rfl)
        try simp only [Act.put, List.setIfInBounds_toArray, List.set_cons_zero, List.set_cons_succ]
        refine wpAnyH_take (i := 21) (oi := ⟨some 44, _, _, _, _, some (16, false)⟩) (v := ?_) rfl (by kernel_rfl) (by kernel_rfl) (by kernel_rfl) (fun c _ w h => HQP.out c _ _ _ w h) (Or.inl ⟨by rfl, ?v21⟩) hS ?_
        case v21 => (intro w hSw; (try dsimp only at hSw); obtain ⟨s0, s1⟩ := hSw; go_simp; try with_reducible rfl)
        try simp only [Act.put, List.setIfInBounds_toArray, List.set_cons_zero, List.set_cons_succ]
        refine wpAnyH_take (i := 22) (oi := ⟨some 45, _, _, _, _, some (21, true)⟩) (v := ?_) rfl (by kernel_rfl) (by kernel_rfl) (by kernel_rfl) (fun c _ w h => HQP.out c _ _ _ w h) (Or.inl ⟨by rfl, ?v22⟩) hS ?_
        case v22 => (intro w hSw; (try dsimp only at hSw); obtain ⟨s0, s1⟩ := hSw; go_simp; try with_reducible rfl)
        try simp only [Act.put, List.setIfInBounds_toArray, List.set_cons_zero, List.set_cons_succ]
        refine wpAnyH_take (i := 23) (oi := ⟨some 46, _, _, _, _, some (21, true)⟩) (v := ?_) rfl (by kernel_rfl) (by kernel_rfl) (by kernel_rfl) (fun c _ w h => HQP.out c _ _ _ w h) (Or.inl ⟨by rfl, ?v23⟩) hS ?_
        case v23 => (intro w hSw; (try dsimp only at hSw); obtain ⟨s0, s1⟩ := hSw; go_simp; try with_reducible rfl)
        try simp only [Act.put, List.setIfInBounds_toArray, List.set_cons_zero, List.set_cons_succ]
        refine wpAnyH_take (i := 24) (oi := ⟨some 47, _, _, _, _, some (21, true)⟩) (v := ?_) rfl (by kernel_rfl) (by kernel_rfl) (by kernel_rfl) (fun c _ w h => HQP.out c _ _ _ w h) (Or.inl ⟨by rfl, ?v24⟩) hS ?_
        case v24 => (intro w hSw; (try dsimp only at hSw); obtain ⟨s0, s1⟩ := hSw; go_simp; try with_reducible rfl)
        try simp only [Act.put, List.setIfInBounds_toArray, List.set_cons_zero, List.set_cons_succ]
        refine wpAnyH_take (i := 25) (oi := ⟨some 48, _, _, _, _, some (21, true)⟩) (v := .agg f.cells.toArray) rfl (by kernel_rfl) (by kernel_rfl) (by kernel_rfl) (fun c _ w h => HQP.out c _ _ _ w h) (yieldsIf_load_mid (by rfl) 72 (.tmp 47) rfl b (j * 35) rfl _ _ (fun w hw => hw.1) Tryd.underlying72 rfl HSZ.out) hS ?_
        try simp only [Act.put, List.setIfInBounds_toArray, List.set_cons_zero, List.set_cons_succ]
        refine wpAnyH_take (i := 26) (oi := ⟨some 49, _, _, _, _, some (21, true)⟩) (v := ?_) rfl (by kernel_rfl) (by kernel_rfl) (by kernel_rfl) (fun c _ w h => HQP.out c _ _ _ w h) (Or.inl ⟨by rfl, ?v26⟩) hS ?_
        case v26 => (intro w hSw; (try dsimp only at hSw); obtain ⟨s0, s1⟩ := hSw; go_simp; try with_reducible rfl)
        try simp only [Act.put, List.setIfInBounds_toArray, List.set_cons_zero, List.set_cons_succ]
        refine wpAnyH_take (i := 27) (oi := ⟨some 50, _, _, _, _, some (21, true)⟩) (v := ?_) rfl (by kernel_rfl) (by kernel_rfl) (by kernel_rfl) (fun c _ w h => HQP.out c _ _ _ w h) (Or.inl ⟨by rfl, ?v27⟩) hS ?_
        case v27 => (intro w hSw; (try dsimp only at hSw); obtain ⟨s0, s1⟩ := hSw; go_simp; try with_reducible rfl)
        try simp only [Act.put, List.setIfInBounds_toArray, List.set_cons_zero, List.set_cons_succ]
        refine wpAnyH_take (i := 28) (oi := ⟨some 51, _, _, _, _, some (21, true)⟩) (v := ?_) rfl (by kernel_rfl) (by kernel_rfl) (by kernel_rfl) (fun c _ w h => HQP.out c _ _ _ w h) (Or.inl ⟨by rfl, ?v28⟩) hS ?_
        case v28 => (intro w hSw; (try dsimp only at hSw); obtain ⟨s0, s1⟩ := hSw; go_simp; try with_reducible rfl)
        try simp only [Act.put, List.setIfInBounds_toArray, List.set_cons_zero, List.set_cons_succ]
        refine wpAnyH_take (i := 29) (oi := ⟨some 52, _, _, _, _, some (21, true)⟩) (v := ?_) rfl (by kernel_rfl) (by kernel_rfl) (by kernel_rfl) (fun c _ w h => HQP.out c _ _ _ w h) (Or.inl ⟨by rfl, ?v29⟩) hS ?_
        case v29 => (intro w hSw; (try dsimp only at hSw); obtain ⟨s0, s1⟩ := hSw; go_simp; try with_reducible rfl)
        try simp only [Act.put, List.setIfInBounds_toArray, List.set_cons_zero, List.set_cons_succ]
        refine wpAnyH_ready (rs := [30]) (by kernel_rfl) (by simp) ?_
        refine AllReadyH.cons (o := ⟨some 53, _, _, _, _, some (21, true)⟩) rfl (fun KQ hK => ?_) AllReadyH.nil
        rw [if_pos (by rfl)]
        go_wp2_with fail
        refine (markPut_any 1 ((j : Int) - (xs.length : Int)) (wr.drewN 1) (by omega) (by omega) (by omega) (by omega)).mono ?_
        rintro e w2 ⟨rfl, qq⟩
        have HQ2 := Lib.hid qq
        have HI3 : Hid (w2.rangeAt b (j * 35) f.cells) := (fun k v hk => pw_cell_below qq (HI.out k v hk))
        clear qq
        rw [← HFE.out]
        go_wp2_with fail
        clear hS
        have hS : (fun w' : World => w'.rangeAt b (j * 35) f.cells ∧ True) (w2) := ⟨HI3.out, trivial⟩
        refine hK.out _ _ hS (fun _ => ?_)
        try simp only [Act.put, List.setIfInBounds_toArray, List.set_cons_zero, List.set_cons_succ]
        refine wpAnyH_take (i := 31) (oi := ⟨some 54, _, _, _, _, some (21, true)⟩) (v := .bool true) rfl (by kernel_rfl) (by kernel_rfl) (by kernel_rfl) (fun c _ w h => HQP.out c _ _ _ w h) (yieldsIf_eql_agg (by rfl) 72 72 (.tmp 48) (.tmp 53) rfl f.cells.toArray f.cells.toArray rfl rfl (by kernel_rfl) true HEQ.out) hS ?_
        try simp only [Act.put, List.setIfInBounds_toArray, List.set_cons_zero, List.set_cons_succ]
        refine wpAnyH_take (i := 32) (oi := ⟨some 55, _, _, _, _, some (21, true)⟩) (v := ?_) rfl (by kernel_rfl) (by kernel_rfl) (by kernel_rfl) (fun c _ w h => HQP.out c _ _ _ w h) (Or.inl ⟨by rfl, ?v32⟩) hS ?_
        case v32 => (intro w hSw; (try dsimp only at hSw); obtain ⟨s0, s1⟩ := hSw; go_simp; try with_reducible rfl)
        try simp only [Act.put, List.setIfInBounds_toArray, List.set_cons_zero, List.set_cons_succ]
        refine wpAnyH_take (i := 33) (oi := ⟨some 56, _, _, _, _, some (16, false)⟩) (v := ?_) rfl (by kernel_rfl) (by kernel_rfl) (by kernel_rfl) (fun c _ w h => HQP.out c _ _ _ w h) (Or.inl ⟨by rfl, ?v33⟩) hS ?_
        case v33 => (intro w hSw; (try dsimp only at hSw); obtain ⟨s0, s1⟩ := hSw; go_simp; try with_reducible rfl)
        try simp only [Act.put, List.setIfInBounds_toArray, List.set_cons_zero, List.set_cons_succ]
        refine wpAnyH_take (i := 34) (oi := ⟨some 57, _, _, _, _, none⟩) (v := ?_) rfl (by kernel_rfl) (by kernel_rfl) (by kernel_rfl) (fun c _ w h => HQP.out c _ _ _ w h) (Or.inl ⟨by rfl, ?v34⟩) hS ?_
        case v34 => (intro w hSw; (try dsimp only at hSw); obtain ⟨s0, s1⟩ := hSw; go_simp; try with_reducible rfl)
        try simp only [Act.put, List.setIfInBounds_toArray, List.set_cons_zero, List.set_cons_succ]
        refine wpAnyH_done (by kernel_rfl) ?_ _
        refine HQN.out _ _ ?_
        clear HQP HQN hS
        have HBD : Hid (Below W.heap.size W w2) := (below_drewN HB.out 1).trans (HQ2.out.mono HB.out.size)
        go_wp2
        go_roundw
        case rel => exact ⟨j + 1, by omega, by go_num, HBD.out⟩
        case measure => simp [intOf]; omega
    · have z1 : ¬ (j : Int) < (xs.length : Int) + 12 := by omega
      go_wp2
      go_ret
      exact ⟨rfl, HB.out⟩

set_option maxHeartbeats 2000000 in
set_option maxRecDepth 100000 in
theorem keptOp_any (o : OpV) (B bN bP : Nat) (vN vP : Value) (W : World) (hLN : IsLentF W B bN o.news) (hLP : IsLentP W B bP o.puts) (hN : RdsF W vN o.news) (hP : RdsP W vP o.puts) (hw : o.wf) (hl : o.news.length ≤ 1000000) (hl2 : o.puts.length ≤ 1000000) :
    Calls Tryd.prog 13 #[opVal o (.slice (some ⟨bN, 0, none⟩) o.news.length (o.news.length + 12)) (.slice (some ⟨bP, 0, none⟩) o.puts.length (o.puts.length + 12)), opVal o vN vP] W fun e W' => e = .returned (.bool true) ∧ Below W.heap.size W W' := by
  obtain ⟨AN', cN', rfl, n1', n2'⟩ := hN.form
  obtain ⟨AP', cP', rfl, p1', p2'⟩ := hP.form
  have hI1 : IsOp W (opVal o (.slice (some ⟨bN, 0, none⟩) o.news.length (o.news.length + 12)) (.slice (some ⟨bP, 0, none⟩) o.puts.length (o.puts.length + 12))) o := ⟨_, _, rfl, hLN.rds, hLP.rds, hw⟩
  have hI2 : IsOp W (opVal o (.slice AN' o.news.length cN') (.slice AP' o.puts.length cP')) o := ⟨_, _, rfl, hN, hP, hw⟩
  obtain ⟨C1, hC1⟩ : ∃ C1 : Array Value, C1 = #[.int .u8 o.kind, .int .i64 o.at_, .int .i64 o.n, .int .i64 o.snap, .slice (some ⟨bN, 0, none⟩) o.news.length (o.news.length + 12), .slice (some ⟨bP, 0, none⟩) o.puts.length (o.puts.length + 12)] := ⟨_, rfl⟩
  obtain ⟨C2, hC2⟩ : ∃ C2 : Array Value, C2 = #[.int .u8 o.kind, .int .i64 o.at_, .int .i64 o.n, .int .i64 o.snap, .slice AN' o.news.length cN', .slice AP' o.puts.length cP'] := ⟨_, rfl⟩
  obtain ⟨B0, hB⟩ : ∃ B0, B0 = W.heap.size := ⟨_, rfl⟩
  rw [← hB]
  have HB := Lib.hid hB
  have HLN := Lib.hid hLN
  have HLP := Lib.hid hLP
  have HN := Lib.hid hN
  have HP := Lib.hid hP
  have HI1 := Lib.hid hI1
  have HI2 := Lib.hid hI2
  clear hLN hLP hN hP hB hw hI1 hI2
  unfold opVal
  rw [← hC1, ← hC2]
  have HC1 := Lib.hid hC1
  have HC2 := Lib.hid hC2
  have hz1 : (Tryd.prog.info? 26).map (·.size) = some C1.size := by rw [hC1]; exact size26
  have hz2 : (Tryd.prog.info? 26).map (·.size) = some C2.size := by rw [hC2]; exact size26
  have HZ1 := Lib.hid hz1
  have HZ2 := Lib.hid hz2
  clear hC1 hC2 hz1 hz2
  go_enter Tryd.func13, Tryd.ntmps13
  go_upto_region 1 with fail
  generalize hW1 : World.alloc W _ = W1
  generalize hW2 : World.alloc W1 _ = W2
  have hs1 : W1.heap.size = W.heap.size + 1 := by rw [← hW1]; exact Array.size_push _
  have hb1 : W1.heap[W.heap.size]? = some (.cells C1 26 (0, 0)) := by rw [← hW1]; exact heap_alloc_new W _
  have hb2 : W2.heap[W1.heap.size]? = some (.cells C2 26 (0, 0)) := by rw [← hW2]; exact heap_alloc_new W1 _
  have fr2 : Fr (fun _ => False) W1 W2 := by rw [← hW2]; exact (Fr.refl _ W1).alloc _
  have hb1' := fr2.heap hb1 (fun h => h)
  have bel0 : Below W.heap.size W W2 := by rw [← hW2, ← hW1]; exact ((Below.refl _ _).alloc (Nat.le_refl _) _).alloc (by rw [World.alloc, Array.size_push]; omega) _
  rw [hs1, ← HB.out] at hb2
  rw [← HB.out] at hb1'
  try rw [hs1]
  try rw [← HB.out]
  have HK1 := Lib.hid hb1'
  have HK2 := Lib.hid hb2
  have HBEL := Lib.hid bel0
  have HLN2 := Lib.hid (HLN.out.below bel0)
  have HLP2 := Lib.hid (HLP.out.below bel0)
  have HN2 := Lib.hid (HN.out.below bel0)
  have HP2 := Lib.hid (HP.out.below bel0)
  have HI12 := Lib.hid (HI1.out.below bel0)
  have HI22 := Lib.hid (HI2.out.below bel0)
  clear hW1 hW2 hs1 hb1 hb1' hb2 fr2 bel0 HLN HLP HN HP HI1 HI2
  go_wp2_with (first | refine wpList_load_row rfl 26 (.tmp 2) rfl B0 rfl 26 C1 (0, 0) _ HK1.out Tryd.underlying26 rfl HZ1.out ?_ | refine wpList_load_row rfl 26 (.tmp 3) rfl (B0 + 1) rfl 26 C2 (0, 0) _ HK2.out Tryd.underlying26 rfl HZ2.out ?_)
  have hi1 : IsOp W2 (.agg C1) o := by rw [HC1.out]; exact HI12.out
  have hi2 : IsOp W2 (.agg C2) o := by rw [HC2.out]; exact HI22.out
  refine (sameOp_yes o _ _ W2 hi1 hi2).mono ?_
  rintro e w3 ⟨rfl, q3⟩
  have HK13 := Lib.hid ((q3.block B0 (blk_lt HK1.out)).trans HK1.out)
  have HK23 := Lib.hid ((q3.block (B0 + 1) (blk_lt HK2.out)).trans HK2.out)
  have HBEL3 := Lib.hid (HBEL.out.trans (q3.mono HBEL.out.size))
  have HLN3 := Lib.hid (HLN2.out.below q3)
  have HLP3 := Lib.hid (HLP2.out.below q3)
  have HN3 := Lib.hid (HN2.out.below q3)
  have HP3 := Lib.hid (HP2.out.below q3)
  clear q3 hi1 hi2 HK1 HK2 HBEL HLN2 HLP2 HN2 HP2 HI12 HI22
  have k4 := blk_cell HK13.out 4
  have m4 := blk_cell HK23.out 4
  rw [HC1.out] at k4
  rw [HC2.out] at m4
  simp only [List.getElem?_toArray, List.getElem?_cons_zero, List.getElem?_cons_succ] at k4 m4
  go_wp2_with fail
  refine (keptF_any B bN _ o.news w3 HLN3.out HN3.out hl).mono ?_
  rintro e w4 ⟨rfl, q4⟩
  have HK14 := Lib.hid ((q4.block B0 (blk_lt HK13.out)).trans HK13.out)
  have HK24 := Lib.hid ((q4.block (B0 + 1) (blk_lt HK23.out)).trans HK23.out)
  have HBEL4 := Lib.hid (HBEL3.out.trans (q4.mono HBEL3.out.size))
  have HLP4 := Lib.hid (HLP3.out.below q4)
  have HP4 := Lib.hid (HP3.out.below q4)
  clear q4 HK13 HK23 HBEL3 HLN3 HLP3 HN3 HP3 k4 m4
  have k5 := blk_cell HK14.out 5
  have m5 := blk_cell HK24.out 5
  rw [HC1.out] at k5
  rw [HC2.out] at m5
  simp only [List.getElem?_toArray, List.getElem?_cons_zero, List.getElem?_cons_succ] at k5 m5
  go_wp2_with fail
  refine (keptP_any B bP _ o.puts w4 HLP4.out HP4.out hl2).mono ?_
  rintro e w5 ⟨rfl, q5⟩
  have hfin : Below B0 W w5 := by rw [HB.out]; exact HBEL4.out.trans (q5.mono HBEL4.out.size)
  clear q5 k5 m5
  go_wp2
  go_ret
  exact ⟨rfl, hfin⟩
end Go.Proofs.YtlagkfiafelnnaaDoor
