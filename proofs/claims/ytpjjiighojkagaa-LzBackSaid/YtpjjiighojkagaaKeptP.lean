/- KeptPieces: pieces that were lent and stayed are found to. -/
import Derived.Test.YtpjjiighojkagaaLentP
import Derived.Deep.RegionHeld3
import Derived.IntWalk
set_option linter.unusedVariables false
set_option linter.unusedSimpArgs false
namespace Go.Proofs.Ytpjjiighojkagaa
open Go.RowKit Go.Proofs.YtpjjiighojkagaaW.PrintWords

theorem cell_alloc_of {w w' : World} {n : Nat} {o : Obj} {a : Addr} {v : Value} (h : w' = (w.drewN n).alloc o) (hc : w.cell? a = some v) : w'.cell? a = some v := by
  rw [h]
  exact pw_cell_below ((Below.refl _ (w.drewN n)).alloc (Nat.le_refl _) o) hc
theorem below_alloc_of {B : Nat} {W w w' : World} {n : Nat} {o : Obj} (h : w' = (w.drewN n).alloc o) (hb : Below B W w) (hB : B ≤ w.heap.size) : Below B W w' := by
  rw [h]
  exact (pw_below_drewN hb n).alloc hB o

set_option maxHeartbeats 1000000 in
set_option maxRecDepth 100000 in
theorem keptP_any (B b : Nat) (v : Value) (ps : List Pie) (W : World) (h : IsLentP W B b ps) (hv : RdsQ W v ps) (hl : ps.length ≤ 100000) :
    Calls Try.prog 13 #[.slice (some ⟨b, 0, none⟩) ps.length (ps.length + 12), v] W fun e W' => e = .returned (.bool true) ∧ Below W.heap.size W W' := by
  obtain ⟨B0, hB0⟩ : ∃ B0, B0 = W.heap.size := ⟨_, rfl⟩
  have HB0 := Lib.hid hB0
  rw [← hB0]
  have hv0 := hv
  obtain ⟨A, c, rfl, _, _, _, _, _⟩ := hv
  have HL := Lib.hid h
  have HV := Lib.hid hv0
  have t1 : (ps.length : Int) + 12 ≤ ((ps.length + 12 : Nat) : Int) := by omega
  clear h hv0 hB0
  go_enter Try.func13, Try.ntmps13
  go_wp2_with fail
  go_loopg [6] (ps.length + 12) (fun gk v6 wr => ∃ (j : Nat), Hid (gk + j = ps.length + 12) ∧ j ≤ ps.length + 12 ∧ v6 = .int .i64 (j : Int) ∧ Below B0 W wr)
  case atStart => exact ⟨0, by simp [Hid], by omega, rfl, by rw [HB0.out]; exact Below.refl _ _⟩
  case round =>
    obtain ⟨j, HG, hj, rfl, bb⟩ := hrel
    have bb' : Below W.heap.size W wr := by rw [← HB0.out]; exact bb
    have ss : B0 ≤ wr.heap.size := by rw [HB0.out]; exact bb'.size
    by_cases hlt : j < ps.length + 12
    · have z0 : (0 : Int) ≤ (j : Int) := by omega
      have z1 : (j : Int) < (ps.length : Int) + 12 := by omega
      have hj' : j < (ps ++ marksP 12).length := by rw [List.length_append, marksP_length]; omega
      obtain ⟨c0, c1, c2⟩ := cellsQ_at (ps ++ marksP 12) j hj'
      have a0 := pw_cell_below bb' ((World.ownsRow.cellAt HL.out _ (by omega)).trans c0)
      have a1 := pw_cell_below bb' ((World.ownsRow.cellAt HL.out _ (by omega)).trans c1)
      have a2 := pw_cell_below bb' ((World.ownsRow.cellAt HL.out _ (by omega)).trans c2)
      by_cases hin : j < ps.length
      · have e : (ps ++ marksP 12)[j] = ps[j] := List.getElem_append_left hin
        obtain ⟨bl, ol, rfl, hblt, hcells⟩ := HV.out.old (by omega)
        obtain ⟨q0, q1, q2⟩ := hcells j hin
        replace q0 := pw_cell_below bb' q0
        replace q1 := pw_cell_below bb' q1
        replace q2 := pw_cell_below bb' q2
        rw [e] at a0 a1 a2
        have heq := eqPiece_same ps[j]
        generalize ps[j] = p at a0 a1 a2 q0 q1 q2 heq
        have z2 : (j : Int) < (ps.length : Int) := by omega
        have d1 : decide (j < ps.length) = true := decide_eq_true hin
        have d2 : decide (ps.length ≤ j) = false := decide_eq_false (by omega)
        clear c0 c1 c2 hcells e bb'
        go_wp2_with fail
        go_quiet (fail)
        go_wp2
        go_roundg (gk - 1)
        case measure => have := HG.out; omega
        case rel => exact ⟨j + 1, by have := HG.out; simp only [Hid]; omega, by omega, by go_num, pw_below_drewN bb nq⟩
      · have e : (ps ++ marksP 12)[j] = mp 1 ((j - ps.length : Nat) : Int) := by
          rw [List.getElem_append_right (by omega)]
          simp [marksP]
        have ec : ((j - ps.length : Nat) : Int) = (j : Int) - (ps.length : Int) := by omega
        rw [e, ec] at a0 a1 a2
        have heq := eqPiece_same (mp 1 ((j : Int) - (ps.length : Int)))
        simp only [mp] at a0 a1 a2 heq
        have z2 : (ps.length : Int) ≤ (j : Int) := by omega
        have d1 : decide (j < ps.length) = false := decide_eq_false hin
        have d2 : decide (ps.length ≤ j) = true := decide_eq_true (by omega)
        have d1' : decide ((j : Int) < (ps.length : Int)) = false := decide_eq_false (by omega)
        have d2' : decide ((ps.length : Int) ≤ (j : Int)) = true := decide_eq_true (by omega)
        have hM := fun w : World => markPiece_any 1 ((j : Int) - (ps.length : Int)) w (by omega) (by omega) (by omega) (by omega)
        have HM := Lib.hid hM
        clear c0 c1 c2 e ec hM bb'
        generalize mk 1 ((j : Int) - (ps.length : Int)) = m at *
        have w0 : IntKind.i64.wrap ((j : Int) - (ps.length : Int)) = (j : Int) - (ps.length : Int) := IntWalk.i64_in _ (by omega)
        go_wp2_with fail
        refine wp_region_held (S := fun w' => w'.cell? ⟨b, j * 3, none⟩ = some (.int .u8 0) ∧ w'.cell? ⟨b, j * 3 + 1, none⟩ = some (.int .i64 m) ∧ w'.cell? ⟨b, j * 3 + 2, none⟩ = some (.int .i64 0)) (by kernel_rfl) ?_
        change wpAnyH _ _ _ _ _ _ _ _ (wr.drewN 1)
        have hS : (fun w' : World => w'.cell? ⟨b, j * 3, none⟩ = some (.int .u8 0) ∧ w'.cell? ⟨b, j * 3 + 1, none⟩ = some (.int .i64 m) ∧ w'.cell? ⟨b, j * 3 + 2, none⟩ = some (.int .i64 0)) (wr.drewN 1) := ⟨a0, a1, a2⟩
        refine wpAnyH_take (i := 0) (oi := ⟨some 23, _, _, _, _, none⟩) (v := ?_) rfl (by kernel_rfl) (by kernel_rfl) (by kernel_rfl) (fun _ _ _ h => h) (Or.inl ⟨by rfl, ?v0⟩) hS ?_
        case v0 => (intro w hSw; (try dsimp only at hSw); obtain ⟨s0, s1, s2⟩ := hSw; go_simp; try with_reducible rfl)
        try simp only [Act.put, List.setIfInBounds_toArray, List.set_cons_zero, List.set_cons_succ]
        refine wpAnyH_take (i := 1) (oi := ⟨some 24, _, _, _, _, none⟩) (v := ?_) rfl (by kernel_rfl) (by kernel_rfl) (by kernel_rfl) (fun _ _ _ h => h) (Or.inl ⟨by rfl, ?v1⟩) hS ?_
        case v1 => (intro w hSw; (try dsimp only at hSw); obtain ⟨s0, s1, s2⟩ := hSw; go_simp; try with_reducible rfl)
        try simp only [Act.put, List.setIfInBounds_toArray, List.set_cons_zero, List.set_cons_succ]
        refine wpAnyH_take (i := 2) (oi := ⟨some 25, _, _, _, _, none⟩) (v := ?_) rfl (by kernel_rfl) (by kernel_rfl) (by kernel_rfl) (fun _ _ _ h => h) (Or.inl ⟨by rfl, ?v2⟩) hS ?_
        case v2 => (intro w hSw; (try dsimp only at hSw); obtain ⟨s0, s1, s2⟩ := hSw; go_simp; try with_reducible rfl)
        try simp only [Act.put, List.setIfInBounds_toArray, List.set_cons_zero, List.set_cons_succ]
        refine wpAnyH_take (i := 3) (oi := ⟨some 26, _, _, _, _, none⟩) (v := ?_) rfl (by kernel_rfl) (by kernel_rfl) (by kernel_rfl) (fun _ _ _ h => h) (Or.inl ⟨by rfl, ?v3⟩) hS ?_
        case v3 => (intro w hSw; (try dsimp only at hSw); obtain ⟨s0, s1, s2⟩ := hSw; go_simp; try with_reducible rfl)
        try simp only [Act.put, List.setIfInBounds_toArray, List.set_cons_zero, List.set_cons_succ]
        refine wpAnyH_take (i := 4) (oi := ⟨some 27, _, _, _, _, none⟩) (v := ?_) rfl (by kernel_rfl) (by kernel_rfl) (by kernel_rfl) (fun _ _ _ h => h) (Or.inl ⟨by rfl, ?v4⟩) hS ?_
        case v4 => (intro w hSw; (try dsimp only at hSw); obtain ⟨s0, s1, s2⟩ := hSw; go_simp; try with_reducible rfl)
        try simp only [Act.put, List.setIfInBounds_toArray, List.set_cons_zero, List.set_cons_succ]
        refine wpAnyH_take (i := 5) (oi := ⟨some 28, _, _, _, _, some (4, true)⟩) (v := undef) rfl (by kernel_rfl) (by kernel_rfl) (by kernel_rfl) (fun _ _ _ h => h) (Or.inr ⟨by rfl, rfl⟩) hS ?_
        try simp only [Act.put, List.setIfInBounds_toArray, List.set_cons_zero, List.set_cons_succ]
        refine wpAnyH_take (i := 6) (oi := ⟨some 29, _, _, _, _, some (4, true)⟩) (v := undef) rfl (by kernel_rfl) (by kernel_rfl) (by kernel_rfl) (fun _ _ _ h => h) (Or.inr ⟨by rfl, rfl⟩) hS ?_
        try simp only [Act.put, List.setIfInBounds_toArray, List.set_cons_zero, List.set_cons_succ]
        refine wpAnyH_take (i := 7) (oi := ⟨some 30, _, _, _, _, some (4, true)⟩) (v := undef) rfl (by kernel_rfl) (by kernel_rfl) (by kernel_rfl) (fun _ _ _ h => h) (Or.inr ⟨by rfl, rfl⟩) hS ?_
        try simp only [Act.put, List.setIfInBounds_toArray, List.set_cons_zero, List.set_cons_succ]
        refine wpAnyH_take (i := 8) (oi := ⟨some 31, _, _, _, _, some (4, true)⟩) (v := undef) rfl (by kernel_rfl) (by kernel_rfl) (by kernel_rfl) (fun _ _ _ h => h) (Or.inr ⟨by rfl, rfl⟩) hS ?_
        try simp only [Act.put, List.setIfInBounds_toArray, List.set_cons_zero, List.set_cons_succ]
        refine wpAnyH_take (i := 9) (oi := ⟨some 32, _, _, _, _, some (4, true)⟩) (v := undef) rfl (by kernel_rfl) (by kernel_rfl) (by kernel_rfl) (fun _ _ _ h => h) (Or.inr ⟨by rfl, rfl⟩) hS ?_
        try simp only [Act.put, List.setIfInBounds_toArray, List.set_cons_zero, List.set_cons_succ]
        refine wpAnyH_take (i := 10) (oi := ⟨some 33, _, _, _, _, some (4, true)⟩) (v := undef) rfl (by kernel_rfl) (by kernel_rfl) (by kernel_rfl) (fun _ _ _ h => h) (Or.inr ⟨by rfl, rfl⟩) hS ?_
        try simp only [Act.put, List.setIfInBounds_toArray, List.set_cons_zero, List.set_cons_succ]
        refine wpAnyH_take (i := 11) (oi := ⟨some 34, _, _, _, _, some (4, true)⟩) (v := undef) rfl (by kernel_rfl) (by kernel_rfl) (by kernel_rfl) (fun _ _ _ h => h) (Or.inr ⟨by rfl, rfl⟩) hS ?_
        try simp only [Act.put, List.setIfInBounds_toArray, List.set_cons_zero, List.set_cons_succ]
        refine wpAnyH_take (i := 12) (oi := ⟨some 35, _, _, _, _, some (4, true)⟩) (v := undef) rfl (by kernel_rfl) (by kernel_rfl) (by kernel_rfl) (fun _ _ _ h => h) (Or.inr ⟨by rfl, rfl⟩) hS ?_
        try simp only [Act.put, List.setIfInBounds_toArray, List.set_cons_zero, List.set_cons_succ]
        refine wpAnyH_take (i := 13) (oi := ⟨some 36, _, _, _, _, some (4, true)⟩) (v := undef) rfl (by kernel_rfl) (by kernel_rfl) (by kernel_rfl) (fun _ _ _ h => h) (Or.inr ⟨by rfl, rfl⟩) hS ?_
        try simp only [Act.put, List.setIfInBounds_toArray, List.set_cons_zero, List.set_cons_succ]
        refine wpAnyH_take (i := 14) (oi := ⟨some 37, _, _, _, _, some (4, true)⟩) (v := undef) rfl (by kernel_rfl) (by kernel_rfl) (by kernel_rfl) (fun _ _ _ h => h) (Or.inr ⟨by rfl, rfl⟩) hS ?_
        try simp only [Act.put, List.setIfInBounds_toArray, List.set_cons_zero, List.set_cons_succ]
        refine wpAnyH_take (i := 15) (oi := ⟨some 38, _, _, _, _, none⟩) (v := ?_) rfl (by kernel_rfl) (by kernel_rfl) (by kernel_rfl) (fun _ _ _ h => h) (Or.inl ⟨by rfl, ?v15⟩) hS ?_
        case v15 => (intro w hSw; (try dsimp only at hSw); obtain ⟨s0, s1, s2⟩ := hSw; go_simp; try with_reducible rfl)
        try simp only [Act.put, List.setIfInBounds_toArray, List.set_cons_zero, List.set_cons_succ]
        refine wpAnyH_take (i := 16) (oi := ⟨some 39, _, _, _, _, none⟩) (v := ?_) rfl (by kernel_rfl) (by kernel_rfl) (by kernel_rfl) (fun _ _ _ h => h) (Or.inl ⟨by rfl, ?v16⟩) hS ?_
        case v16 => (intro w hSw; (try dsimp only at hSw); obtain ⟨s0, s1, s2⟩ := hSw; go_simp; try with_reducible rfl)
        try simp only [Act.put, List.setIfInBounds_toArray, List.set_cons_zero, List.set_cons_succ]
        refine wpAnyH_take (i := 17) (oi := ⟨some 40, _, _, _, _, some (16, false)⟩) (v := ?_) rfl (by kernel_rfl) (by kernel_rfl) (by kernel_rfl) (fun _ _ _ h => h) (Or.inl ⟨by rfl, ?v17⟩) hS ?_
        case v17 => (intro w hSw; (try dsimp only at hSw); obtain ⟨s0, s1, s2⟩ := hSw; go_simp; try with_reducible rfl)
        try simp only [Act.put, List.setIfInBounds_toArray, List.set_cons_zero, List.set_cons_succ]
        refine wpAnyH_take (i := 18) (oi := ⟨some 41, _, _, _, _, some (16, false)⟩) (v := ?_) rfl (by kernel_rfl) (by kernel_rfl) (by kernel_rfl) (fun _ _ _ h => h) (Or.inl ⟨by rfl, ?v18⟩) hS ?_
        case v18 => (intro w hSw; (try dsimp only at hSw); obtain ⟨s0, s1, s2⟩ := hSw; go_simp; try with_reducible rfl)
        try simp only [Act.put, List.setIfInBounds_toArray, List.set_cons_zero, List.set_cons_succ]
        refine wpAnyH_take (i := 19) (oi := ⟨some 42, _, _, _, _, some (16, false)⟩) (v := ?_) rfl (by kernel_rfl) (by kernel_rfl) (by kernel_rfl) (fun _ _ _ h => h) (Or.inl ⟨by rfl, ?v19⟩) hS ?_
        case v19 => (intro w hSw; (try dsimp only at hSw); obtain ⟨s0, s1, s2⟩ := hSw; go_simp; try with_reducible rfl)
        try simp only [Act.put, List.setIfInBounds_toArray, List.set_cons_zero, List.set_cons_succ]
        refine wpAnyH_take (i := 20) (oi := ⟨some 43, _, _, _, _, some (16, false)⟩) (v := ?_) rfl (by kernel_rfl) (by kernel_rfl) (by kernel_rfl) (fun _ _ _ h => h) (Or.inl ⟨by rfl, ?v20⟩) hS ?_
        case v20 => (intro w hSw; (try dsimp only at hSw); obtain ⟨s0, s1, s2⟩ := hSw; go_simp; try with_reducible rfl)
        try simp only [Act.put, List.setIfInBounds_toArray, List.set_cons_zero, List.set_cons_succ]
        refine wpAnyH_take (i := 21) (oi := ⟨some 44, _, _, _, _, some (16, false)⟩) (v := ?_) rfl (by kernel_rfl) (by kernel_rfl) (by kernel_rfl) (fun _ _ _ h => h) (Or.inl ⟨by rfl, ?v21⟩) hS ?_
        case v21 => (intro w hSw; (try dsimp only at hSw); obtain ⟨s0, s1, s2⟩ := hSw; go_simp; try with_reducible rfl)
        try simp only [Act.put, List.setIfInBounds_toArray, List.set_cons_zero, List.set_cons_succ]
        refine wpAnyH_take (i := 22) (oi := ⟨some 45, _, _, _, _, some (21, true)⟩) (v := ?_) rfl (by kernel_rfl) (by kernel_rfl) (by kernel_rfl) (fun _ _ _ h => h) (Or.inl ⟨by rfl, ?v22⟩) hS ?_
        case v22 => (intro w hSw; (try dsimp only at hSw); obtain ⟨s0, s1, s2⟩ := hSw; go_simp; try with_reducible rfl)
        try simp only [Act.put, List.setIfInBounds_toArray, List.set_cons_zero, List.set_cons_succ]
        refine wpAnyH_take (i := 23) (oi := ⟨some 46, _, _, _, _, some (21, true)⟩) (v := ?_) rfl (by kernel_rfl) (by kernel_rfl) (by kernel_rfl) (fun _ _ _ h => h) (Or.inl ⟨by rfl, ?v23⟩) hS ?_
        case v23 => (intro w hSw; (try dsimp only at hSw); obtain ⟨s0, s1, s2⟩ := hSw; go_simp; try with_reducible rfl)
        try simp only [Act.put, List.setIfInBounds_toArray, List.set_cons_zero, List.set_cons_succ]
        refine wpAnyH_take (i := 24) (oi := ⟨some 47, _, _, _, _, some (21, true)⟩) (v := ?_) rfl (by kernel_rfl) (by kernel_rfl) (by kernel_rfl) (fun _ _ _ h => h) (Or.inl ⟨by rfl, ?v24⟩) hS ?_
        case v24 => (intro w hSw; (try dsimp only at hSw); obtain ⟨s0, s1, s2⟩ := hSw; go_simp; try with_reducible rfl)
        try simp only [Act.put, List.setIfInBounds_toArray, List.set_cons_zero, List.set_cons_succ]
        refine wpAnyH_take (i := 25) (oi := ⟨some 48, _, _, _, _, some (21, true)⟩) (v := ?_) rfl (by kernel_rfl) (by kernel_rfl) (by kernel_rfl) (fun _ _ _ h => h) (Or.inl ⟨by rfl, ?v25⟩) hS ?_
        case v25 => (intro w hSw; (try dsimp only at hSw); obtain ⟨s0, s1, s2⟩ := hSw; go_simp; try with_reducible rfl)
        try simp only [Act.put, List.setIfInBounds_toArray, List.set_cons_zero, List.set_cons_succ]
        refine wpAnyH_take (i := 26) (oi := ⟨some 49, _, _, _, _, some (21, true)⟩) (v := ?_) rfl (by kernel_rfl) (by kernel_rfl) (by kernel_rfl) (fun _ _ _ h => h) (Or.inl ⟨by rfl, ?v26⟩) hS ?_
        case v26 => (intro w hSw; (try dsimp only at hSw); obtain ⟨s0, s1, s2⟩ := hSw; go_simp; try with_reducible rfl)
        try simp only [Act.put, List.setIfInBounds_toArray, List.set_cons_zero, List.set_cons_succ]
        refine wpAnyH_take (i := 27) (oi := ⟨some 50, _, _, _, _, some (21, true)⟩) (v := ?_) rfl (by kernel_rfl) (by kernel_rfl) (by kernel_rfl) (fun _ _ _ h => h) (Or.inl ⟨by rfl, ?v27⟩) hS ?_
        case v27 => (intro w hSw; (try dsimp only at hSw); obtain ⟨s0, s1, s2⟩ := hSw; go_simp; try with_reducible rfl)
        try simp only [Act.put, List.setIfInBounds_toArray, List.set_cons_zero, List.set_cons_succ]
        refine wpAnyH_take (i := 28) (oi := ⟨some 51, _, _, _, _, some (21, true)⟩) (v := ?_) rfl (by kernel_rfl) (by kernel_rfl) (by kernel_rfl) (fun _ _ _ h => h) (Or.inl ⟨by rfl, ?v28⟩) hS ?_
        case v28 => (intro w hSw; (try dsimp only at hSw); obtain ⟨s0, s1, s2⟩ := hSw; go_simp; try with_reducible rfl)
        try simp only [Act.put, List.setIfInBounds_toArray, List.set_cons_zero, List.set_cons_succ]
        refine wpAnyH_take (i := 29) (oi := ⟨some 52, _, _, _, _, some (21, true)⟩) (v := ?_) rfl (by kernel_rfl) (by kernel_rfl) (by kernel_rfl) (fun _ _ _ h => h) (Or.inl ⟨by rfl, ?v29⟩) hS ?_
        case v29 => (intro w hSw; (try dsimp only at hSw); obtain ⟨s0, s1, s2⟩ := hSw; go_simp; try with_reducible rfl)
        try simp only [Act.put, List.setIfInBounds_toArray, List.set_cons_zero, List.set_cons_succ]
        refine wpAnyH_ready (rs := [30]) (by kernel_rfl) (by simp) ?_
        refine AllReadyH.cons (o := ⟨some 53, _, _, _, _, some (21, true)⟩) rfl (fun K hK => ?_) AllReadyH.nil
        rw [if_pos (by rfl)]
        go_wp2_with (go_at_call 26; refine (HM.out _).mono ?_; rintro e w' ⟨rfl, hw⟩; have b0' := cell_alloc_of (n := 1) hw a0; have b1' := cell_alloc_of (n := 1) hw a1; have b2' := cell_alloc_of (n := 1) hw a2; have bb2 := below_alloc_of (n := 1) hw bb ss; clear hw)
        clear hS
        have hS : (fun w' : World => w'.cell? ⟨b, j * 3, none⟩ = some (.int .u8 0) ∧ w'.cell? ⟨b, j * 3 + 1, none⟩ = some (.int .i64 m) ∧ w'.cell? ⟨b, j * 3 + 2, none⟩ = some (.int .i64 0)) w' := ⟨b0', b1', b2'⟩
        refine hK.out _ _ hS (fun _ => ?_)
        try simp only [Act.put, List.setIfInBounds_toArray, List.set_cons_zero, List.set_cons_succ]
        refine wpAnyH_take (i := 31) (oi := ⟨some 54, _, _, _, _, some (21, true)⟩) (v := ?_) rfl (by kernel_rfl) (by kernel_rfl) (by kernel_rfl) (fun _ _ _ h => h) (Or.inl ⟨by rfl, ?v31⟩) hS ?_
        case v31 => (intro w hSw; (try dsimp only at hSw); obtain ⟨s0, s1, s2⟩ := hSw; go_simp; try with_reducible rfl)
        try simp only [Act.put, List.setIfInBounds_toArray, List.set_cons_zero, List.set_cons_succ]
        refine wpAnyH_take (i := 32) (oi := ⟨some 55, _, _, _, _, some (21, true)⟩) (v := ?_) rfl (by kernel_rfl) (by kernel_rfl) (by kernel_rfl) (fun _ _ _ h => h) (Or.inl ⟨by rfl, ?v32⟩) hS ?_
        case v32 => (intro w hSw; (try dsimp only at hSw); obtain ⟨s0, s1, s2⟩ := hSw; go_simp; try with_reducible rfl)
        try simp only [Act.put, List.setIfInBounds_toArray, List.set_cons_zero, List.set_cons_succ]
        refine wpAnyH_take (i := 33) (oi := ⟨some 56, _, _, _, _, some (16, false)⟩) (v := ?_) rfl (by kernel_rfl) (by kernel_rfl) (by kernel_rfl) (fun _ _ _ h => h) (Or.inl ⟨by rfl, ?v33⟩) hS ?_
        case v33 => (intro w hSw; (try dsimp only at hSw); obtain ⟨s0, s1, s2⟩ := hSw; go_simp; try with_reducible rfl)
        try simp only [Act.put, List.setIfInBounds_toArray, List.set_cons_zero, List.set_cons_succ]
        refine wpAnyH_take (i := 34) (oi := ⟨some 57, _, _, _, _, none⟩) (v := ?_) rfl (by kernel_rfl) (by kernel_rfl) (by kernel_rfl) (fun _ _ _ h => h) (Or.inl ⟨by rfl, ?v34⟩) hS ?_
        case v34 => (intro w hSw; (try dsimp only at hSw); obtain ⟨s0, s1, s2⟩ := hSw; go_simp; try with_reducible rfl)
        try simp only [Act.put, List.setIfInBounds_toArray, List.set_cons_zero, List.set_cons_succ]
        refine wpAnyH_done (by kernel_rfl) ?_ _
        clear w0 d1' d2'
        go_wp2
        go_roundg (gk - 1)
        case measure => have := HG.out; omega
        case rel => exact ⟨j + 1, by have := HG.out; simp only [Hid]; omega, by omega, by go_num, bb2⟩

    · have z1 : ¬ (j : Int) < (ps.length : Int) + 12 := by omega
      go_wp2
      go_ret
      exact ⟨rfl, bb⟩

end Go.Proofs.Ytpjjiighojkagaa
