/- SameFreshes, SamePuts of equal rows. -/
import Derived.Test.YtlagkfiafelnnaaDoorEqs
import Derived.Test.YtlagkfiafelnnaaDoorWri
set_option linter.unusedVariables false
set_option linter.unusedSimpArgs false
namespace Go.Proofs.YtlagkfiafelnnaaDoor
open Go.RowKit Go.Proofs.YtlagkfiafelnnaaDoorW.PrintWords

theorem size64' : (Tryd.prog.info? 64).map (·.size) = some 36 := by kernel_rfl
set_option maxHeartbeats 1600000 in
set_option maxRecDepth 100000 in
theorem sameF_yes (v v' : Value) (xs : List Fre) (W : World) (h : RdsF W v xs) (h' : RdsF W v' xs) :
    Calls Tryd.prog 51 #[v, v'] W fun e W' => e = .returned (.bool true) ∧ ∃ d, W' = W.drewN d := by
  obtain ⟨A, c, rfl, hnc, hcm⟩ := h.form
  obtain ⟨A', c', rfl, hnc', hcm'⟩ := h'.form
  have hw := Lib.hid h.2
  have HR := Lib.hid h
  have HR' := Lib.hid h'
  clear h h' hnc' 
  go_enter Tryd.func51, Tryd.ntmps51
  go_wp2
  go_loopw [5] (fun v5 wr => ∃ (j d : Nat), j ≤ xs.length ∧ v5 = .int .i64 (j : Int) ∧ wr = W.drewN d) (fun v5 _ => xs.length - (intOf v5).toNat)
  case atStart => exact ⟨0, 0, Nat.zero_le _, rfl, rfl⟩
  case round =>
    obtain ⟨j, d, hj, rfl, rfl⟩ := hrel
    by_cases hlt : j < xs.length
    · obtain ⟨b, off, rfl, hb, hat⟩ := HR.out.at_ (by omega)
      obtain ⟨b', off', rfl, hb', hat'⟩ := HR'.out.at_ (by omega)
      have hi := hat j hlt
      have hi2 := hat' j hlt
      have hwf := hw.out _ (List.getElem_mem hlt)
      generalize xs[j] = f at hi hi2 hwf
      have HI := Lib.hid hi
      have HI2 := Lib.hid hi2
      clear hi hi2
      have HEQ := Lib.hid (eq64 hwf)
      have HSZ : Hid ((Tryd.prog.info? 64).map (·.size) = some f.cells.length) := by simp only [Hid]; rw [hwf.len]; exact size64'
      clear hat hat' hb hb' hwf
      have t0 : (0 : Int) ≤ (j : Int) := by omega
      have t1 : (j : Int) < (xs.length : Int) := by omega
      go_upto_region 6 with fail
      refine wp_region_gen (S := fun w' => w'.rangeAt b (off + j * 36) f.cells ∧ w'.rangeAt b' (off' + j * 36) f.cells) (by kernel_rfl) (fun _ _ _ _ _ h => h) ?_
      intro Q' HQP HQN
      change wpAnyH _ _ _ _ _ _ _ _ ((W.drewN d).drewN 1)
      have hS : (fun w' : World => w'.rangeAt b (off + j * 36) f.cells ∧ w'.rangeAt b' (off' + j * 36) f.cells) ((W.drewN d).drewN 1) := ⟨HI.out, HI2.out⟩
      refine wpAnyH_take (i := 0) (oi := ⟨some 17, _, _, _, _, none⟩) (v := ?_) rfl (by kernel_rfl) (by kernel_rfl) (by kernel_rfl) (fun c _ w h => HQP.out c _ _ _ w h) (Or.inl ⟨by rfl, ?v0⟩) hS ?_
      case v0 => (intro w hSw; (try dsimp only at hSw); obtain ⟨s0, s1⟩ := hSw; go_simp; try with_reducible rfl)
      try simp only [Act.put, List.setIfInBounds_toArray, List.set_cons_zero, List.set_cons_succ]
      refine wpAnyH_take (i := 1) (oi := ⟨some 18, _, _, _, _, none⟩) (v := ?_) rfl (by kernel_rfl) (by kernel_rfl) (by kernel_rfl) (fun c _ w h => HQP.out c _ _ _ w h) (Or.inl ⟨by rfl, ?v1⟩) hS ?_
      case v1 => (intro w hSw; (try dsimp only at hSw); obtain ⟨s0, s1⟩ := hSw; go_simp; try with_reducible rfl)
      try simp only [Act.put, List.setIfInBounds_toArray, List.set_cons_zero, List.set_cons_succ]
      refine wpAnyH_take (i := 2) (oi := ⟨some 19, _, _, _, _, none⟩) (v := ?_) rfl (by kernel_rfl) (by kernel_rfl) (by kernel_rfl) (fun c _ w h => HQP.out c _ _ _ w h) (Or.inl ⟨by rfl, ?v2⟩) hS ?_
      case v2 => (intro w hSw; (try dsimp only at hSw); obtain ⟨s0, s1⟩ := hSw; go_simp; try with_reducible rfl)
      try simp only [Act.put, List.setIfInBounds_toArray, List.set_cons_zero, List.set_cons_succ]
      refine wpAnyH_take (i := 3) (oi := ⟨some 20, _, _, _, _, none⟩) (v := .agg f.cells.toArray) rfl (by kernel_rfl) (by kernel_rfl) (by kernel_rfl) (fun c _ w h => HQP.out c _ _ _ w h) (yieldsIf_load_mid (by rfl) 64 (.tmp 19) rfl b (off + j * 36) rfl _ _ (fun w hw => hw.1) Tryd.underlying64 rfl HSZ.out) hS ?_
      try simp only [Act.put, List.setIfInBounds_toArray, List.set_cons_zero, List.set_cons_succ]
      refine wpAnyH_take (i := 4) (oi := ⟨some 21, _, _, _, _, none⟩) (v := ?_) rfl (by kernel_rfl) (by kernel_rfl) (by kernel_rfl) (fun c _ w h => HQP.out c _ _ _ w h) (Or.inl ⟨by rfl, ?v4⟩) hS ?_
      case v4 => (intro w hSw; (try dsimp only at hSw); obtain ⟨s0, s1⟩ := hSw; go_simp; try with_reducible rfl)
      try simp only [Act.put, List.setIfInBounds_toArray, List.set_cons_zero, List.set_cons_succ]
      refine wpAnyH_take (i := 5) (oi := ⟨some 22, _, _, _, _, none⟩) (v := ?_) rfl (by kernel_rfl) (by kernel_rfl) (by kernel_rfl) (fun c _ w h => HQP.out c _ _ _ w h) (Or.inl ⟨by rfl, ?v5⟩) hS ?_
      case v5 => (intro w hSw; (try dsimp only at hSw); obtain ⟨s0, s1⟩ := hSw; go_simp; try with_reducible rfl)
      try simp only [Act.put, List.setIfInBounds_toArray, List.set_cons_zero, List.set_cons_succ]
      refine wpAnyH_take (i := 6) (oi := ⟨some 23, _, _, _, _, none⟩) (v := ?_) rfl (by kernel_rfl) (by kernel_rfl) (by kernel_rfl) (fun c _ w h => HQP.out c _ _ _ w h) (Or.inl ⟨by rfl, ?v6⟩) hS ?_
      case v6 => (intro w hSw; (try dsimp only at hSw); obtain ⟨s0, s1⟩ := hSw; go_simp; try with_reducible rfl)
      try simp only [Act.put, List.setIfInBounds_toArray, List.set_cons_zero, List.set_cons_succ]
      refine wpAnyH_take (i := 7) (oi := ⟨some 24, _, _, _, _, none⟩) (v := .agg f.cells.toArray) rfl (by kernel_rfl) (by kernel_rfl) (by kernel_rfl) (fun c _ w h => HQP.out c _ _ _ w h) (yieldsIf_load_mid (by rfl) 64 (.tmp 23) rfl b' (off' + j * 36) rfl _ _ (fun w hw => hw.2) Tryd.underlying64 rfl HSZ.out) hS ?_
      try simp only [Act.put, List.setIfInBounds_toArray, List.set_cons_zero, List.set_cons_succ]
      refine wpAnyH_take (i := 8) (oi := ⟨some 25, _, _, _, _, none⟩) (v := .bool (!true)) rfl (by kernel_rfl) (by kernel_rfl) (by kernel_rfl) (fun c _ w h => HQP.out c _ _ _ w h) (yieldsIf_neq_agg (by rfl) 64 64 (.tmp 20) (.tmp 24) rfl f.cells.toArray f.cells.toArray rfl rfl (by kernel_rfl) true HEQ.out) hS ?_
      try simp only [Act.put, List.setIfInBounds_toArray, List.set_cons_zero, List.set_cons_succ]
      refine wpAnyH_done (by kernel_rfl) ?_ _
      refine HQN.out _ _ ?_
      clear HQP HQN hS
      go_wp2
      go_roundw
      case rel => exact ⟨j + 1, _, by omega, by go_num, rfl⟩
      case measure => simp [intOf]; omega
    · go_wp2
      go_ret
      exact ⟨rfl, d, rfl⟩

theorem size72' : (Tryd.prog.info? 72).map (·.size) = some 35 := by kernel_rfl
set_option maxHeartbeats 1600000 in
set_option maxRecDepth 100000 in
theorem sameP_yes (v v' : Value) (xs : List Pu) (W : World) (h : RdsP W v xs) (h' : RdsP W v' xs) :
    Calls Tryd.prog 52 #[v, v'] W fun e W' => e = .returned (.bool true) ∧ ∃ d, W' = W.drewN d := by
  obtain ⟨A, c, rfl, hnc, hcm⟩ := h.form
  obtain ⟨A', c', rfl, hnc', hcm'⟩ := h'.form
  have hw := Lib.hid h.2
  have HR := Lib.hid h
  have HR' := Lib.hid h'
  clear h h' hnc' 
  go_enter Tryd.func52, Tryd.ntmps52
  go_wp2
  go_loopw [5] (fun v5 wr => ∃ (j d : Nat), j ≤ xs.length ∧ v5 = .int .i64 (j : Int) ∧ wr = W.drewN d) (fun v5 _ => xs.length - (intOf v5).toNat)
  case atStart => exact ⟨0, 0, Nat.zero_le _, rfl, rfl⟩
  case round =>
    obtain ⟨j, d, hj, rfl, rfl⟩ := hrel
    by_cases hlt : j < xs.length
    · obtain ⟨b, off, rfl, hb, hat⟩ := HR.out.at_ (by omega)
      obtain ⟨b', off', rfl, hb', hat'⟩ := HR'.out.at_ (by omega)
      have hi := hat j hlt
      have hi2 := hat' j hlt
      have hwf := hw.out _ (List.getElem_mem hlt)
      generalize xs[j] = f at hi hi2 hwf
      have HI := Lib.hid hi
      have HI2 := Lib.hid hi2
      clear hi hi2
      have HEQ := Lib.hid (eq72 hwf)
      have HSZ : Hid ((Tryd.prog.info? 72).map (·.size) = some f.cells.length) := by simp only [Hid]; rw [hwf.len]; exact size72'
      clear hat hat' hb hb' hwf
      have t0 : (0 : Int) ≤ (j : Int) := by omega
      have t1 : (j : Int) < (xs.length : Int) := by omega
      go_upto_region 6 with fail
      refine wp_region_gen (S := fun w' => w'.rangeAt b (off + j * 35) f.cells ∧ w'.rangeAt b' (off' + j * 35) f.cells) (by kernel_rfl) (fun _ _ _ _ _ h => h) ?_
      intro Q' HQP HQN
      change wpAnyH _ _ _ _ _ _ _ _ ((W.drewN d).drewN 1)
      have hS : (fun w' : World => w'.rangeAt b (off + j * 35) f.cells ∧ w'.rangeAt b' (off' + j * 35) f.cells) ((W.drewN d).drewN 1) := ⟨HI.out, HI2.out⟩
      refine wpAnyH_take (i := 0) (oi := ⟨some 17, _, _, _, _, none⟩) (v := ?_) rfl (by kernel_rfl) (by kernel_rfl) (by kernel_rfl) (fun c _ w h => HQP.out c _ _ _ w h) (Or.inl ⟨by rfl, ?v0⟩) hS ?_
      case v0 => (intro w hSw; (try dsimp only at hSw); obtain ⟨s0, s1⟩ := hSw; go_simp; try with_reducible rfl)
      try simp only [Act.put, List.setIfInBounds_toArray, List.set_cons_zero, List.set_cons_succ]
      refine wpAnyH_take (i := 1) (oi := ⟨some 18, _, _, _, _, none⟩) (v := ?_) rfl (by kernel_rfl) (by kernel_rfl) (by kernel_rfl) (fun c _ w h => HQP.out c _ _ _ w h) (Or.inl ⟨by rfl, ?v1⟩) hS ?_
      case v1 => (intro w hSw; (try dsimp only at hSw); obtain ⟨s0, s1⟩ := hSw; go_simp; try with_reducible rfl)
      try simp only [Act.put, List.setIfInBounds_toArray, List.set_cons_zero, List.set_cons_succ]
      refine wpAnyH_take (i := 2) (oi := ⟨some 19, _, _, _, _, none⟩) (v := ?_) rfl (by kernel_rfl) (by kernel_rfl) (by kernel_rfl) (fun c _ w h => HQP.out c _ _ _ w h) (Or.inl ⟨by rfl, ?v2⟩) hS ?_
      case v2 => (intro w hSw; (try dsimp only at hSw); obtain ⟨s0, s1⟩ := hSw; go_simp; try with_reducible rfl)
      try simp only [Act.put, List.setIfInBounds_toArray, List.set_cons_zero, List.set_cons_succ]
      refine wpAnyH_take (i := 3) (oi := ⟨some 20, _, _, _, _, none⟩) (v := .agg f.cells.toArray) rfl (by kernel_rfl) (by kernel_rfl) (by kernel_rfl) (fun c _ w h => HQP.out c _ _ _ w h) (yieldsIf_load_mid (by rfl) 72 (.tmp 19) rfl b (off + j * 35) rfl _ _ (fun w hw => hw.1) Tryd.underlying72 rfl HSZ.out) hS ?_
      try simp only [Act.put, List.setIfInBounds_toArray, List.set_cons_zero, List.set_cons_succ]
      refine wpAnyH_take (i := 4) (oi := ⟨some 21, _, _, _, _, none⟩) (v := ?_) rfl (by kernel_rfl) (by kernel_rfl) (by kernel_rfl) (fun c _ w h => HQP.out c _ _ _ w h) (Or.inl ⟨by rfl, ?v4⟩) hS ?_
      case v4 => (intro w hSw; (try dsimp only at hSw); obtain ⟨s0, s1⟩ := hSw; go_simp; try with_reducible rfl)
      try simp only [Act.put, List.setIfInBounds_toArray, List.set_cons_zero, List.set_cons_succ]
      refine wpAnyH_take (i := 5) (oi := ⟨some 22, _, _, _, _, none⟩) (v := ?_) rfl (by kernel_rfl) (by kernel_rfl) (by kernel_rfl) (fun c _ w h => HQP.out c _ _ _ w h) (Or.inl ⟨by rfl, ?v5⟩) hS ?_
      case v5 => (intro w hSw; (try dsimp only at hSw); obtain ⟨s0, s1⟩ := hSw; go_simp; try with_reducible rfl)
      try simp only [Act.put, List.setIfInBounds_toArray, List.set_cons_zero, List.set_cons_succ]
      refine wpAnyH_take (i := 6) (oi := ⟨some 23, _, _, _, _, none⟩) (v := ?_) rfl (by kernel_rfl) (by kernel_rfl) (by kernel_rfl) (fun c _ w h => HQP.out c _ _ _ w h) (Or.inl ⟨by rfl, ?v6⟩) hS ?_
      case v6 => (intro w hSw; (try dsimp only at hSw); obtain ⟨s0, s1⟩ := hSw; go_simp; try with_reducible rfl)
      try simp only [Act.put, List.setIfInBounds_toArray, List.set_cons_zero, List.set_cons_succ]
      refine wpAnyH_take (i := 7) (oi := ⟨some 24, _, _, _, _, none⟩) (v := .agg f.cells.toArray) rfl (by kernel_rfl) (by kernel_rfl) (by kernel_rfl) (fun c _ w h => HQP.out c _ _ _ w h) (yieldsIf_load_mid (by rfl) 72 (.tmp 23) rfl b' (off' + j * 35) rfl _ _ (fun w hw => hw.2) Tryd.underlying72 rfl HSZ.out) hS ?_
      try simp only [Act.put, List.setIfInBounds_toArray, List.set_cons_zero, List.set_cons_succ]
      refine wpAnyH_take (i := 8) (oi := ⟨some 25, _, _, _, _, none⟩) (v := .bool (!true)) rfl (by kernel_rfl) (by kernel_rfl) (by kernel_rfl) (fun c _ w h => HQP.out c _ _ _ w h) (yieldsIf_neq_agg (by rfl) 72 72 (.tmp 20) (.tmp 24) rfl f.cells.toArray f.cells.toArray rfl rfl (by kernel_rfl) true HEQ.out) hS ?_
      try simp only [Act.put, List.setIfInBounds_toArray, List.set_cons_zero, List.set_cons_succ]
      refine wpAnyH_done (by kernel_rfl) ?_ _
      refine HQN.out _ _ ?_
      clear HQP HQN hS
      go_wp2
      go_roundw
      case rel => exact ⟨j + 1, _, by omega, by go_num, rfl⟩
      case measure => simp [intOf]; omega
    · go_wp2
      go_ret
      exact ⟨rfl, d, rfl⟩

end Go.Proofs.YtlagkfiafelnnaaDoor
