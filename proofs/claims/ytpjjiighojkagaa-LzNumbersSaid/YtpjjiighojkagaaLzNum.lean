/- LzNumbers: the walk. (Its regions' steps are printed by wip/mklznum.py.) -/
import Derived.Test.YtpjjiighojkagaaNumP
import Derived.Lib.AppendStr
import Derived.IntWalk
set_option linter.unusedVariables false
set_option linter.unusedSimpArgs false
namespace Go.Proofs.Ytpjjiighojkagaa
open Go.RowKit Go.Proofs.YtpjjiighojkagaaW.PrintWords

theorem own_pies (W : World) (B : Nat) (ps : List Pie) (hb : B ≤ W.heap.size) (h64 : ps.length ≤ 65536) : (W.alloc (.cells (cellsQ ps).toArray 35)).ownsRow B 35 3 (.slice (some ⟨W.heap.size, 0, none⟩) ps.length ps.length) ps.length (cellsQ ps) := by
  have h := World.ownsRow_lit (base := B) (e := 35) (size := 3) W (cellsQ ps).toArray ps.length hb (by simp only [maxLen]; omega) (by simp [cellsQ_length])
  simpa using h
theorem own_base_le {w : World} {B n s : Nat} {e : TypeId} {v : Value} {xs : List Value} (h : w.ownsRow B e s v n xs) (hn : 0 < n) : B ≤ w.heap.size := by
  obtain ⟨g, c, rfl, hb, _⟩ := h.form hn
  have := own_lt h g rfl
  omega
def bsA (n : Nat) : List Int := [97, 98, 99] ++ List.replicate n 0 ++ [97, 98, 99]
theorem bsA_len (n : Nat) : (bsA n).length = 3 + n + 3 := by simp [bsA]; omega
theorem bsA_byte (n : Nat) : ∀ x ∈ bsA n, Byte x := by
  intro x hx
  simp only [bsA, List.mem_append, List.mem_replicate, List.mem_cons, List.not_mem_nil, or_false] at hx
  unfold Byte
  omega

/-- The numbers lie at gN. -/
structure NZ (B gN : Nat) (W w : World) : Prop where
  b : w.heap[gN]? = some (.cells nzA 3 (0, 0))
  bel : Below B W w
  ss : B ≤ w.heap.size
section
variable {B gN : Nat} {W w w' : World}
theorem NZ.below (h : NZ B gN W w) (hb : Below w.heap.size w w') : NZ B gN W w' := ⟨(hb.block gN (blk_lt h.b)).trans h.b, h.bel.trans (hb.mono h.ss), Nat.le_trans h.ss hb.size⟩
theorem NZ.cell (h : NZ B gN W w) {k : Nat} (hk : k < 14) : w.cell? ⟨gN, k, none⟩ = some (.int .i64 (nz.getD k 0)) := (blk_cell h.b k).trans (nzA_at k hk)
theorem NZ.grown (h : NZ B gN W w) {v : Value} {n : Nat} {xs : List Value} (ho : w.ownsRow B 35 3 v n xs) (hg : w.grownBy w' v.ownBlock) : NZ B gN W w' :=
  ⟨(hg.block gN (blk_lt h.b) (fun e => own_ne_blk ho h.b (by decide) e.symm)).trans h.b, h.bel.grown hg h.ss (fun k hk => own_base ho k hk), Nat.le_trans h.ss hg.size⟩
end

set_option maxHeartbeats 8000000 in
set_option maxRecDepth 100000 in
theorem lznumbers_walk (W : World) : Calls Try.prog 4 #[] W fun e W' => e = .returned (.bool true) ∧ Below W.heap.size W W' := by
  obtain ⟨B, hB⟩ : ∃ B, B = W.heap.size := ⟨_, rfl⟩
  rw [← hB]
  have HBW := Lib.hid hB
  clear hB
  go_enter Try.func4, Try.ntmps4
  go_upto_region 2 with fail
  obtain ⟨gN, hgN⟩ : ∃ gN, gN = W.heap.size := ⟨_, rfl⟩
  rw [← hgN]
  generalize hW1 : W.alloc _ = w1
  have HN1 : Hid (NZ B gN W w1) := ⟨by rw [← hW1, hgN]; exact heap_alloc_new W _, by rw [← hW1, HBW.out]; exact (Below.refl _ _).alloc (Nat.le_refl _) _, by rw [← hW1, HBW.out]; simp⟩
  clear hW1 hgN
  go_wp2_with fail
  refine (one_any 1 w1).mono ?_
  rintro e w2 ⟨rfl, hw⟩
  have HN2 : Hid (NZ B gN W w2) := HN1.out.below (by rw [hw]; exact (Below.refl _ _).alloc (Nat.le_refl _) _)
  clear hw
  go_wp2_with fail
  refine (one_any 2 w2).mono ?_
  rintro e w3 ⟨rfl, hw⟩
  have HN3 : Hid (NZ B gN W w3) := HN2.out.below (by rw [hw]; exact (Below.refl _ _).alloc (Nat.le_refl _) _)
  clear hw
  go_wp2_with fail
  refine (one_any 3 w3).mono ?_
  rintro e w4 ⟨rfl, hw⟩
  have HN4 : Hid (NZ B gN W w4) := HN3.out.below (by rw [hw]; exact (Below.refl _ _).alloc (Nat.le_refl _) _)
  clear hw
  go_wp2_with fail
  refine (one_any 4 w4).mono ?_
  rintro e w5 ⟨rfl, hw⟩
  have HN5 : Hid (NZ B gN W w5) := HN4.out.below (by rw [hw]; exact (Below.refl _ _).alloc (Nat.le_refl _) _)
  clear hw
  go_upto_region 3 with fail
  obtain ⟨gl, hgl⟩ : ∃ gl, gl = w5.heap.size := ⟨_, rfl⟩
  rw [← hgl]
  generalize hW6 : w5.alloc _ = w6
  have HO6 : Hid (w6.ownsRow B 35 3 (.slice (some ⟨gl, 0, none⟩) 4 4) (lP 0).length (cellsQ (lP 0))) := by
    simp only [Hid]
    rw [← hW6, hgl]
    exact own_pies w5 B (lP 0) HN5.out.ss (by decide)
  have HN6 : Hid (NZ B gN W w6) := HN5.out.below (by rw [← hW6]; exact (Below.refl _ _).alloc (Nat.le_refl _) _)
  clear hW6 hgl HN1 HN2 HN3 HN4 HN5
  go_wp2_with fail
  go_loopg [2, 3] 128 (fun gk v2 v3 wr => ∃ n : Nat, Hid (gk + n = 128) ∧ v3 = .int .i64 (n : Int) ∧ n ≤ 128 ∧ Hid (wr.ownsRow B 35 3 v2 (lP n).length (cellsQ (lP n))) ∧ Hid (NZ B gN W wr))
  case atStart => exact ⟨0, by simp [Hid], rfl, by omega, HO6.out, HN6.out⟩
  case round =>
    clear HO6 HN6
    obtain ⟨n, HG, rfl, hn, HO, HN⟩ := hrel
    by_cases hlt : n < 128
    · have t0 : (n : Int) < 128 := by omega
      go_wp2_with fail
      refine (match_any 258 4 wr).mono ?_
      rintro e w2 ⟨rfl, hw⟩
      have b2 : Below wr.heap.size wr w2 := by rw [hw]; exact (Below.refl _ _).alloc (Nat.le_refl _) _
      have HN2 := Lib.hid (HN.out.below b2)
      have HO2 := Lib.hid (pw_own_below HO.out b2)
      have hl : (lP n).length ≤ 200 := by rw [lP_length]; omega
      have HLL := Lib.hid hl
      clear hw b2 hl
      go_wp2_with (at_builtin; refine print_append_cells (w0 := W) (W := w2) B rfl _ _ 22 35 _ 3 24 rfl Try.underlying22 infoPiece rfl (by decide) (by decide) u2 (lP n).length (cellsQ (lP n)) [.int .u8 0, .int .i64 258, .int .i64 4] rfl rfl rfl (by simp [Value.oneCell']) HO2.out HN2.out.bel HN2.out.ss (by have := HLL.out; omega) ?_)
      intro v1 w1 ho1 bb1 hg1 hat1
      have HN3 := Lib.hid (HN2.out.grown HO2.out hg1)
      have HO3 : Hid (w1.ownsRow B 35 3 v1 (lP (n + 1)).length (cellsQ (lP (n + 1)))) := by
        simp only [Hid]
        rw [lP_succ, cellsQ_append, List.length_append]
        exact ho1
      clear ho1 bb1 hg1 hat1
      go_wp2
      go_roundg (gk - 1)
      case measure => have := HG.out; omega
      case rel => exact ⟨n + 1, by have := HG.out; simp only [Hid]; omega, by go_num, by omega, HO3, HN3⟩
    · have t0 : ¬ (n : Int) < 128 := by omega
      have hne : n = 128 := by omega
      subst hne
      clear HG
      go_wp2_with fail
      go_loopg [4] 14 (fun gk v4 wr => ∃ i : Nat, Hid (gk + i = 14) ∧ v4 = .int .i64 (i : Int) ∧ i ≤ 14 ∧ Hid (wr.ownsRow B 35 3 u2 (lP 128).length (cellsQ (lP 128))) ∧ Hid (NZ B gN W wr))
      case atStart => exact ⟨0, by simp [Hid], rfl, by omega, HO.out, HN.out⟩
      case round =>
        clear HO HN t0 hlt hn
        obtain ⟨i, HG, rfl, hi, HO, HN⟩ := hrel
        by_cases hil : i < 14
        · have t0 : (i : Int) < 14 := by omega
          go_wp2_with fail
          obtain ⟨gK, rfl⟩ : ∃ gK : Nat, gK = gk := ⟨_, rfl⟩
          obtain ⟨wo, rfl⟩ : ∃ wo : World, wo = wr := ⟨_, rfl⟩
          go_loopg [5] 14 (fun gk v5 wr => ∃ k : Nat, Hid (gk + k = 14) ∧ v5 = .int .i64 (k : Int) ∧ k ≤ 14 ∧ Hid (wr.ownsRow B 35 3 u2 (lP 128).length (cellsQ (lP 128))) ∧ Hid (NZ B gN W wr))
          case atStart => exact ⟨0, by simp [Hid], rfl, by omega, HO.out, HN.out⟩
          case round =>
            clear HO HN
            obtain ⟨k, HG2, rfl, hk, HO, HN⟩ := hrel
            by_cases hkl : k < 14
            · have t1 : (k : Int) < 14 := by omega
              have t2 : (0 : Int) ≤ (k : Int) := by omega
              have t3 : (0 : Int) ≤ (i : Int) := by omega
              have k0 := HN.out.cell hil
              have k1 := HN.out.cell hkl
              obtain ⟨x0, x1⟩ := nz_bd i hil
              obtain ⟨y0, y1⟩ := nz_bd k hkl
              generalize hx : nz.getD i 0 = x at *
              generalize hy : nz.getD k 0 = y at *
              have HX := Lib.hid hx
              have HY := Lib.hid hy
              have HOKP : Hid (∀ b : Int, 0 ≤ b → b < 256 → (⟨b, x, y⟩ : Pie).ok) := fun b h1 h2 => ⟨⟨h1, h2⟩, ⟨x0, x1⟩, y0, y1⟩
              have HOK9 : Hid (∀ p ∈ ([⟨0, x, y⟩, ⟨9, 0, 0⟩] : List Pie), p.ok) := by
                simp only [Hid]
                intro p hp
                simp only [List.mem_cons, List.not_mem_nil, or_false] at hp
                rcases hp with rfl | rfl
                · exact HOKP.out 0 (by decide) (by decide)
                · exact (by simp [Pie.ok])
              obtain ⟨RR, hRR⟩ : ∃ RR, RR = expFold [] (lP 128 ++ [⟨0, x, y⟩, ⟨9, 0, 0⟩]) := ⟨_, rfl⟩
              have HRR := Lib.hid hRR
              have e0 : (RR.isSome != RR.isSome) = false := by simp
              clear hRR hx hy x0 x1 y0 y1
              go_wp2_with fail
              refine wp_region_gen (S := fun w' => w'.cell? ⟨gN, i, none⟩ = some (.int .i64 x) ∧ w'.cell? ⟨gN, k, none⟩ = some (.int .i64 y)) (by kernel_rfl) (fun _ _ _ _ _ h => h) ?_
              intro Q' HQP HQN
              change wpAnyH _ _ _ _ _ _ _ _ (wr.drewN 1)
              have hS : (fun w' : World => w'.cell? ⟨gN, i, none⟩ = some (.int .i64 x) ∧ w'.cell? ⟨gN, k, none⟩ = some (.int .i64 y)) (wr.drewN 1) := ⟨k0, k1⟩
              refine wpAnyH_take (i := 0) (oi := ⟨some 49, _, _, _, _, none⟩) (v := ?_) rfl (by kernel_rfl) (by kernel_rfl) (by kernel_rfl) (fun c _ w h => HQP.out c _ _ _ w h) (Or.inl ⟨by rfl, ?v0⟩) hS ?_
              case v0 => (intro w hSw; (try dsimp only at hSw); obtain ⟨s0, s1⟩ := hSw; go_simp; try with_reducible rfl)
              try simp only [Act.put, List.setIfInBounds_toArray, List.set_cons_zero, List.set_cons_succ]
              refine wpAnyH_take (i := 1) (oi := ⟨some 50, _, _, _, _, none⟩) (v := ?_) rfl (by kernel_rfl) (by kernel_rfl) (by kernel_rfl) (fun c _ w h => HQP.out c _ _ _ w h) (Or.inl ⟨by rfl, ?v1⟩) hS ?_
              case v1 => (intro w hSw; (try dsimp only at hSw); obtain ⟨s0, s1⟩ := hSw; go_simp; try with_reducible rfl)
              try simp only [Act.put, List.setIfInBounds_toArray, List.set_cons_zero, List.set_cons_succ]
              refine wpAnyH_take (i := 2) (oi := ⟨some 51, _, _, _, _, none⟩) (v := ?_) rfl (by kernel_rfl) (by kernel_rfl) (by kernel_rfl) (fun c _ w h => HQP.out c _ _ _ w h) (Or.inl ⟨by rfl, ?v2⟩) hS ?_
              case v2 => (intro w hSw; (try dsimp only at hSw); obtain ⟨s0, s1⟩ := hSw; go_simp; try with_reducible rfl)
              try simp only [Act.put, List.setIfInBounds_toArray, List.set_cons_zero, List.set_cons_succ]
              refine wpAnyH_take (i := 3) (oi := ⟨some 52, _, _, _, _, none⟩) (v := ?_) rfl (by kernel_rfl) (by kernel_rfl) (by kernel_rfl) (fun c _ w h => HQP.out c _ _ _ w h) (Or.inl ⟨by rfl, ?v3⟩) hS ?_
              case v3 => (intro w hSw; (try dsimp only at hSw); obtain ⟨s0, s1⟩ := hSw; go_simp; try with_reducible rfl)
              try simp only [Act.put, List.setIfInBounds_toArray, List.set_cons_zero, List.set_cons_succ]
              refine wpAnyH_take (i := 4) (oi := ⟨some 53, _, _, _, _, none⟩) (v := ?_) rfl (by kernel_rfl) (by kernel_rfl) (by kernel_rfl) (fun c _ w h => HQP.out c _ _ _ w h) (Or.inl ⟨by rfl, ?v4⟩) hS ?_
              case v4 => (intro w hSw; (try dsimp only at hSw); obtain ⟨s0, s1⟩ := hSw; go_simp; try with_reducible rfl)
              try simp only [Act.put, List.setIfInBounds_toArray, List.set_cons_zero, List.set_cons_succ]
              refine wpAnyH_take (i := 5) (oi := ⟨some 54, _, _, _, _, none⟩) (v := ?_) rfl (by kernel_rfl) (by kernel_rfl) (by kernel_rfl) (fun c _ w h => HQP.out c _ _ _ w h) (Or.inl ⟨by rfl, ?v5⟩) hS ?_
              case v5 => (intro w hSw; (try dsimp only at hSw); obtain ⟨s0, s1⟩ := hSw; go_simp; try with_reducible rfl)
              try simp only [Act.put, List.setIfInBounds_toArray, List.set_cons_zero, List.set_cons_succ]
              refine wpAnyH_take (i := 6) (oi := ⟨some 55, _, _, _, _, none⟩) (v := ?_) rfl (by kernel_rfl) (by kernel_rfl) (by kernel_rfl) (fun c _ w h => HQP.out c _ _ _ w h) (Or.inl ⟨by rfl, ?v6⟩) hS ?_
              case v6 => (intro w hSw; (try dsimp only at hSw); obtain ⟨s0, s1⟩ := hSw; go_simp; try with_reducible rfl)
              try simp only [Act.put, List.setIfInBounds_toArray, List.set_cons_zero, List.set_cons_succ]
              refine wpAnyH_take (i := 7) (oi := ⟨some 56, _, _, _, _, none⟩) (v := ?_) rfl (by kernel_rfl) (by kernel_rfl) (by kernel_rfl) (fun c _ w h => HQP.out c _ _ _ w h) (Or.inl ⟨by rfl, ?v7⟩) hS ?_
              case v7 => (intro w hSw; (try dsimp only at hSw); obtain ⟨s0, s1⟩ := hSw; go_simp; try with_reducible rfl)
              try simp only [Act.put, List.setIfInBounds_toArray, List.set_cons_zero, List.set_cons_succ]
              refine wpAnyH_take (i := 8) (oi := ⟨some 57, _, _, _, _, none⟩) (v := ?_) rfl (by kernel_rfl) (by kernel_rfl) (by kernel_rfl) (fun c _ w h => HQP.out c _ _ _ w h) (Or.inl ⟨by rfl, ?v8⟩) hS ?_
              case v8 => (intro w hSw; (try dsimp only at hSw); obtain ⟨s0, s1⟩ := hSw; go_simp; try with_reducible rfl)
              try simp only [Act.put, List.setIfInBounds_toArray, List.set_cons_zero, List.set_cons_succ]
              refine wpAnyH_ready (rs := [9]) (by kernel_rfl) (by simp) ?_
              refine AllReadyH.cons (o := ⟨some 6, _, _, _, _, none⟩) rfl (fun K hK => ?_) AllReadyH.nil
              rw [if_pos (by rfl)]
              go_wp2_with fail
              generalize hA : World.alloc _ _ = w1
              obtain ⟨gp, hgp⟩ : ∃ gp, gp = wr.heap.size := ⟨_, rfl⟩
              rw [← hgp]
              have HR1 : Hid (RN gp 0 0 0 wr wr w1) := ⟨by rw [← hA, hgp]; exact heap_alloc_new _ _, by rw [← hA]; exact (pw_below_drewN (Below.refl _ _) 1).alloc (Nat.le_refl _) _, by rw [← hA]; exact (pw_below_drewN (Below.refl _ _) 1).alloc (Nat.le_refl _) _, by omega⟩
              clear hA hgp
              have z0 := blk_frozen HR1.out.p 0
              have z1 := blk_frozen HR1.out.p 1
              have z2 := blk_frozen HR1.out.p 2
              have c0 := HR1.out.c0
              have c1 := HR1.out.c1
              have c2 := HR1.out.c2
              have n0 := (HN.out.below (HR1.out).bel).cell hil
              have n1 := (HN.out.below (HR1.out).bel).cell hkl
              rw [HX.out] at n0
              rw [HY.out] at n1
              clear hS
              have hS : (fun w' : World => w'.cell? ⟨gN, i, none⟩ = some (.int .i64 x) ∧ w'.cell? ⟨gN, k, none⟩ = some (.int .i64 y)) (w1) := ⟨n0, n1⟩
              refine hK.out _ _ hS (fun _ => ?_)
              try simp only [Act.put, List.setIfInBounds_toArray, List.set_cons_zero, List.set_cons_succ]
              refine wpAnyH_ready (rs := [10]) (by kernel_rfl) (by simp) ?_
              refine AllReadyH.cons (o := ⟨none, _, _, _, _, none⟩) rfl (fun K hK => ?_) AllReadyH.nil
              rw [if_pos (by rfl)]
              go_wp2_with fail
              clear n0 n1
              generalize hA : World.setCell _ _ _ = w2
              have HR2 : Hid (RN gp 0 x y wr wr w2) := by
                simp only [Hid]
                rw [← hA]
                exact ⟨(blk_set (blk_set (blk_set HR1.out.p 0 _) 1 _) 2 _).trans (by simp), ((HR1.out.bel.setCell HR1.out.hp _).setCell HR1.out.hp _).setCell HR1.out.hp _, ((HR1.out.bel.setCell HR1.out.hp _).setCell HR1.out.hp _).setCell HR1.out.hp _, HR1.out.hp⟩
              clear hA z0 z1 z2 c0 c1 c2
              have n0 := (HN.out.below (HR2.out).bel).cell hil
              have n1 := (HN.out.below (HR2.out).bel).cell hkl
              rw [HX.out] at n0
              rw [HY.out] at n1
              clear hS
              have hS : (fun w' : World => w'.cell? ⟨gN, i, none⟩ = some (.int .i64 x) ∧ w'.cell? ⟨gN, k, none⟩ = some (.int .i64 y)) (w2) := ⟨n0, n1⟩
              refine hK.out _ _ hS (fun _ => ?_)
              try simp only [Act.put, List.setIfInBounds_toArray, List.set_cons_zero, List.set_cons_succ]
              refine wpAnyH_done (by kernel_rfl) ?_ _
              refine HQN.out _ _ ?_
              clear HQP HQN hS
              clear k0 k1 n0 n1
              go_wp2_with fail
              refine wp_region_gen (S := fun w' => w'.cell? ⟨gp, 0, none⟩ = some (.int .u8 0) ∧ w'.cell? ⟨gp, 1, none⟩ = some (.int .i64 x) ∧ w'.cell? ⟨gp, 2, none⟩ = some (.int .i64 y)) (by kernel_rfl) (fun _ _ _ _ _ h => h) ?_
              intro Q' HQP HQN
              change wpAnyH _ _ _ _ _ _ _ _ (w2.drewN 1)
              have hS : (fun w' : World => w'.cell? ⟨gp, 0, none⟩ = some (.int .u8 0) ∧ w'.cell? ⟨gp, 1, none⟩ = some (.int .i64 x) ∧ w'.cell? ⟨gp, 2, none⟩ = some (.int .i64 y)) (w2.drewN 1) := ⟨HR2.out.c0, HR2.out.c1, HR2.out.c2⟩
              refine wpAnyH_take (i := 1) (oi := ⟨some 59, _, _, _, _, none⟩) (v := ?_) rfl (by kernel_rfl) (by kernel_rfl) (by kernel_rfl) (fun c _ w h => HQP.out c _ _ _ w h) (Or.inl ⟨by rfl, ?v1⟩) hS ?_
              case v1 => (intro w hSw; (try dsimp only at hSw); obtain ⟨s0, s1, s2⟩ := hSw; go_simp; try with_reducible rfl)
              try simp only [Act.put, List.setIfInBounds_toArray, List.set_cons_zero, List.set_cons_succ]
              refine wpAnyH_ready (rs := [0]) (by kernel_rfl) (by simp) ?_
              refine AllReadyH.cons (o := ⟨some 58, _, _, _, _, none⟩) rfl (fun K hK => ?_) AllReadyH.nil
              rw [if_pos (by rfl)]
              go_wp2_with fail
              refine (one_any 7 _).mono ?_
              rintro e w11 ⟨rfl, hw⟩
              have R := (HR2.out.drew 1).below (hw ▸ (Below.refl _ _).alloc (Nat.le_refl _) _)
              have HRw11 := Lib.hid R
              clear hw R
              go_wp2_with fail
              clear hS
              have hS : (fun w' : World => w'.cell? ⟨gp, 0, none⟩ = some (.int .u8 0) ∧ w'.cell? ⟨gp, 1, none⟩ = some (.int .i64 x) ∧ w'.cell? ⟨gp, 2, none⟩ = some (.int .i64 y)) (w11) := ⟨HRw11.out.c0, HRw11.out.c1, HRw11.out.c2⟩
              refine hK.out _ _ hS (fun _ => ?_)
              try simp only [Act.put, List.setIfInBounds_toArray, List.set_cons_zero, List.set_cons_succ]
              refine wpAnyH_ready (rs := [2]) (by kernel_rfl) (by simp) ?_
              refine AllReadyH.cons (o := ⟨some 60, _, _, _, _, none⟩) rfl (fun K hK => ?_) AllReadyH.nil
              rw [if_pos (by rfl)]
              go_wp2_with fail
              generalize hA : World.alloc _ _ = w12
              have HQw12 : Hid (RdsQ w12 (.slice (some ⟨w11.heap.size, 0, none⟩) 2 2) [⟨7, 0, 0⟩, ⟨0, x, y⟩]) := by simp only [Hid]; rw [← hA]; exact pies_lit w11 [⟨7, 0, 0⟩, ⟨0, x, y⟩] (by intro p hp; simp only [List.mem_cons, List.not_mem_nil, or_false] at hp; rcases hp with rfl | rfl; exact (by simp [Pie.ok]); exact HOKP.out 0 (by decide) (by decide)) (by simp)
              have HOBw12 : Hid (w12.ownsRow 0 35 3 (.slice (some ⟨w11.heap.size, 0, none⟩) 2 2) 2 (cellsQ [⟨7, 0, 0⟩, ⟨0, x, y⟩])) := by simp only [Hid]; rw [← hA]; exact own_pies w11 0 [⟨7, 0, 0⟩, ⟨0, x, y⟩] (Nat.zero_le _) (by simp)
              have HBw12 : Hid (Below w11.heap.size w11 w12) := by simp only [Hid]; rw [← hA]; exact (Below.refl _ _).alloc (Nat.le_refl _) _
              have HRw12 := Lib.hid ((HRw11.out).below HBw12.out)
              clear hA
              generalize w11.heap.size = gw12 at *
              clear hS
              have hS : (fun w' : World => w'.cell? ⟨gp, 0, none⟩ = some (.int .u8 0) ∧ w'.cell? ⟨gp, 1, none⟩ = some (.int .i64 x) ∧ w'.cell? ⟨gp, 2, none⟩ = some (.int .i64 y)) (w12) := ⟨HRw12.out.c0, HRw12.out.c1, HRw12.out.c2⟩
              refine hK.out _ _ hS (fun _ => ?_)
              try simp only [Act.put, List.setIfInBounds_toArray, List.set_cons_zero, List.set_cons_succ]
              refine wpAnyH_ready (rs := [3]) (by kernel_rfl) (by simp) ?_
              refine AllReadyH.cons (o := ⟨some 61, _, _, _, _, none⟩) rfl (fun K hK => ?_) AllReadyH.nil
              rw [if_pos (by rfl)]
              go_wp2_with fail
              refine (expands_walk _ _ _ HQw12.out).mono ?_
              rintro e w13 ⟨rfl, bb⟩
              have R := (HRw12.out).below bb
              have HRw13 := Lib.hid R
              clear bb R
              go_wp2_with fail
              clear hS
              have hS : (fun w' : World => w'.cell? ⟨gp, 0, none⟩ = some (.int .u8 0) ∧ w'.cell? ⟨gp, 1, none⟩ = some (.int .i64 x) ∧ w'.cell? ⟨gp, 2, none⟩ = some (.int .i64 y)) (w13) := ⟨HRw13.out.c0, HRw13.out.c1, HRw13.out.c2⟩
              refine hK.out _ _ hS (fun _ => ?_)
              try simp only [Act.put, List.setIfInBounds_toArray, List.set_cons_zero, List.set_cons_succ]
              refine wpAnyH_take (i := 4) (oi := ⟨some 62, _, _, _, _, none⟩) (v := ?_) rfl (by kernel_rfl) (by kernel_rfl) (by kernel_rfl) (fun c _ w h => HQP.out c _ _ _ w h) (Or.inl ⟨by rfl, ?v4⟩) hS ?_
              case v4 => (intro w hSw; (try dsimp only at hSw); obtain ⟨s0, s1, s2⟩ := hSw; go_simp; try with_reducible rfl)
              try simp only [Act.put, List.setIfInBounds_toArray, List.set_cons_zero, List.set_cons_succ]
              refine wpAnyH_take (i := 5) (oi := ⟨some 63, _, _, _, _, none⟩) (v := ?_) rfl (by kernel_rfl) (by kernel_rfl) (by kernel_rfl) (fun c _ w h => HQP.out c _ _ _ w h) (Or.inl ⟨by rfl, ?v5⟩) hS ?_
              case v5 => (intro w hSw; (try dsimp only at hSw); obtain ⟨s0, s1, s2⟩ := hSw; go_simp; try with_reducible rfl)
              try simp only [Act.put, List.setIfInBounds_toArray, List.set_cons_zero, List.set_cons_succ]
              refine wpAnyH_take (i := 6) (oi := ⟨some 64, _, _, _, _, some (5, false)⟩) (v := ?_) rfl (by kernel_rfl) (by kernel_rfl) (by kernel_rfl) (fun c _ w h => HQP.out c _ _ _ w h) (Or.inl ⟨by rfl, ?v6⟩) hS ?_
              case v6 => (intro w hSw; (try dsimp only at hSw); obtain ⟨s0, s1, s2⟩ := hSw; go_simp; try with_reducible rfl)
              try simp only [Act.put, List.setIfInBounds_toArray, List.set_cons_zero, List.set_cons_succ]
              refine wpAnyH_ready (rs := [7]) (by kernel_rfl) (by simp) ?_
              refine AllReadyH.cons (o := ⟨some 65, _, _, _, _, some (5, false)⟩) rfl (fun K hK => ?_) AllReadyH.nil
              rw [if_pos (by rfl)]
              go_wp2_with fail
              refine (one_any 7 _).mono ?_
              rintro e w14 ⟨rfl, hw⟩
              have R := (HRw13.out).below (hw ▸ (Below.refl _ _).alloc (Nat.le_refl _) _)
              have HRw14 := Lib.hid R
              clear hw R
              go_wp2_with fail
              clear hS
              have hS : (fun w' : World => w'.cell? ⟨gp, 0, none⟩ = some (.int .u8 0) ∧ w'.cell? ⟨gp, 1, none⟩ = some (.int .i64 x) ∧ w'.cell? ⟨gp, 2, none⟩ = some (.int .i64 y)) (w14) := ⟨HRw14.out.c0, HRw14.out.c1, HRw14.out.c2⟩
              refine hK.out _ _ hS (fun _ => ?_)
              try simp only [Act.put, List.setIfInBounds_toArray, List.set_cons_zero, List.set_cons_succ]
              refine wpAnyH_ready (rs := [8]) (by kernel_rfl) (by simp) ?_
              refine AllReadyH.cons (o := ⟨some 66, _, _, _, _, some (5, false)⟩) rfl (fun K hK => ?_) AllReadyH.nil
              rw [if_pos (by rfl)]
              go_wp2_with fail
              generalize hA : World.alloc _ _ = w15
              have HQw15 : Hid (RdsQ w15 (.slice (some ⟨w14.heap.size, 0, none⟩) 2 2) [⟨0, x, y⟩, ⟨7, 0, 0⟩]) := by simp only [Hid]; rw [← hA]; exact pies_lit w14 [⟨0, x, y⟩, ⟨7, 0, 0⟩] (by intro p hp; simp only [List.mem_cons, List.not_mem_nil, or_false] at hp; rcases hp with rfl | rfl; exact HOKP.out 0 (by decide) (by decide); exact (by simp [Pie.ok])) (by simp)
              have HOBw15 : Hid (w15.ownsRow 0 35 3 (.slice (some ⟨w14.heap.size, 0, none⟩) 2 2) 2 (cellsQ [⟨0, x, y⟩, ⟨7, 0, 0⟩])) := by simp only [Hid]; rw [← hA]; exact own_pies w14 0 [⟨0, x, y⟩, ⟨7, 0, 0⟩] (Nat.zero_le _) (by simp)
              have HBw15 : Hid (Below w14.heap.size w14 w15) := by simp only [Hid]; rw [← hA]; exact (Below.refl _ _).alloc (Nat.le_refl _) _
              have HRw15 := Lib.hid ((HRw14.out).below HBw15.out)
              clear hA
              generalize w14.heap.size = gw15 at *
              clear hS
              have hS : (fun w' : World => w'.cell? ⟨gp, 0, none⟩ = some (.int .u8 0) ∧ w'.cell? ⟨gp, 1, none⟩ = some (.int .i64 x) ∧ w'.cell? ⟨gp, 2, none⟩ = some (.int .i64 y)) (w15) := ⟨HRw15.out.c0, HRw15.out.c1, HRw15.out.c2⟩
              refine hK.out _ _ hS (fun _ => ?_)
              try simp only [Act.put, List.setIfInBounds_toArray, List.set_cons_zero, List.set_cons_succ]
              refine wpAnyH_ready (rs := [9]) (by kernel_rfl) (by simp) ?_
              refine AllReadyH.cons (o := ⟨some 67, _, _, _, _, some (5, false)⟩) rfl (fun K hK => ?_) AllReadyH.nil
              rw [if_pos (by rfl)]
              go_wp2_with fail
              refine (expands_walk _ _ _ HQw15.out).mono ?_
              rintro e w16 ⟨rfl, bb⟩
              have R := (HRw15.out).below bb
              have HRw16 := Lib.hid R
              clear bb R
              go_wp2_with fail
              clear hS
              have hS : (fun w' : World => w'.cell? ⟨gp, 0, none⟩ = some (.int .u8 0) ∧ w'.cell? ⟨gp, 1, none⟩ = some (.int .i64 x) ∧ w'.cell? ⟨gp, 2, none⟩ = some (.int .i64 y)) (w16) := ⟨HRw16.out.c0, HRw16.out.c1, HRw16.out.c2⟩
              refine hK.out _ _ hS (fun _ => ?_)
              try simp only [Act.put, List.setIfInBounds_toArray, List.set_cons_zero, List.set_cons_succ]
              refine wpAnyH_take (i := 10) (oi := ⟨some 68, _, _, _, _, some (5, false)⟩) (v := ?_) rfl (by kernel_rfl) (by kernel_rfl) (by kernel_rfl) (fun c _ w h => HQP.out c _ _ _ w h) (Or.inl ⟨by rfl, ?v10⟩) hS ?_
              case v10 => (intro w hSw; (try dsimp only at hSw); obtain ⟨s0, s1, s2⟩ := hSw; go_simp; try with_reducible rfl)
              try simp only [Act.put, List.setIfInBounds_toArray, List.set_cons_zero, List.set_cons_succ]
              refine wpAnyH_take (i := 11) (oi := ⟨some 69, _, _, _, _, none⟩) (v := ?_) rfl (by kernel_rfl) (by kernel_rfl) (by kernel_rfl) (fun c _ w h => HQP.out c _ _ _ w h) (Or.inl ⟨by rfl, ?v11⟩) hS ?_
              case v11 => (intro w hSw; (try dsimp only at hSw); obtain ⟨s0, s1, s2⟩ := hSw; go_simp; try with_reducible rfl)
              try simp only [Act.put, List.setIfInBounds_toArray, List.set_cons_zero, List.set_cons_succ]
              refine wpAnyH_done (by kernel_rfl) ?_ _
              refine HQN.out _ _ ?_
              clear HQP HQN hS
              go_wp2_with fail
              refine wp_region_gen (S := fun w' => w'.cell? ⟨gp, 0, none⟩ = some (.int .u8 0) ∧ w'.cell? ⟨gp, 1, none⟩ = some (.int .i64 x) ∧ w'.cell? ⟨gp, 2, none⟩ = some (.int .i64 y)) (by kernel_rfl) (fun _ _ _ _ _ h => h) ?_
              intro Q' HQP HQN
              change wpAnyH _ _ _ _ _ _ _ _ (w16.drewN 1)
              have hS : (fun w' : World => w'.cell? ⟨gp, 0, none⟩ = some (.int .u8 0) ∧ w'.cell? ⟨gp, 1, none⟩ = some (.int .i64 x) ∧ w'.cell? ⟨gp, 2, none⟩ = some (.int .i64 y)) (w16.drewN 1) := ⟨HRw16.out.c0, HRw16.out.c1, HRw16.out.c2⟩
              refine wpAnyH_take (i := 0) (oi := ⟨some 71, _, _, _, _, none⟩) (v := ?_) rfl (by kernel_rfl) (by kernel_rfl) (by kernel_rfl) (fun c _ w h => HQP.out c _ _ _ w h) (Or.inl ⟨by rfl, ?v0⟩) hS ?_
              case v0 => (intro w hSw; (try dsimp only at hSw); obtain ⟨s0, s1, s2⟩ := hSw; go_simp; try with_reducible rfl)
              try simp only [Act.put, List.setIfInBounds_toArray, List.set_cons_zero, List.set_cons_succ]
              refine wpAnyH_take (i := 2) (oi := ⟨some 73, _, _, _, _, none⟩) (v := ?_) rfl (by kernel_rfl) (by kernel_rfl) (by kernel_rfl) (fun c _ w h => HQP.out c _ _ _ w h) (Or.inl ⟨by rfl, ?v2⟩) hS ?_
              case v2 => (intro w hSw; (try dsimp only at hSw); obtain ⟨s0, s1, s2⟩ := hSw; go_simp; try with_reducible rfl)
              try simp only [Act.put, List.setIfInBounds_toArray, List.set_cons_zero, List.set_cons_succ]
              have HLw17 := Lib.hid (pw_own_below HO.out (HRw16.out.drew 1).bel)
              refine wpAnyH_ready (rs := [1]) (by kernel_rfl) (by simp) ?_
              refine AllReadyH.cons (o := ⟨some 72, _, _, _, _, none⟩) rfl (fun K hK => ?_) AllReadyH.nil
              rw [if_pos (by rfl)]
              go_wp2_with fail
              refine (copyP_any B _ (lP 128) _ HLw17.out (by rw [lP_length]; decide)).mono ?_
              rintro e w17 ⟨vcw17, rfl, oc, bc⟩
              have R := (HRw16.out.drew 1).below bc
              have HRw17 := Lib.hid R
              have HOCw17 := Lib.hid oc
              clear R oc bc
              go_wp2_with fail
              clear hS
              have hS : (fun w' : World => w'.cell? ⟨gp, 0, none⟩ = some (.int .u8 0) ∧ w'.cell? ⟨gp, 1, none⟩ = some (.int .i64 x) ∧ w'.cell? ⟨gp, 2, none⟩ = some (.int .i64 y)) (w17) := ⟨HRw17.out.c0, HRw17.out.c1, HRw17.out.c2⟩
              refine hK.out _ _ hS (fun _ => ?_)
              try simp only [Act.put, List.setIfInBounds_toArray, List.set_cons_zero, List.set_cons_succ]
              refine wpAnyH_ready (rs := [3]) (by kernel_rfl) (by simp) ?_
              refine AllReadyH.cons (o := ⟨some 74, _, _, _, _, none⟩) rfl (fun K hK => ?_) AllReadyH.nil
              rw [if_pos (by rfl)]
              go_wp2_with fail
              refine (one_any 9 _).mono ?_
              rintro e w18 ⟨rfl, hw⟩
              have B1 : Below w17.heap.size w17 w18 := (hw ▸ (Below.refl _ _).alloc (Nat.le_refl _) _)
              have R := (HRw17.out).below B1
              have HRw18 := Lib.hid R
              have HOCw18 := Lib.hid (pw_own_below HOCw17.out B1)
              clear hw R B1
              go_wp2_with fail
              clear hS
              have hS : (fun w' : World => w'.cell? ⟨gp, 0, none⟩ = some (.int .u8 0) ∧ w'.cell? ⟨gp, 1, none⟩ = some (.int .i64 x) ∧ w'.cell? ⟨gp, 2, none⟩ = some (.int .i64 y)) (w18) := ⟨HRw18.out.c0, HRw18.out.c1, HRw18.out.c2⟩
              refine hK.out _ _ hS (fun _ => ?_)
              try simp only [Act.put, List.setIfInBounds_toArray, List.set_cons_zero, List.set_cons_succ]
              refine wpAnyH_ready (rs := [4]) (by kernel_rfl) (by simp) ?_
              refine AllReadyH.cons (o := ⟨some 75, _, _, _, _, none⟩) rfl (fun K hK => ?_) AllReadyH.nil
              rw [if_pos (by rfl)]
              go_wp2_with fail
              generalize hA : World.alloc _ _ = w19
              have HQw19 : Hid (RdsQ w19 (.slice (some ⟨w18.heap.size, 0, none⟩) 2 2) [⟨0, x, y⟩, ⟨9, 0, 0⟩]) := by simp only [Hid]; rw [← hA]; exact pies_lit w18 [⟨0, x, y⟩, ⟨9, 0, 0⟩] (by intro p hp; simp only [List.mem_cons, List.not_mem_nil, or_false] at hp; rcases hp with rfl | rfl; exact HOKP.out 0 (by decide) (by decide); exact (by simp [Pie.ok])) (by simp)
              have HOBw19 : Hid (w19.ownsRow 0 35 3 (.slice (some ⟨w18.heap.size, 0, none⟩) 2 2) 2 (cellsQ [⟨0, x, y⟩, ⟨9, 0, 0⟩])) := by simp only [Hid]; rw [← hA]; exact own_pies w18 0 [⟨0, x, y⟩, ⟨9, 0, 0⟩] (Nat.zero_le _) (by simp)
              have HBw19 : Hid (Below w18.heap.size w18 w19) := by simp only [Hid]; rw [← hA]; exact (Below.refl _ _).alloc (Nat.le_refl _) _
              have HRw19 := Lib.hid ((HRw18.out).below HBw19.out)
              clear hA
              have HOCw19 := Lib.hid (pw_own_below HOCw18.out HBw19.out)
              generalize w18.heap.size = gw19 at *
              clear hS
              have hS : (fun w' : World => w'.cell? ⟨gp, 0, none⟩ = some (.int .u8 0) ∧ w'.cell? ⟨gp, 1, none⟩ = some (.int .i64 x) ∧ w'.cell? ⟨gp, 2, none⟩ = some (.int .i64 y)) (w19) := ⟨HRw19.out.c0, HRw19.out.c1, HRw19.out.c2⟩
              refine hK.out _ _ hS (fun _ => ?_)
              try simp only [Act.put, List.setIfInBounds_toArray, List.set_cons_zero, List.set_cons_succ]
              refine wpAnyH_ready (rs := [5]) (by kernel_rfl) (by simp) ?_
              refine AllReadyH.cons (o := ⟨some 76, _, _, _, _, none⟩) rfl (fun K hK => ?_) AllReadyH.nil
              rw [if_pos (by rfl)]
              refine wp_append_owns _ 0 _ _ 22 35 _ 3 24 (by rfl) Try.underlying22 infoPiece rfl (by decide) (by decide) vcw17 (.slice (some ⟨gw19, 0, none⟩) 2 2) (lP 128).length 2 (cellsQ (lP 128)) (cellsQ [⟨0, x, y⟩, ⟨9, 0, 0⟩]) (by rfl) (by rfl) HOCw19.out HOBw19.out (cellsQ_one _) (own_base_le HOCw19.out (by rw [lP_length]; decide)) (by rw [lP_length]; decide) ?_
              intro vaw20 w20 ho hg
              have HRw20 := Lib.hid ((HRw19.out).grown hg (HRw16.out.drew 1).lt (HRw16.out.drew 1).bz.size (fun k hk => own_base HOCw19.out k hk))
              have HQw20 : Hid (RdsQ w20 vaw20 (lP 128 ++ [⟨0, x, y⟩, ⟨9, 0, 0⟩])) := own_rdsQ (n := (lP 128).length + 2) (by rw [cellsQ_append]; exact ho) (fun p hp => (List.mem_append.1 hp).elim (lP_ok 128 p) (HOK9.out p)) (by rw [List.length_append]; rfl)
              clear ho hg
              clear hS
              have hS : (fun w' : World => w'.cell? ⟨gp, 0, none⟩ = some (.int .u8 0) ∧ w'.cell? ⟨gp, 1, none⟩ = some (.int .i64 x) ∧ w'.cell? ⟨gp, 2, none⟩ = some (.int .i64 y)) (w20) := ⟨HRw20.out.c0, HRw20.out.c1, HRw20.out.c2⟩
              refine hK.out _ _ hS (fun _ => ?_)
              try simp only [Act.put, List.setIfInBounds_toArray, List.set_cons_zero, List.set_cons_succ]
              have HEw20 := Lib.hid (expand_any _ (lP 128 ++ [⟨0, x, y⟩, ⟨9, 0, 0⟩]) w20 HQw20.out)
              rw [← HRR.out] at HEw20
              refine wpAnyH_ready (rs := [6]) (by kernel_rfl) (by simp) ?_
              refine AllReadyH.cons (o := ⟨some 77, _, _, _, _, none⟩) rfl (fun K hK => ?_) AllReadyH.nil
              rw [if_pos (by rfl)]
              go_wp2_with fail
              refine HEw20.out.mono ?_
              rintro e w21 ⟨vA, rfl, oa, ba⟩
              have R := (HRw20.out).below ba
              have HRw21 := Lib.hid R
              have HOvA := Lib.hid oa
              have HBvA := Lib.hid ba
              clear R oa ba
              go_wp2_with fail
              clear hS
              have hS : (fun w' : World => w'.cell? ⟨gp, 0, none⟩ = some (.int .u8 0) ∧ w'.cell? ⟨gp, 1, none⟩ = some (.int .i64 x) ∧ w'.cell? ⟨gp, 2, none⟩ = some (.int .i64 y)) (w21) := ⟨HRw21.out.c0, HRw21.out.c1, HRw21.out.c2⟩
              refine hK.out _ _ hS (fun _ => ?_)
              try simp only [Act.put, List.setIfInBounds_toArray, List.set_cons_zero, List.set_cons_succ]
              refine wpAnyH_take (i := 7) (oi := ⟨some 70, _, _, _, _, none⟩) (v := ?_) rfl (by kernel_rfl) (by kernel_rfl) (by kernel_rfl) (fun c _ w h => HQP.out c _ _ _ w h) (Or.inl ⟨by rfl, ?v7⟩) hS ?_
              case v7 => (intro w hSw; (try dsimp only at hSw); obtain ⟨s0, s1, s2⟩ := hSw; go_simp; try with_reducible rfl)
              try simp only [Act.put, List.setIfInBounds_toArray, List.set_cons_zero, List.set_cons_succ]
              refine wpAnyH_take (i := 8) (oi := ⟨some 78, _, _, _, _, none⟩) (v := ?_) rfl (by kernel_rfl) (by kernel_rfl) (by kernel_rfl) (fun c _ w h => HQP.out c _ _ _ w h) (Or.inl ⟨by rfl, ?v8⟩) hS ?_
              case v8 => (intro w hSw; (try dsimp only at hSw); obtain ⟨s0, s1, s2⟩ := hSw; go_simp; try with_reducible rfl)
              try simp only [Act.put, List.setIfInBounds_toArray, List.set_cons_zero, List.set_cons_succ]
              refine wpAnyH_take (i := 9) (oi := ⟨some 79, _, _, _, _, none⟩) (v := ?_) rfl (by kernel_rfl) (by kernel_rfl) (by kernel_rfl) (fun c _ w h => HQP.out c _ _ _ w h) (Or.inl ⟨by rfl, ?v9⟩) hS ?_
              case v9 => (intro w hSw; (try dsimp only at hSw); obtain ⟨s0, s1, s2⟩ := hSw; go_simp; try with_reducible rfl)
              try simp only [Act.put, List.setIfInBounds_toArray, List.set_cons_zero, List.set_cons_succ]
              refine wpAnyH_take (i := 10) (oi := ⟨some 7, _, _, _, _, none⟩) (v := ?_) rfl (by kernel_rfl) (by kernel_rfl) (by kernel_rfl) (fun c _ w h => HQP.out c _ _ _ w h) (Or.inl ⟨by rfl, ?v10⟩) hS ?_
              case v10 => (intro w hSw; (try dsimp only at hSw); obtain ⟨s0, s1, s2⟩ := hSw; go_simp; try with_reducible rfl)
              try simp only [Act.put, List.setIfInBounds_toArray, List.set_cons_zero, List.set_cons_succ]
              refine wpAnyH_take (i := 11) (oi := ⟨some 8, _, _, _, _, none⟩) (v := ?_) rfl (by kernel_rfl) (by kernel_rfl) (by kernel_rfl) (fun c _ w h => HQP.out c _ _ _ w h) (Or.inl ⟨by rfl, ?v11⟩) hS ?_
              case v11 => (intro w hSw; (try dsimp only at hSw); obtain ⟨s0, s1, s2⟩ := hSw; go_simp; try with_reducible rfl)
              try simp only [Act.put, List.setIfInBounds_toArray, List.set_cons_zero, List.set_cons_succ]
              refine wpAnyH_done (by kernel_rfl) ?_ _
              refine HQN.out _ _ ?_
              clear HQP HQN hS
              go_wp2_with fail
              refine wp_region_gen (S := fun w' => w'.cell? ⟨gp, 0, none⟩ = some (.int .u8 0) ∧ w'.cell? ⟨gp, 1, none⟩ = some (.int .i64 x) ∧ w'.cell? ⟨gp, 2, none⟩ = some (.int .i64 y)) (by kernel_rfl) (fun _ _ _ _ _ h => h) ?_
              intro Q' HQP HQN
              change wpAnyH _ _ _ _ _ _ _ _ (w21.drewN 1)
              have hS : (fun w' : World => w'.cell? ⟨gp, 0, none⟩ = some (.int .u8 0) ∧ w'.cell? ⟨gp, 1, none⟩ = some (.int .i64 x) ∧ w'.cell? ⟨gp, 2, none⟩ = some (.int .i64 y)) (w21.drewN 1) := ⟨(HRw21.out).re.c0, (HRw21.out).re.c1, (HRw21.out).re.c2⟩
              refine wpAnyH_take (i := 0) (oi := ⟨some 81, _, _, _, _, none⟩) (v := ?_) rfl (by kernel_rfl) (by kernel_rfl) (by kernel_rfl) (fun c _ w h => HQP.out c _ _ _ w h) (Or.inl ⟨by rfl, ?v0⟩) hS ?_
              case v0 => (intro w hSw; (try dsimp only at hSw); obtain ⟨s0, s1, s2⟩ := hSw; go_simp; try with_reducible rfl)
              try simp only [Act.put, List.setIfInBounds_toArray, List.set_cons_zero, List.set_cons_succ]
              refine wpAnyH_take (i := 2) (oi := ⟨some 83, _, _, _, _, none⟩) (v := ?_) rfl (by kernel_rfl) (by kernel_rfl) (by kernel_rfl) (fun c _ w h => HQP.out c _ _ _ w h) (Or.inl ⟨by rfl, ?v2⟩) hS ?_
              case v2 => (intro w hSw; (try dsimp only at hSw); obtain ⟨s0, s1, s2⟩ := hSw; go_simp; try with_reducible rfl)
              try simp only [Act.put, List.setIfInBounds_toArray, List.set_cons_zero, List.set_cons_succ]
              have HLw22 := Lib.hid (pw_own_below HO.out ((HRw21.out).re.drew 1).bel)
              refine wpAnyH_ready (rs := [1]) (by kernel_rfl) (by simp) ?_
              refine AllReadyH.cons (o := ⟨some 82, _, _, _, _, none⟩) rfl (fun K hK => ?_) AllReadyH.nil
              rw [if_pos (by rfl)]
              go_wp2_with fail
              refine (copyP_any B _ (lP 128) _ HLw22.out (by rw [lP_length]; decide)).mono ?_
              rintro e w22 ⟨vcw22, rfl, oc, bc⟩
              have R := ((HRw21.out).re.drew 1).below bc
              have HRw22 := Lib.hid R
              have HOCw22 := Lib.hid oc
              clear R oc bc
              go_wp2_with fail
              clear hS
              have hS : (fun w' : World => w'.cell? ⟨gp, 0, none⟩ = some (.int .u8 0) ∧ w'.cell? ⟨gp, 1, none⟩ = some (.int .i64 x) ∧ w'.cell? ⟨gp, 2, none⟩ = some (.int .i64 y)) (w22) := ⟨HRw22.out.c0, HRw22.out.c1, HRw22.out.c2⟩
              refine hK.out _ _ hS (fun _ => ?_)
              try simp only [Act.put, List.setIfInBounds_toArray, List.set_cons_zero, List.set_cons_succ]
              refine wpAnyH_ready (rs := [3]) (by kernel_rfl) (by simp) ?_
              refine AllReadyH.cons (o := ⟨some 84, _, _, _, _, none⟩) rfl (fun K hK => ?_) AllReadyH.nil
              rw [if_pos (by rfl)]
              go_wp2_with fail
              refine (one_any 9 _).mono ?_
              rintro e w23 ⟨rfl, hw⟩
              have B1 : Below w22.heap.size w22 w23 := (hw ▸ (Below.refl _ _).alloc (Nat.le_refl _) _)
              have R := (HRw22.out).below B1
              have HRw23 := Lib.hid R
              have HOCw23 := Lib.hid (pw_own_below HOCw22.out B1)
              clear hw R B1
              go_wp2_with fail
              clear hS
              have hS : (fun w' : World => w'.cell? ⟨gp, 0, none⟩ = some (.int .u8 0) ∧ w'.cell? ⟨gp, 1, none⟩ = some (.int .i64 x) ∧ w'.cell? ⟨gp, 2, none⟩ = some (.int .i64 y)) (w23) := ⟨HRw23.out.c0, HRw23.out.c1, HRw23.out.c2⟩
              refine hK.out _ _ hS (fun _ => ?_)
              try simp only [Act.put, List.setIfInBounds_toArray, List.set_cons_zero, List.set_cons_succ]
              refine wpAnyH_ready (rs := [4]) (by kernel_rfl) (by simp) ?_
              refine AllReadyH.cons (o := ⟨some 85, _, _, _, _, none⟩) rfl (fun K hK => ?_) AllReadyH.nil
              rw [if_pos (by rfl)]
              go_wp2_with fail
              generalize hA : World.alloc _ _ = w24
              have HQw24 : Hid (RdsQ w24 (.slice (some ⟨w23.heap.size, 0, none⟩) 2 2) [⟨0, x, y⟩, ⟨9, 0, 0⟩]) := by simp only [Hid]; rw [← hA]; exact pies_lit w23 [⟨0, x, y⟩, ⟨9, 0, 0⟩] (by intro p hp; simp only [List.mem_cons, List.not_mem_nil, or_false] at hp; rcases hp with rfl | rfl; exact HOKP.out 0 (by decide) (by decide); exact (by simp [Pie.ok])) (by simp)
              have HOBw24 : Hid (w24.ownsRow 0 35 3 (.slice (some ⟨w23.heap.size, 0, none⟩) 2 2) 2 (cellsQ [⟨0, x, y⟩, ⟨9, 0, 0⟩])) := by simp only [Hid]; rw [← hA]; exact own_pies w23 0 [⟨0, x, y⟩, ⟨9, 0, 0⟩] (Nat.zero_le _) (by simp)
              have HBw24 : Hid (Below w23.heap.size w23 w24) := by simp only [Hid]; rw [← hA]; exact (Below.refl _ _).alloc (Nat.le_refl _) _
              have HRw24 := Lib.hid ((HRw23.out).below HBw24.out)
              clear hA
              have HOCw24 := Lib.hid (pw_own_below HOCw23.out HBw24.out)
              generalize w23.heap.size = gw24 at *
              clear hS
              have hS : (fun w' : World => w'.cell? ⟨gp, 0, none⟩ = some (.int .u8 0) ∧ w'.cell? ⟨gp, 1, none⟩ = some (.int .i64 x) ∧ w'.cell? ⟨gp, 2, none⟩ = some (.int .i64 y)) (w24) := ⟨HRw24.out.c0, HRw24.out.c1, HRw24.out.c2⟩
              refine hK.out _ _ hS (fun _ => ?_)
              try simp only [Act.put, List.setIfInBounds_toArray, List.set_cons_zero, List.set_cons_succ]
              refine wpAnyH_ready (rs := [5]) (by kernel_rfl) (by simp) ?_
              refine AllReadyH.cons (o := ⟨some 86, _, _, _, _, none⟩) rfl (fun K hK => ?_) AllReadyH.nil
              rw [if_pos (by rfl)]
              refine wp_append_owns _ 0 _ _ 22 35 _ 3 24 (by rfl) Try.underlying22 infoPiece rfl (by decide) (by decide) vcw22 (.slice (some ⟨gw24, 0, none⟩) 2 2) (lP 128).length 2 (cellsQ (lP 128)) (cellsQ [⟨0, x, y⟩, ⟨9, 0, 0⟩]) (by rfl) (by rfl) HOCw24.out HOBw24.out (cellsQ_one _) (own_base_le HOCw24.out (by rw [lP_length]; decide)) (by rw [lP_length]; decide) ?_
              intro vaw25 w25 ho hg
              have HRw25 := Lib.hid ((HRw24.out).grown hg ((HRw21.out).re.drew 1).lt ((HRw21.out).re.drew 1).bz.size (fun k hk => own_base HOCw24.out k hk))
              have HQw25 : Hid (RdsQ w25 vaw25 (lP 128 ++ [⟨0, x, y⟩, ⟨9, 0, 0⟩])) := own_rdsQ (n := (lP 128).length + 2) (by rw [cellsQ_append]; exact ho) (fun p hp => (List.mem_append.1 hp).elim (lP_ok 128 p) (HOK9.out p)) (by rw [List.length_append]; rfl)
              clear ho hg
              clear hS
              have hS : (fun w' : World => w'.cell? ⟨gp, 0, none⟩ = some (.int .u8 0) ∧ w'.cell? ⟨gp, 1, none⟩ = some (.int .i64 x) ∧ w'.cell? ⟨gp, 2, none⟩ = some (.int .i64 y)) (w25) := ⟨HRw25.out.c0, HRw25.out.c1, HRw25.out.c2⟩
              refine hK.out _ _ hS (fun _ => ?_)
              try simp only [Act.put, List.setIfInBounds_toArray, List.set_cons_zero, List.set_cons_succ]
              have HEw25 := Lib.hid (refExpand_any _ (lP 128 ++ [⟨0, x, y⟩, ⟨9, 0, 0⟩]) w25 HQw25.out)
              rw [← HRR.out] at HEw25
              refine wpAnyH_ready (rs := [6]) (by kernel_rfl) (by simp) ?_
              refine AllReadyH.cons (o := ⟨some 87, _, _, _, _, none⟩) rfl (fun K hK => ?_) AllReadyH.nil
              rw [if_pos (by rfl)]
              go_wp2_with fail
              refine HEw25.out.mono ?_
              rintro e w26 ⟨vC, rfl, oa, ba⟩
              have R := (HRw25.out).below ba
              have HRw26 := Lib.hid R
              have HOvC := Lib.hid oa
              have HBvC := Lib.hid ba
              clear R oa ba
              go_wp2_with fail
              clear hS
              have hS : (fun w' : World => w'.cell? ⟨gp, 0, none⟩ = some (.int .u8 0) ∧ w'.cell? ⟨gp, 1, none⟩ = some (.int .i64 x) ∧ w'.cell? ⟨gp, 2, none⟩ = some (.int .i64 y)) (w26) := ⟨HRw26.out.c0, HRw26.out.c1, HRw26.out.c2⟩
              refine hK.out _ _ hS (fun _ => ?_)
              try simp only [Act.put, List.setIfInBounds_toArray, List.set_cons_zero, List.set_cons_succ]
              refine wpAnyH_take (i := 7) (oi := ⟨some 80, _, _, _, _, none⟩) (v := ?_) rfl (by kernel_rfl) (by kernel_rfl) (by kernel_rfl) (fun c _ w h => HQP.out c _ _ _ w h) (Or.inl ⟨by rfl, ?v7⟩) hS ?_
              case v7 => (intro w hSw; (try dsimp only at hSw); obtain ⟨s0, s1, s2⟩ := hSw; go_simp; try with_reducible rfl)
              try simp only [Act.put, List.setIfInBounds_toArray, List.set_cons_zero, List.set_cons_succ]
              refine wpAnyH_take (i := 8) (oi := ⟨some 88, _, _, _, _, none⟩) (v := ?_) rfl (by kernel_rfl) (by kernel_rfl) (by kernel_rfl) (fun c _ w h => HQP.out c _ _ _ w h) (Or.inl ⟨by rfl, ?v8⟩) hS ?_
              case v8 => (intro w hSw; (try dsimp only at hSw); obtain ⟨s0, s1, s2⟩ := hSw; go_simp; try with_reducible rfl)
              try simp only [Act.put, List.setIfInBounds_toArray, List.set_cons_zero, List.set_cons_succ]
              refine wpAnyH_take (i := 9) (oi := ⟨some 89, _, _, _, _, none⟩) (v := ?_) rfl (by kernel_rfl) (by kernel_rfl) (by kernel_rfl) (fun c _ w h => HQP.out c _ _ _ w h) (Or.inl ⟨by rfl, ?v9⟩) hS ?_
              case v9 => (intro w hSw; (try dsimp only at hSw); obtain ⟨s0, s1, s2⟩ := hSw; go_simp; try with_reducible rfl)
              try simp only [Act.put, List.setIfInBounds_toArray, List.set_cons_zero, List.set_cons_succ]
              refine wpAnyH_take (i := 10) (oi := ⟨some 9, _, _, _, _, none⟩) (v := ?_) rfl (by kernel_rfl) (by kernel_rfl) (by kernel_rfl) (fun c _ w h => HQP.out c _ _ _ w h) (Or.inl ⟨by rfl, ?v10⟩) hS ?_
              case v10 => (intro w hSw; (try dsimp only at hSw); obtain ⟨s0, s1, s2⟩ := hSw; go_simp; try with_reducible rfl)
              try simp only [Act.put, List.setIfInBounds_toArray, List.set_cons_zero, List.set_cons_succ]
              refine wpAnyH_take (i := 11) (oi := ⟨some 10, _, _, _, _, none⟩) (v := ?_) rfl (by kernel_rfl) (by kernel_rfl) (by kernel_rfl) (fun c _ w h => HQP.out c _ _ _ w h) (Or.inl ⟨by rfl, ?v11⟩) hS ?_
              case v11 => (intro w hSw; (try dsimp only at hSw); obtain ⟨s0, s1, s2⟩ := hSw; go_simp; try with_reducible rfl)
              try simp only [Act.put, List.setIfInBounds_toArray, List.set_cons_zero, List.set_cons_succ]
              refine wpAnyH_done (by kernel_rfl) ?_ _
              refine HQN.out _ _ ?_
              clear HQP HQN hS
              have k0 := (HRw26.out).c0
              have z0 := blk_frozen (HRw26.out).p 0
              have HOA := Lib.hid (pw_own_below HOvA.out (HRw26.out).bz)
              go_upto_region 19 with fail
              generalize hA : World.setCell _ _ _ = w50
              have HRw50 : Hid (RN gp 1 x y wr wr w50) := by simp only [Hid]; rw [← hA]; exact (HRw26.out).set
              have HRA : Hid (Rds w50 .u8 vA (RR.getD [])) := own_rds (xs := RR.getD []) (by rw [← hA]; exact own_setCell HOA.out (own_ne HOA.out (HRw26.out).p (by decide)) _)
              have HRC : Hid (Rds w50 .u8 vC (RR.getD [])) := own_rds (xs := RR.getD []) (by rw [← hA]; exact own_setCell HOvC.out (own_ne HOvC.out (HRw26.out).p (by decide)) _)
              clear hA k0 z0
              refine wp_region_gen (S := fun w' => w'.cell? ⟨gp, 0, none⟩ = some (.int .u8 1) ∧ w'.cell? ⟨gp, 1, none⟩ = some (.int .i64 x) ∧ w'.cell? ⟨gp, 2, none⟩ = some (.int .i64 y)) (by kernel_rfl) (fun _ _ _ _ _ h => h) ?_
              intro Q' HQP HQN
              change wpAnyH _ _ _ _ _ _ _ _ (w50.drewN 1)
              have hS : (fun w' : World => w'.cell? ⟨gp, 0, none⟩ = some (.int .u8 1) ∧ w'.cell? ⟨gp, 1, none⟩ = some (.int .i64 x) ∧ w'.cell? ⟨gp, 2, none⟩ = some (.int .i64 y)) (w50.drewN 1) := ⟨HRw50.out.c0, HRw50.out.c1, HRw50.out.c2⟩
              refine wpAnyH_take (i := 0) (oi := ⟨some 91, _, _, _, _, none⟩) (v := ?_) rfl (by kernel_rfl) (by kernel_rfl) (by kernel_rfl) (fun c _ w h => HQP.out c _ _ _ w h) (Or.inl ⟨by rfl, ?v0⟩) hS ?_
              case v0 => (intro w hSw; (try dsimp only at hSw); obtain ⟨s0, s1, s2⟩ := hSw; go_simp; try with_reducible rfl)
              try simp only [Act.put, List.setIfInBounds_toArray, List.set_cons_zero, List.set_cons_succ]
              refine wpAnyH_take (i := 1) (oi := ⟨some 92, _, _, _, _, none⟩) (v := ?_) rfl (by kernel_rfl) (by kernel_rfl) (by kernel_rfl) (fun c _ w h => HQP.out c _ _ _ w h) (Or.inl ⟨by rfl, ?v1⟩) hS ?_
              case v1 => (intro w hSw; (try dsimp only at hSw); obtain ⟨s0, s1, s2⟩ := hSw; go_simp; try with_reducible rfl)
              try simp only [Act.put, List.setIfInBounds_toArray, List.set_cons_zero, List.set_cons_succ]
              refine wpAnyH_take (i := 2) (oi := ⟨some 93, _, _, _, _, none⟩) (v := ?_) rfl (by kernel_rfl) (by kernel_rfl) (by kernel_rfl) (fun c _ w h => HQP.out c _ _ _ w h) (Or.inl ⟨by rfl, ?v2⟩) hS ?_
              case v2 => (intro w hSw; (try dsimp only at hSw); obtain ⟨s0, s1, s2⟩ := hSw; go_simp; try with_reducible rfl)
              try simp only [Act.put, List.setIfInBounds_toArray, List.set_cons_zero, List.set_cons_succ]
              refine wpAnyH_take (i := 3) (oi := ⟨some 94, _, _, _, _, none⟩) (v := ?_) rfl (by kernel_rfl) (by kernel_rfl) (by kernel_rfl) (fun c _ w h => HQP.out c _ _ _ w h) (Or.inl ⟨by rfl, ?v3⟩) hS ?_
              case v3 => (intro w hSw; (try dsimp only at hSw); obtain ⟨s0, s1, s2⟩ := hSw; go_simp; try with_reducible rfl)
              try simp only [Act.put, List.setIfInBounds_toArray, List.set_cons_zero, List.set_cons_succ]
              refine wpAnyH_take (i := 4) (oi := ⟨some 95, _, _, _, _, some (3, false)⟩) (v := ?_) rfl (by kernel_rfl) (by kernel_rfl) (by kernel_rfl) (fun c _ w h => HQP.out c _ _ _ w h) (Or.inl ⟨by rfl, ?v4⟩) hS ?_
              case v4 => (intro w hSw; (try dsimp only at hSw); obtain ⟨s0, s1, s2⟩ := hSw; go_simp; try with_reducible rfl)
              try simp only [Act.put, List.setIfInBounds_toArray, List.set_cons_zero, List.set_cons_succ]
              refine wpAnyH_take (i := 5) (oi := ⟨some 96, _, _, _, _, some (3, false)⟩) (v := ?_) rfl (by kernel_rfl) (by kernel_rfl) (by kernel_rfl) (fun c _ w h => HQP.out c _ _ _ w h) (Or.inl ⟨by rfl, ?v5⟩) hS ?_
              case v5 => (intro w hSw; (try dsimp only at hSw); obtain ⟨s0, s1, s2⟩ := hSw; go_simp; try with_reducible rfl)
              try simp only [Act.put, List.setIfInBounds_toArray, List.set_cons_zero, List.set_cons_succ]
              refine wpAnyH_ready (rs := [6]) (by kernel_rfl) (by simp) ?_
              refine AllReadyH.cons (o := ⟨some 97, _, _, _, _, some (3, false)⟩) rfl (fun K hK => ?_) AllReadyH.nil
              rw [if_pos (by rfl)]
              go_wp2_with fail
              refine (same_yes _ _ (RR.getD []) (w50.drewN 1) (by exact HRA.out) (by exact HRC.out)).mono ?_
              rintro e w51 ⟨rfl, hd⟩
              have R := (HRw50.out.drew 1).quiet hd
              have HRw51 := Lib.hid R
              clear hd R
              go_wp2_with fail
              clear hS
              have hS : (fun w' : World => w'.cell? ⟨gp, 0, none⟩ = some (.int .u8 1) ∧ w'.cell? ⟨gp, 1, none⟩ = some (.int .i64 x) ∧ w'.cell? ⟨gp, 2, none⟩ = some (.int .i64 y)) (w51) := ⟨HRw51.out.c0, HRw51.out.c1, HRw51.out.c2⟩
              refine hK.out _ _ hS (fun _ => ?_)
              try simp only [Act.put, List.setIfInBounds_toArray, List.set_cons_zero, List.set_cons_succ]
              refine wpAnyH_take (i := 7) (oi := ⟨some 98, _, _, _, _, some (3, false)⟩) (v := ?_) rfl (by kernel_rfl) (by kernel_rfl) (by kernel_rfl) (fun c _ w h => HQP.out c _ _ _ w h) (Or.inl ⟨by rfl, ?v7⟩) hS ?_
              case v7 => (intro w hSw; (try dsimp only at hSw); obtain ⟨s0, s1, s2⟩ := hSw; go_simp; try with_reducible rfl)
              try simp only [Act.put, List.setIfInBounds_toArray, List.set_cons_zero, List.set_cons_succ]
              refine wpAnyH_take (i := 8) (oi := ⟨some 99, _, _, _, _, none⟩) (v := ?_) rfl (by kernel_rfl) (by kernel_rfl) (by kernel_rfl) (fun c _ w h => HQP.out c _ _ _ w h) (Or.inl ⟨by rfl, ?v8⟩) hS ?_
              case v8 => (intro w hSw; (try dsimp only at hSw); obtain ⟨s0, s1, s2⟩ := hSw; go_simp; try with_reducible rfl)
              try simp only [Act.put, List.setIfInBounds_toArray, List.set_cons_zero, List.set_cons_succ]
              refine wpAnyH_take (i := 9) (oi := ⟨some 100, _, _, _, _, none⟩) (v := ?_) rfl (by kernel_rfl) (by kernel_rfl) (by kernel_rfl) (fun c _ w h => HQP.out c _ _ _ w h) (Or.inl ⟨by rfl, ?v9⟩) hS ?_
              case v9 => (intro w hSw; (try dsimp only at hSw); obtain ⟨s0, s1, s2⟩ := hSw; go_simp; try with_reducible rfl)
              try simp only [Act.put, List.setIfInBounds_toArray, List.set_cons_zero, List.set_cons_succ]
              refine wpAnyH_take (i := 11) (oi := ⟨some 102, _, _, _, _, some (9, false)⟩) (v := ?_) rfl (by kernel_rfl) (by kernel_rfl) (by kernel_rfl) (fun c _ w h => HQP.out c _ _ _ w h) (Or.inl ⟨by rfl, ?v11⟩) hS ?_
              case v11 => (intro w hSw; (try dsimp only at hSw); obtain ⟨s0, s1, s2⟩ := hSw; go_simp; try with_reducible rfl)
              try simp only [Act.put, List.setIfInBounds_toArray, List.set_cons_zero, List.set_cons_succ]
              refine wpAnyH_ready (rs := [10]) (by kernel_rfl) (by simp) ?_
              refine AllReadyH.cons (o := ⟨some 101, _, _, _, _, some (9, false)⟩) rfl (fun K hK => ?_) AllReadyH.nil
              rw [if_pos (by rfl)]
              go_wp2_with fail
              refine (one_any 7 _).mono ?_
              rintro e w52 ⟨rfl, hw⟩
              have R := (HRw51.out).below (hw ▸ (Below.refl _ _).alloc (Nat.le_refl _) _)
              have HRw52 := Lib.hid R
              clear hw R
              go_wp2_with fail
              clear hS
              have hS : (fun w' : World => w'.cell? ⟨gp, 0, none⟩ = some (.int .u8 1) ∧ w'.cell? ⟨gp, 1, none⟩ = some (.int .i64 x) ∧ w'.cell? ⟨gp, 2, none⟩ = some (.int .i64 y)) (w52) := ⟨HRw52.out.c0, HRw52.out.c1, HRw52.out.c2⟩
              refine hK.out _ _ hS (fun _ => ?_)
              try simp only [Act.put, List.setIfInBounds_toArray, List.set_cons_zero, List.set_cons_succ]
              refine wpAnyH_ready (rs := [12]) (by kernel_rfl) (by simp) ?_
              refine AllReadyH.cons (o := ⟨some 103, _, _, _, _, some (9, false)⟩) rfl (fun K hK => ?_) AllReadyH.nil
              rw [if_pos (by rfl)]
              go_wp2_with fail
              generalize hA : World.alloc _ _ = w53
              have HQw53 : Hid (RdsQ w53 (.slice (some ⟨w52.heap.size, 0, none⟩) 2 2) [⟨7, 0, 0⟩, ⟨1, x, y⟩]) := by simp only [Hid]; rw [← hA]; exact pies_lit w52 [⟨7, 0, 0⟩, ⟨1, x, y⟩] (by intro p hp; simp only [List.mem_cons, List.not_mem_nil, or_false] at hp; rcases hp with rfl | rfl; exact (by simp [Pie.ok]); exact HOKP.out 1 (by decide) (by decide)) (by simp)
              have HOBw53 : Hid (w53.ownsRow 0 35 3 (.slice (some ⟨w52.heap.size, 0, none⟩) 2 2) 2 (cellsQ [⟨7, 0, 0⟩, ⟨1, x, y⟩])) := by simp only [Hid]; rw [← hA]; exact own_pies w52 0 [⟨7, 0, 0⟩, ⟨1, x, y⟩] (Nat.zero_le _) (by simp)
              have HBw53 : Hid (Below w52.heap.size w52 w53) := by simp only [Hid]; rw [← hA]; exact (Below.refl _ _).alloc (Nat.le_refl _) _
              have HRw53 := Lib.hid ((HRw52.out).below HBw53.out)
              clear hA
              generalize w52.heap.size = gw53 at *
              clear hS
              have hS : (fun w' : World => w'.cell? ⟨gp, 0, none⟩ = some (.int .u8 1) ∧ w'.cell? ⟨gp, 1, none⟩ = some (.int .i64 x) ∧ w'.cell? ⟨gp, 2, none⟩ = some (.int .i64 y)) (w53) := ⟨HRw53.out.c0, HRw53.out.c1, HRw53.out.c2⟩
              refine hK.out _ _ hS (fun _ => ?_)
              try simp only [Act.put, List.setIfInBounds_toArray, List.set_cons_zero, List.set_cons_succ]
              refine wpAnyH_ready (rs := [13]) (by kernel_rfl) (by simp) ?_
              refine AllReadyH.cons (o := ⟨some 104, _, _, _, _, some (9, false)⟩) rfl (fun K hK => ?_) AllReadyH.nil
              rw [if_pos (by rfl)]
              go_wp2_with fail
              refine (expands_walk _ _ _ HQw53.out).mono ?_
              rintro e w54 ⟨rfl, bb⟩
              have R := (HRw53.out).below bb
              have HRw54 := Lib.hid R
              clear bb R
              go_wp2_with fail
              clear hS
              have hS : (fun w' : World => w'.cell? ⟨gp, 0, none⟩ = some (.int .u8 1) ∧ w'.cell? ⟨gp, 1, none⟩ = some (.int .i64 x) ∧ w'.cell? ⟨gp, 2, none⟩ = some (.int .i64 y)) (w54) := ⟨HRw54.out.c0, HRw54.out.c1, HRw54.out.c2⟩
              refine hK.out _ _ hS (fun _ => ?_)
              try simp only [Act.put, List.setIfInBounds_toArray, List.set_cons_zero, List.set_cons_succ]
              refine wpAnyH_take (i := 14) (oi := ⟨some 105, _, _, _, _, some (9, false)⟩) (v := ?_) rfl (by kernel_rfl) (by kernel_rfl) (by kernel_rfl) (fun c _ w h => HQP.out c _ _ _ w h) (Or.inl ⟨by rfl, ?v14⟩) hS ?_
              case v14 => (intro w hSw; (try dsimp only at hSw); obtain ⟨s0, s1, s2⟩ := hSw; go_simp; try with_reducible rfl)
              try simp only [Act.put, List.setIfInBounds_toArray, List.set_cons_zero, List.set_cons_succ]
              refine wpAnyH_take (i := 15) (oi := ⟨some 106, _, _, _, _, none⟩) (v := ?_) rfl (by kernel_rfl) (by kernel_rfl) (by kernel_rfl) (fun c _ w h => HQP.out c _ _ _ w h) (Or.inl ⟨by rfl, ?v15⟩) hS ?_
              case v15 => (intro w hSw; (try dsimp only at hSw); obtain ⟨s0, s1, s2⟩ := hSw; go_simp; try with_reducible rfl)
              try simp only [Act.put, List.setIfInBounds_toArray, List.set_cons_zero, List.set_cons_succ]
              refine wpAnyH_done (by kernel_rfl) ?_ _
              refine HQN.out _ _ ?_
              clear HQP HQN hS
              go_wp2_with fail
              go_roundg (gk - 1)
              case measure => have := HG2.out; omega
              case rel => exact ⟨k + 1, by have := HG2.out; simp only [Hid]; omega, by go_num, by omega, pw_own_below HO.out HRw54.out.bel, HN.out.below HRw54.out.bel⟩
            · have t1 : ¬ (k : Int) < 14 := by omega
              go_wp2_with fail
              go_roundg (gK - 1)
              case measure => have := HG.out; omega
              case rel => exact ⟨i + 1, by have := HG.out; simp only [Hid]; omega, by go_num, by omega, HO, HN⟩
        · have t0 : ¬ (i : Int) < 14 := by omega
          have HBB0 := Lib.hid HN.out.bel
          have HSS0 := Lib.hid HN.out.ss
          clear HN HO HG hil hi
          go_wp2_with fail
          go_loopg [11] 6 (fun gk v11 wr => ∃ n : Nat, Hid (gk + n = 32769) ∧ v11 = .int .i64 (n : Int) ∧ 32763 ≤ n ∧ n ≤ 32769 ∧ Hid (Below B W wr) ∧ Hid (B ≤ wr.heap.size))
          case atStart => exact ⟨32763, by simp [Hid], rfl, by omega, by omega, HBB0.out, HSS0.out⟩
          case round =>
            clear HBB0 HSS0 t0
            obtain ⟨n, HG, rfl, hn1, hn2, HBB, HSS⟩ := hrel
            by_cases hnl : n < 32769
            · have t1 : (n : Int) < 32769 := by omega
              obtain ⟨cs, hcs⟩ : ∃ cs : Array Value, cs = #[.int .u8 97, .int .u8 98, .int .u8 99] := ⟨_, rfl⟩
              have hcz : cs.size = 3 := by rw [hcs]; rfl
              have hcv := run_convert_mark (wr.alloc (.cells cs 5)) wr.heap.size 3 3 cs (0, 0) (heap_alloc_new wr _)
              rw [hcz] at hcv
              have hcl : ∀ j u, (nums .u8 [97, 98, 99])[j]? = some u → ((wr.alloc (.cells cs 5)).freeze ⟨wr.heap.size, 3, none⟩ 1).cell? ((⟨wr.heap.size, 0, none⟩ : Addr).add j) = some u := by
                intro j u hu
                rw [cell_freeze, add_plain, hcs]
                exact (blk_cell (heap_alloc_new wr _) j).trans (by simpa [nums] using hu)
              have hbe : Below wr.heap.size wr ((wr.alloc (.cells cs 5)).freeze ⟨wr.heap.size, 3, none⟩ 1) := frz_below ((Below.refl _ _).alloc (Nat.le_refl _) _) (Nat.le_refl _) (by simp) 1
              rw [hcs] at hcv hcl hbe
              have HCL := Lib.hid hcl
              have HBE := Lib.hid hbe
              clear hcl hbe hcs hcz
              go_wp2_with (at_builtin; refine wpList_zeros_grow rfl _ _ 25 3 5 rfl Try.underlying25 Try.underlying3 infoByte ⟨wr.heap.size, 0, none⟩ 3 3 (nums .u8 [97, 98, 99]) rfl HCL.out .i64 n rfl rfl (by omega) (by omega) (by omega) ?_)
              intro v1 w1 ho1 hg1
              have HO1 := Lib.hid (own_less (base := wr.heap.size) ho1 HBE.out.size)
              have HB1 := Lib.hid (HBE.out.grown hg1 HBE.out.size (fun k hk => by simp at hk))
              have hs1 : wr.heap.size ≤ w1.heap.size := HB1.out.size
              have HS1 := Lib.hid hs1
              obtain ⟨i0, hi0, hz0, hz1, hz2⟩ := info_parts infoByte
              have HI := Lib.hid (And.intro hi0 (And.intro hz0 (And.intro hz1 hz2)))
              have hsz : (⟨#[97, 98, 99]⟩ : ByteArray).size = 3 := rfl
              have HZ1 : Hid (3 + n + (⟨#[97, 98, 99]⟩ : ByteArray).size ≤ maxLen) := by simp only [Hid]; rw [hsz]; simp only [maxLen]; omega
              have HZ2 : Hid (3 + n + (⟨#[97, 98, 99]⟩ : ByteArray).size ≤ 140737488355328) := by simp only [Hid]; rw [hsz]; omega
              clear hsz
              clear ho1 hg1 hs1 hcv hi0 hz0 hz1 hz2 HCL HBE
              go_wp2_with (at_builtin; refine Lib.wpList_append_own_string w1 rfl _ _ 25 9 rfl wr.heap.size 5 i0 Try.underlying25 Try.underlying9 HI.out.1 HI.out.2.1 HI.out.2.2.1 HI.out.2.2.2 v1 (3 + n) _ rfl HO1.out ⟨#[97, 98, 99]⟩ rfl HZ1.out HZ2.out HS1.out ?_)
              intro v2 w2 ho2 hg2 _
              have HB2 := Lib.hid (HB1.out.grown hg2 HS1.out (fun k hk => own_base HO1.out k (by first | exact hk | exact hk.symm)))
              have HO2 : Hid (w2.ownsRow wr.heap.size 5 1 v2 (bsA n).length (nums .u8 (bsA n))) := by
                simp only [Hid]
                rw [bsA_len]
                have e : nums .u8 (bsA n) = nums .u8 [97, 98, 99] ++ nums .u8 (List.replicate n 0) ++ Lib.strCells ⟨#[97, 98, 99]⟩ := by
                  rw [show Lib.strCells ⟨#[97, 98, 99]⟩ = nums .u8 [97, 98, 99] from rfl]
                  simp [bsA, nums]
                rw [e]
                exact ho2
              have HBB2 := Lib.hid (HBB.out.trans (HB2.out.mono HSS.out))
              have HSS2 : Hid (B ≤ w2.heap.size) := Nat.le_trans HSS.out HB2.out.size
              have HR2 := Lib.hid (own_rds (xs := bsA n) HO2.out)
              have hlen := bsA_len n
              have HLN : Hid ((bsA n).length ≤ 65536) := by simp only [Hid]; omega
              clear ho2 hg2 hlen
              go_wp2_with fail
              refine (parse_any _ (bsA n) w2 HR2.out (bsA_byte n) HLN.out).mono ?_
              rintro e w3 ⟨v3, out, rfl, HO3, b3, hPS⟩
              have HBB3 := Lib.hid (HBB2.out.trans (b3.mono HSS2.out))
              have HSS3 : Hid (B ≤ w3.heap.size) := Nat.le_trans HSS2.out b3.size
              have HR3 := Lib.hid (HR2.out.below b3)
              have hsay := hPS.says (base := []) (by have := HLN.out; simp; omega)
              rw [List.take_length, List.nil_append] at hsay
              have HQ3 := Lib.hid (own_rdsQ HO3.out (hPS.ok (bsA_byte n) HLN.out) rfl)
              have HSY := Lib.hid hsay
              clear b3 hPS hsay HO3
              go_wp2_with fail
              refine (expand_any _ out w3 HQ3.out).mono ?_
              rw [HSY.out]
              rintro e w4 ⟨v4, rfl, o4, b4⟩
              have HBB4 := Lib.hid (HBB3.out.trans (b4.mono HSS3.out))
              have HSS4 : Hid (B ≤ w4.heap.size) := Nat.le_trans HSS3.out b4.size
              have HR4 := Lib.hid (HR3.out.below b4)
              have HC4 : Hid (Rds w4 .u8 v4 (bsA n)) := own_rds (xs := bsA n) (by simpa using o4)
              simp only [Option.isSome_some]
              clear o4 b4
              go_wp2_with fail
              refine (same_yes _ _ (bsA n) w4 HR4.out HC4.out).mono ?_
              rintro e w5 ⟨rfl, d, hd⟩
              have HBB5 : Hid (Below B W w5) := by simp only [Hid]; rw [hd]; exact pw_below_drewN HBB4.out d
              have HSS5 : Hid (B ≤ w5.heap.size) := by simp only [Hid]; rw [hd]; exact HSS4.out
              clear hd
              go_wp2_with fail
              go_roundg (gk - 1)
              case measure => have := HG.out; omega
              case rel => exact ⟨n + 1, by have := HG.out; simp only [Hid]; omega, by go_num, by omega, by omega, HBB5, HSS5⟩
            · have t1 : ¬ (n : Int) < 32769 := by omega
              clear HG
              go_wp2_with fail
              refine (one_any 5 wr).mono ?_
              rintro e w2 ⟨rfl, hw⟩
              have b2 : Below wr.heap.size wr w2 := by rw [hw]; exact (Below.refl _ _).alloc (Nat.le_refl _) _
              have HB2 := Lib.hid (HBB.out.trans (b2.mono HSS.out))
              have HS2 : Hid (B ≤ w2.heap.size) := Nat.le_trans HSS.out b2.size
              clear hw b2
              go_wp2_with fail
              refine (one_any 6 w2).mono ?_
              rintro e w3 ⟨rfl, hw⟩
              have b3 : Below w2.heap.size w2 w3 := by rw [hw]; exact (Below.refl _ _).alloc (Nat.le_refl _) _
              have HB3 := Lib.hid (HB2.out.trans (b3.mono HS2.out))
              have HS3 : Hid (B ≤ w3.heap.size) := Nat.le_trans HS2.out b3.size
              have HAL : Hid (Below w3.heap.size w3 (w3.alloc (.cells (cellsQ [⟨5, 0, 0⟩, ⟨6, 0, 0⟩]).toArray 35))) := (Below.refl _ _).alloc (Nat.le_refl _) _
              clear hw b3
              go_wp2_with (at_builtin; refine append_owns B 0 rfl _ _ 22 35 _ 3 24 rfl Try.underlying22 infoPiece rfl (by decide) (by decide) (.slice none 0 0) (.slice (some ⟨w3.heap.size, 0, none⟩) 2 2) 0 2 [] (cellsQ [⟨5, 0, 0⟩, ⟨6, 0, 0⟩]) rfl rfl (World.ownsRow_nil _ _ _ _) (own_pies w3 0 [⟨5, 0, 0⟩, ⟨6, 0, 0⟩] (Nat.zero_le _) (by decide)) (cellsQ_one _) (Nat.le_trans HS3.out HAL.out.size) (by decide) ?_)
              intro v4 w4 ho4 hg4
              have HB4 := Lib.hid ((HB3.out.trans (HAL.out.mono HS3.out)).grown hg4 (Nat.le_trans HS3.out HAL.out.size) (fun k hk => by simp [Value.ownBlock] at hk))
              have HS4 : Hid (B ≤ w4.heap.size) := Nat.le_trans (Nat.le_trans HS3.out HAL.out.size) hg4.size
              have HO4 : Hid (w4.ownsRow B 35 3 v4 (fullP 0).length (cellsQ (fullP 0))) := ho4
              clear ho4 hg4 HAL
              go_wp2_with fail
              go_loopg [15, 16] 254 (fun gk v15 v16 wr => ∃ n : Nat, Hid (gk + n = 254) ∧ v16 = .int .i64 (n : Int) ∧ n ≤ 254 ∧ Hid (wr.ownsRow B 35 3 v15 (fullP n).length (cellsQ (fullP n))) ∧ Hid (Below B W wr) ∧ Hid (B ≤ wr.heap.size))
              case atStart => exact ⟨0, by simp [Hid], rfl, by omega, HO4.out, HB4.out, HS4.out⟩
              case round =>
              clear HO4 HB4 HS4 HB3 HS3 HB2 HS2 HBB HSS t1 hn1 hn2 hnl
              obtain ⟨n, HG, rfl, hn, HFr, HBr, HSr⟩ := hrel
              by_cases hlt : n < 254
              · have t0 : (n : Int) < 254 := by omega
                go_wp2_with fail
                refine (match_any 258 _ wr).mono ?_
                rintro e w2 ⟨rfl, hw⟩
                have b2 : Below wr.heap.size wr w2 := by rw [hw]; exact (Below.refl _ _).alloc (Nat.le_refl _) _
                have HB2 := Lib.hid (HBr.out.trans (b2.mono HSr.out))
                have HS2 : Hid (B ≤ w2.heap.size) := Nat.le_trans HSr.out b2.size
                have HO2 := Lib.hid (pw_own_below HFr.out b2)
                have hl : (fullP n).length ≤ 300 := by rw [fullP_length]; omega
                have HLL := Lib.hid hl
                clear hw b2 hl
                go_wp2_with (at_builtin; refine print_append_cells (w0 := W) (W := w2) B rfl _ _ 22 35 _ 3 24 rfl Try.underlying22 infoPiece rfl (by decide) (by decide) u15 (fullP n).length (cellsQ (fullP n)) [.int .u8 0, .int .i64 258, .int .i64 (1 + (n : Int) % 2)] rfl rfl rfl (by simp [Value.oneCell']) HO2.out HB2.out HS2.out (by have := HLL.out; omega) ?_)
                intro v1 w1 ho1 bb1 hg1 hat1
                have HB3 := Lib.hid bb1
                have HS3 : Hid (B ≤ w1.heap.size) := Nat.le_trans HS2.out hg1.size
                have HO3 : Hid (w1.ownsRow B 35 3 v1 (fullP (n + 1)).length (cellsQ (fullP (n + 1)))) := by
                  simp only [Hid]
                  rw [fullP_succ, cellsQ_append, List.length_append]
                  have e1 : (1 + (n : Int) % 2) = 1 + ((n % 2 : Nat) : Int) := by omega
                  rw [e1] at ho1
                  exact ho1
                clear ho1 bb1 hg1 hat1
                go_wp2
                go_roundg (gk - 1)
                case measure => have := HG.out; omega
                case rel => exact ⟨n + 1, by have := HG.out; simp only [Hid]; omega, by go_num, by omega, HO3, HB3, HS3⟩
              have t0 : ¬ (n : Int) < 254 := by omega
              have hne : n = 254 := by omega
              subst hne
              clear HG hn hlt
              go_wp2_with fail
              refine (copyP_any B _ (fullP 254) wr HFr.out (by rw [fullP_length]; decide)).mono ?_
              rintro e wc1 ⟨vc1, rfl, oc, bc⟩
              have HFc1 := Lib.hid (pw_own_below HFr.out bc)
              have HBc1 := Lib.hid (HBr.out.trans (bc.mono HSr.out))
              have HSc1 : Hid (B ≤ wc1.heap.size) := Nat.le_trans HSr.out bc.size
              have HCc1 := Lib.hid oc
              have HGE1 : Hid (B ≤ wr.heap.size) := HSr.out
              clear oc bc
              go_wp2_with fail
              refine (one_any 1 wc1).mono ?_
              rintro e wo10 ⟨rfl, hw⟩
              have b1 : Below wc1.heap.size wc1 wo10 := by rw [hw]; exact (Below.refl _ _).alloc (Nat.le_refl _) _
              have HFo10 := Lib.hid (pw_own_below HFc1.out b1)
              have HCo10 := Lib.hid (pw_own_below HCc1.out b1)
              have HBo10 := Lib.hid (HBc1.out.trans (b1.mono HSc1.out))
              have HSo10 : Hid (B ≤ wo10.heap.size) := Nat.le_trans HSc1.out b1.size
              clear b1 hw
              go_wp2_with fail
              refine (one_any 1 wo10).mono ?_
              rintro e wo11 ⟨rfl, hw⟩
              have b1 : Below wo10.heap.size wo10 wo11 := by rw [hw]; exact (Below.refl _ _).alloc (Nat.le_refl _) _
              have HFo11 := Lib.hid (pw_own_below HFo10.out b1)
              have HCo11 := Lib.hid (pw_own_below HCo10.out b1)
              have HBo11 := Lib.hid (HBo10.out.trans (b1.mono HSo10.out))
              have HSo11 : Hid (B ≤ wo11.heap.size) := Nat.le_trans HSo10.out b1.size
              clear b1 hw
              have HAL : Hid (Below wo11.heap.size wo11 (wo11.alloc (.cells (cellsQ [⟨1, 0, 0⟩, ⟨1, 0, 0⟩]).toArray 35))) := (Below.refl _ _).alloc (Nat.le_refl _) _
              go_wp2_with (at_builtin; refine append_owns _ 0 rfl _ _ 22 35 _ 3 24 rfl Try.underlying22 infoPiece rfl (by decide) (by decide) vc1 (.slice (some ⟨wo11.heap.size, 0, none⟩) 2 2) (fullP 254).length 2 (cellsQ (fullP 254)) (cellsQ [⟨1, 0, 0⟩, ⟨1, 0, 0⟩]) rfl rfl (HCo11.out.alloc _) (own_pies wo11 0 [⟨1, 0, 0⟩, ⟨1, 0, 0⟩] (Nat.zero_le _) (by decide)) (cellsQ_one _) (own_base_le (HCo11.out.alloc _) (by rw [fullP_length]; decide)) (by rw [fullP_length]; decide) ?_)
              intro v1 wa1 ho hg
              have hge : ∀ q, (vc1).ownBlock = some q → B ≤ q := fun q hq => Nat.le_trans HGE1.out (own_base HCo11.out q hq)
              have hfar : ∀ q, (vc1).ownBlock = some q → wr.heap.size ≤ q := fun q hq => own_base HCo11.out q hq
              have HQ1 : Hid (RdsQ wa1 v1 (fullP 254 ++ [⟨1, 0, 0⟩, ⟨1, 0, 0⟩])) := own_rdsQ (n := (fullP 254).length + 2) (by rw [cellsQ_append]; exact ho) (fun p hp => (List.mem_append.1 hp).elim (fullP_ok 254 p) (by simp; rintro rfl; simp [Pie.ok])) (by rw [List.length_append]; rfl)
              have HBa1 := Lib.hid (((HBo11.out.trans (HAL.out.mono HSo11.out)).grown hg (Nat.le_trans HSo11.out HAL.out.size) (fun q hq => hge q hq)))
              have HSa1 : Hid (B ≤ wa1.heap.size) := Nat.le_trans (Nat.le_trans HSo11.out HAL.out.size) hg.size
              have HFa1 : Hid (wa1.ownsRow B 35 3 u15 (fullP 254).length (cellsQ (fullP 254))) := own_other (pw_own_below HFo11.out HAL.out) hg (by
                rcases hvf : (u15).ownBlock with _ | q
                · exact .inl rfl
                · refine .inr (fun e => ?_)
                  have h1 := own_lt HFr.out q hvf
                  have h2 := hfar q e.symm
                  omega)
              clear hge hfar ho hg HAL
              go_wp2_with fail
              refine (expand_any _ (fullP 254 ++ [⟨1, 0, 0⟩, ⟨1, 0, 0⟩]) wa1 HQ1.out).mono ?_
              obtain ⟨r2, hr2, hl2⟩ := full_two
              rw [hr2]
              rintro e we1 ⟨vx1, rfl, ox, bx⟩
              have HFe1 := Lib.hid (pw_own_below HFa1.out bx)
              have HBe1 := Lib.hid (HBa1.out.trans (bx.mono HSa1.out))
              have HSe1 : Hid (B ≤ we1.heap.size) := Nat.le_trans HSa1.out bx.size
              obtain ⟨Ax1, cx1, rfl⟩ := own_slice ox
              simp only [Option.isSome_none, Option.isSome_some, Option.getD_some, Option.getD_none, List.length_nil]
              clear ox bx
              rw [hl2]
              clear hr2 hl2
              go_wp2_with fail
              refine (copyP_any B _ (fullP 254) we1 HFe1.out (by rw [fullP_length]; decide)).mono ?_
              rintro e wc2 ⟨vc2, rfl, oc, bc⟩
              have HFc2 := Lib.hid (pw_own_below HFe1.out bc)
              have HBc2 := Lib.hid (HBe1.out.trans (bc.mono HSe1.out))
              have HSc2 : Hid (B ≤ wc2.heap.size) := Nat.le_trans HSe1.out bc.size
              have HCc2 := Lib.hid oc
              have HGE2 : Hid (B ≤ we1.heap.size) := HSe1.out
              clear oc bc
              go_wp2_with fail
              refine (one_any 1 wc2).mono ?_
              rintro e wo20 ⟨rfl, hw⟩
              have b1 : Below wc2.heap.size wc2 wo20 := by rw [hw]; exact (Below.refl _ _).alloc (Nat.le_refl _) _
              have HFo20 := Lib.hid (pw_own_below HFc2.out b1)
              have HCo20 := Lib.hid (pw_own_below HCc2.out b1)
              have HBo20 := Lib.hid (HBc2.out.trans (b1.mono HSc2.out))
              have HSo20 : Hid (B ≤ wo20.heap.size) := Nat.le_trans HSc2.out b1.size
              clear b1 hw
              go_wp2_with fail
              refine (one_any 1 wo20).mono ?_
              rintro e wo21 ⟨rfl, hw⟩
              have b1 : Below wo20.heap.size wo20 wo21 := by rw [hw]; exact (Below.refl _ _).alloc (Nat.le_refl _) _
              have HFo21 := Lib.hid (pw_own_below HFo20.out b1)
              have HCo21 := Lib.hid (pw_own_below HCo20.out b1)
              have HBo21 := Lib.hid (HBo20.out.trans (b1.mono HSo20.out))
              have HSo21 : Hid (B ≤ wo21.heap.size) := Nat.le_trans HSo20.out b1.size
              clear b1 hw
              go_wp2_with fail
              refine (one_any 1 wo21).mono ?_
              rintro e wo22 ⟨rfl, hw⟩
              have b1 : Below wo21.heap.size wo21 wo22 := by rw [hw]; exact (Below.refl _ _).alloc (Nat.le_refl _) _
              have HFo22 := Lib.hid (pw_own_below HFo21.out b1)
              have HCo22 := Lib.hid (pw_own_below HCo21.out b1)
              have HBo22 := Lib.hid (HBo21.out.trans (b1.mono HSo21.out))
              have HSo22 : Hid (B ≤ wo22.heap.size) := Nat.le_trans HSo21.out b1.size
              clear b1 hw
              have HAL : Hid (Below wo22.heap.size wo22 (wo22.alloc (.cells (cellsQ [⟨1, 0, 0⟩, ⟨1, 0, 0⟩, ⟨1, 0, 0⟩]).toArray 35))) := (Below.refl _ _).alloc (Nat.le_refl _) _
              go_wp2_with (at_builtin; refine append_owns _ 0 rfl _ _ 22 35 _ 3 24 rfl Try.underlying22 infoPiece rfl (by decide) (by decide) vc2 (.slice (some ⟨wo22.heap.size, 0, none⟩) 3 3) (fullP 254).length 3 (cellsQ (fullP 254)) (cellsQ [⟨1, 0, 0⟩, ⟨1, 0, 0⟩, ⟨1, 0, 0⟩]) rfl rfl (HCo22.out.alloc _) (own_pies wo22 0 [⟨1, 0, 0⟩, ⟨1, 0, 0⟩, ⟨1, 0, 0⟩] (Nat.zero_le _) (by decide)) (cellsQ_one _) (own_base_le (HCo22.out.alloc _) (by rw [fullP_length]; decide)) (by rw [fullP_length]; decide) ?_)
              intro v2 wa2 ho hg
              have hge : ∀ q, (vc2).ownBlock = some q → B ≤ q := fun q hq => Nat.le_trans HGE2.out (own_base HCo22.out q hq)
              have hfar : ∀ q, (vc2).ownBlock = some q → we1.heap.size ≤ q := fun q hq => own_base HCo22.out q hq
              have HQ2 : Hid (RdsQ wa2 v2 (fullP 254 ++ [⟨1, 0, 0⟩, ⟨1, 0, 0⟩, ⟨1, 0, 0⟩])) := own_rdsQ (n := (fullP 254).length + 3) (by rw [cellsQ_append]; exact ho) (fun p hp => (List.mem_append.1 hp).elim (fullP_ok 254 p) (by simp; rintro rfl; simp [Pie.ok])) (by rw [List.length_append]; rfl)
              have HBa2 := Lib.hid (((HBo22.out.trans (HAL.out.mono HSo22.out)).grown hg (Nat.le_trans HSo22.out HAL.out.size) (fun q hq => hge q hq)))
              have HSa2 : Hid (B ≤ wa2.heap.size) := Nat.le_trans (Nat.le_trans HSo22.out HAL.out.size) hg.size
              have HFa2 : Hid (wa2.ownsRow B 35 3 u15 (fullP 254).length (cellsQ (fullP 254))) := own_other (pw_own_below HFo22.out HAL.out) hg (by
                rcases hvf : (u15).ownBlock with _ | q
                · exact .inl rfl
                · refine .inr (fun e => ?_)
                  have h1 := own_lt HFe1.out q hvf
                  have h2 := hfar q e.symm
                  omega)
              clear hge hfar ho hg HAL
              go_wp2_with fail
              refine (expand_any _ (fullP 254 ++ [⟨1, 0, 0⟩, ⟨1, 0, 0⟩, ⟨1, 0, 0⟩]) wa2 HQ2.out).mono ?_
              rw [full_three]
              rintro e we2 ⟨vx2, rfl, ox, bx⟩
              have HFe2 := Lib.hid (pw_own_below HFa2.out bx)
              have HBe2 := Lib.hid (HBa2.out.trans (bx.mono HSa2.out))
              have HSe2 : Hid (B ≤ we2.heap.size) := Nat.le_trans HSa2.out bx.size
              obtain ⟨Ax2, cx2, rfl⟩ := own_slice ox
              simp only [Option.isSome_none, Option.isSome_some, Option.getD_some, Option.getD_none, List.length_nil]
              clear ox bx
              go_wp2_with fail
              refine (copyP_any B _ (fullP 254) we2 HFe2.out (by rw [fullP_length]; decide)).mono ?_
              rintro e wc3 ⟨vc3, rfl, oc, bc⟩
              have HFc3 := Lib.hid (pw_own_below HFe2.out bc)
              have HBc3 := Lib.hid (HBe2.out.trans (bc.mono HSe2.out))
              have HSc3 : Hid (B ≤ wc3.heap.size) := Nat.le_trans HSe2.out bc.size
              have HCc3 := Lib.hid oc
              have HGE3 : Hid (B ≤ we2.heap.size) := HSe2.out
              clear oc bc
              go_wp2_with fail
              refine (match_any 3 1 wc3).mono ?_
              rintro e wo30 ⟨rfl, hw⟩
              have b1 : Below wc3.heap.size wc3 wo30 := by rw [hw]; exact (Below.refl _ _).alloc (Nat.le_refl _) _
              have HFo30 := Lib.hid (pw_own_below HFc3.out b1)
              have HCo30 := Lib.hid (pw_own_below HCc3.out b1)
              have HBo30 := Lib.hid (HBc3.out.trans (b1.mono HSc3.out))
              have HSo30 : Hid (B ≤ wo30.heap.size) := Nat.le_trans HSc3.out b1.size
              clear b1 hw
              have HAL : Hid (Below wo30.heap.size wo30 (wo30.alloc (.cells (cellsQ [⟨0, 3, 1⟩]).toArray 35))) := (Below.refl _ _).alloc (Nat.le_refl _) _
              go_wp2_with (at_builtin; refine append_owns _ 0 rfl _ _ 22 35 _ 3 24 rfl Try.underlying22 infoPiece rfl (by decide) (by decide) vc3 (.slice (some ⟨wo30.heap.size, 0, none⟩) 1 1) (fullP 254).length 1 (cellsQ (fullP 254)) (cellsQ [⟨0, 3, 1⟩]) rfl rfl (HCo30.out.alloc _) (own_pies wo30 0 [⟨0, 3, 1⟩] (Nat.zero_le _) (by decide)) (cellsQ_one _) (own_base_le (HCo30.out.alloc _) (by rw [fullP_length]; decide)) (by rw [fullP_length]; decide) ?_)
              intro v3 wa3 ho hg
              have hge : ∀ q, (vc3).ownBlock = some q → B ≤ q := fun q hq => Nat.le_trans HGE3.out (own_base HCo30.out q hq)
              have hfar : ∀ q, (vc3).ownBlock = some q → we2.heap.size ≤ q := fun q hq => own_base HCo30.out q hq
              have HQ3 : Hid (RdsQ wa3 v3 (fullP 254 ++ [⟨0, 3, 1⟩])) := own_rdsQ (n := (fullP 254).length + 1) (by rw [cellsQ_append]; exact ho) (fun p hp => (List.mem_append.1 hp).elim (fullP_ok 254 p) (by simp; rintro rfl; simp [Pie.ok])) (by rw [List.length_append]; rfl)
              have HBa3 := Lib.hid (((HBo30.out.trans (HAL.out.mono HSo30.out)).grown hg (Nat.le_trans HSo30.out HAL.out.size) (fun q hq => hge q hq)))
              have HSa3 : Hid (B ≤ wa3.heap.size) := Nat.le_trans (Nat.le_trans HSo30.out HAL.out.size) hg.size
              have HFa3 : Hid (wa3.ownsRow B 35 3 u15 (fullP 254).length (cellsQ (fullP 254))) := own_other (pw_own_below HFo30.out HAL.out) hg (by
                rcases hvf : (u15).ownBlock with _ | q
                · exact .inl rfl
                · refine .inr (fun e => ?_)
                  have h1 := own_lt HFe2.out q hvf
                  have h2 := hfar q e.symm
                  omega)
              clear hge hfar ho hg HAL
              go_wp2_with fail
              refine (expand_any _ (fullP 254 ++ [⟨0, 3, 1⟩]) wa3 HQ3.out).mono ?_
              rw [full_match]
              rintro e we3 ⟨vx3, rfl, ox, bx⟩
              have HFe3 := Lib.hid (pw_own_below HFa3.out bx)
              have HBe3 := Lib.hid (HBa3.out.trans (bx.mono HSa3.out))
              have HSe3 : Hid (B ≤ we3.heap.size) := Nat.le_trans HSa3.out bx.size
              obtain ⟨Ax3, cx3, rfl⟩ := own_slice ox
              simp only [Option.isSome_none, Option.isSome_some, Option.getD_some, Option.getD_none, List.length_nil]
              clear ox bx
              go_wp2_with fail
              refine (awake_any we3).mono ?_
              rintro e w9 ⟨rfl, b9⟩
              go_wp2
              go_ret
              exact ⟨rfl, HBe3.out.trans (b9.mono HSe3.out)⟩

end Go.Proofs.Ytpjjiighojkagaa
