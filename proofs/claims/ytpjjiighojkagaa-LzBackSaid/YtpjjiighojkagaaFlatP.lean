/- flatPieces: the walk. (Written by wip/mkflatp.py out of the text on flatBytes.) -/
import Derived.Test.YtpjjiighojkagaaApartB
import Derived.Test.YtpjjiighojkagaaKeptP
import Derived.Test.YtpjjiighojkagaaRegion
import Derived.Laws.MakeOwn
import Derived.Laws.Entries
set_option linter.unusedVariables false
set_option linter.unusedSimpArgs false
namespace Go.Proofs.Ytpjjiighojkagaa
open Go.RowKit Go.Proofs.YtpjjiighojkagaaW.PrintWords

theorem infoRowP : (Try.prog.info? 22).map (fun i => (i.zero, i.size, i.bytes)) = some (some (.slice none 0 0), 1, 24) := by kernel_rfl

/-- The mark of a piece, its cells. -/
def mcP (k i : Nat) : List Value := [.int .u8 0, .int .i64 (mk (k : Int) (i : Int)), .int .i64 0]
def mkRowP (k n : Nat) : List Value := (List.range n).flatMap (mcP k)
theorem mkRowP_succ (k n : Nat) : mkRowP k (n + 1) = mkRowP k n ++ mcP k n := by simp [mkRowP, List.range_succ]
theorem mkRowP_length (k n : Nat) : (mkRowP k n).length = n * 3 := by
  induction n with
  | zero => rfl
  | succ n ih => rw [mkRowP_succ, List.length_append, ih]; simp [mcP]; omega
theorem mkRowP_at {k : Nat} : ∀ {n i j : Nat}, i < n → j < 3 → (mkRowP k n)[i * 3 + j]? = (mcP k i)[j]?
  | 0, _, _, h, _ => absurd h (by omega)
  | n + 1, i, j, h, hj => by
    rw [mkRowP_succ]
    by_cases hi : i < n
    · rw [List.getElem?_append_left (by rw [mkRowP_length]; omega)]
      exact mkRowP_at hi hj
    · obtain rfl : i = n := by omega
      rw [List.getElem?_append_right (by rw [mkRowP_length]; omega), mkRowP_length]
      congr 1
      omega
theorem mkRowP_add (k a b : Nat) : mkRowP k (a + b) = mkRowP k a ++ (List.range b).flatMap (fun j => mcP k (a + j)) := by
  simp [mkRowP, List.range_add, List.flatMap_map]
theorem mkRowP_of {k n : Nat} {X : List Value} (hl : X.length = n * 3) (h : ∀ i, i < n * 3 → X[i]? = (mkRowP k n)[i]?) : X = mkRowP k n := by
  apply List.ext_getElem?
  intro i
  rcases Nat.lt_or_ge i (n * 3) with hi | hi
  · exact h i hi
  · rw [List.getElem?_eq_none (by omega), List.getElem?_eq_none (by rw [mkRowP_length]; exact hi)]
theorem mcP_one (k i : Nat) : ∀ u ∈ mcP k i, u.oneCell' = true := by
  intro u hu
  simp [mcP] at hu
  rcases hu with rfl | rfl | rfl <;> rfl

abbrev FlatW (Zo : Nat → Prop) (w : World) (B K : Nat) (v : Nat → Value) (n : Nat → Nat) (X : Nat → List Value) : Prop := Flat Zo w 35 3 B K v (fun _ => nilS) n (fun _ => 0) X (fun _ => [])
theorem FlatW.store {Zo : Nat → Prop} {w : World} {B K : Nat} {v : Nat → Value} {n : Nat → Nat} {X : Nat → List Value} (h : FlatW Zo w B K v n X) {k g c i : Nat} (hk : k < K) (hv : v k = .slice (some ⟨g, 0, none⟩) (n k) c) (u : Value) :
    FlatW Zo (w.setCell ⟨g, i, none⟩ u) B K v n (at_ X k ((X k).set i u)) := by
  have h0 := h.ov k hk
  rw [hv] at h0
  obtain ⟨o1, g1⟩ := h0.stored i u
  have hb : (v k).ownBlock = some g := by rw [hv]; rfl
  have t := h.turn (S := fun b => b = g) (k := k) (g' := nilS) (m' := 0) (X' := (X k).set i u) (Y' := []) hk ((Fr.refl (fun b => b = g) w).set (p := ⟨g, i, none⟩) (.inl rfl) u) (fun b hb' => .inl (.inl (by rw [hb', hb]))) (by rw [hv]; exact o1) (World.ownsRow_nil _ _ _ _) (fun b hb' => by simp [nilS, Value.ownBlock] at hb')
  have e1 : at_ (fun _ : Nat => nilS) k nilS = fun _ => nilS := by funext j; simp [at_]
  have e2 : at_ (fun _ : Nat => (0 : Nat)) k 0 = fun _ => 0 := by funext j; simp [at_]
  have e3 : at_ (fun _ : Nat => ([] : List Value)) k [] = fun _ => [] := by funext j; simp [at_]
  rw [e1, e2, e3] at t
  exact t
/-- Three stores, side by side. -/
def set3 (X : List Value) (i : Nat) (a b c : Value) : List Value := ((X.set (i * 3) a).set (i * 3 + 1) b).set (i * 3 + 2) c
theorem FlatW.store3 {Zo : Nat → Prop} {w : World} {B K : Nat} {v : Nat → Value} {n : Nat → Nat} {X : Nat → List Value} (h : FlatW Zo w B K v n X) {k g c i : Nat} (hk : k < K) (hv : v k = .slice (some ⟨g, 0, none⟩) (n k) c) (u0 u1 u2 : Value) :
    FlatW Zo (((w.setCell ⟨g, i * 3, none⟩ u0).setCell ⟨g, i * 3 + 1, none⟩ u1).setCell ⟨g, i * 3 + 2, none⟩ u2) B K v n (at_ X k (set3 (X k) i u0 u1 u2)) := by
  have h1 := h.store (i := i * 3) hk hv u0
  have h2 := h1.store (i := i * 3 + 1) hk hv u1
  have h3 := h2.store (i := i * 3 + 2) hk hv u2
  rw [at_at, at_at, at_same, at_same] at h3
  exact h3
theorem set3_at {X : List Value} {N k i : Nat} (hl : X.length = N * 3) (hi : i < N) (h : ∀ j, j < i * 3 → X[j]? = (mkRowP k N)[j]?) : ∀ j, j < (i + 1) * 3 → (set3 X i (.int .u8 0) (.int .i64 (mk (k : Int) (i : Int))) (.int .i64 0))[j]? = (mkRowP k N)[j]? := by
  intro j hj
  unfold set3
  have hc : j < i * 3 ∨ j = i * 3 + 0 ∨ j = i * 3 + 1 ∨ j = i * 3 + 2 := by omega
  rcases hc with hc | rfl | rfl | rfl
  · rw [List.getElem?_set_ne (by omega), List.getElem?_set_ne (by omega), List.getElem?_set_ne (by omega)]
    exact h j hc
  · rw [List.getElem?_set_ne (by omega), List.getElem?_set_ne (by omega), Nat.add_zero, List.getElem?_set_self (by omega), ← Nat.add_zero (i * 3), mkRowP_at hi (by decide)]
    rfl
  · rw [List.getElem?_set_ne (by omega), List.getElem?_set_self (by simp; omega), mkRowP_at hi (by decide)]
    rfl
  · rw [List.getElem?_set_self (by simp; omega), mkRowP_at hi (by decide)]
    rfl
theorem set3_length (X : List Value) (i : Nat) (a b c : Value) : (set3 X i a b c).length = X.length := by simp [set3]
theorem fr3 {S : Nat → Prop} {w : World} {g i : Nat} (hS : S g) (a b c : Value) : Fr S w (((w.setCell ⟨g, i * 3, none⟩ a).setCell ⟨g, i * 3 + 1, none⟩ b).setCell ⟨g, i * 3 + 2, none⟩ c) :=
  (((Fr.refl S w).set (p := ⟨g, i * 3, none⟩) (.inl hS) a).set (p := ⟨g, i * 3 + 1, none⟩) (.inl hS) b).set (p := ⟨g, i * 3 + 2, none⟩) (.inl hS) c
theorem cells_new (w : World) (t : TypeId) (l : List Value) : ∀ j u, l[j]? = some u → (w.alloc (.cells l.toArray t)).cell? ((⟨w.heap.size, 0, none⟩ : Addr).add j) = some u := by
  intro j u hu
  rw [add_plain]
  exact (blk_cell (heap_alloc_new w _) j).trans (by simpa using hu)
theorem own_cells {w : World} {B n s g c : Nat} {e : TypeId} {xs : List Value} (h : w.ownsRow B e s (.slice (some ⟨g, 0, none⟩) n c) n xs) {j : Nat} (hj : j < n * s) : (∃ u, w.cell? ⟨g, j, none⟩ = some u) ∧ w.frozen? ⟨g, j, none⟩ = false := by
  refine ⟨⟨xs[j]'(by rw [h.1]; exact hj), ?_⟩, h.frozenAt j⟩
  rw [h.cellAt j hj]
  exact List.getElem?_eq_getElem _
theorem run_make_pieces (W : World) : (Instr.makeSlice 22 (.int .i64 64) (.int .i64 64)).run Try.prog W = .ok (.slice (some ⟨W.heap.size, 0, none⟩) 64 64) (W.alloc (.cells (madeCells #[.int .u8 0, .int .i64 0, .int .i64 0] 192) 35)) := by
  obtain ⟨i0, hi, hz0, hz1, hz2⟩ := info_parts infoPiece
  have hr := run_make (P := Try.prog) W 22 35 i0 _ Try.underlying22 hi hz0 .i64 .i64 64 64 (by omega) (by omega) (by rw [hz2]; decide) (by omega)
  rw [hz1] at hr
  exact hr
theorem made_one : ∀ u ∈ (madeCells #[.int .u8 0, .int .i64 0, .int .i64 0] 192).toList, u.oneCell' = true := by decide +kernel

set_option maxHeartbeats 4000000 in
set_option maxRecDepth 100000 in
theorem flatPieces_any (Zo : Nat → Prop) (B K gl cl : Nat) (cs : Array Value) (v : Nat → Value) (n : Nat → Nat) (X : Nat → List Value) (W : World) (hgl : W.heap[gl]? = some (.cells cs 22 (0, 0))) (hcs : ∀ k, k < K → cs[k]? = some (v k))
    (h : FlatW Zo W B K v n X) (hK : K ≤ 1000) (hn : ∀ k, k < K → n k ≤ 1000000000) (hB : B ≤ W.heap.size) (gx : Nat) (cx : Array Value) (tx : TypeId) (hx : W.heap[gx]? = some (.cells cx tx (0, 0))) (h5 : 35 ≠ tx) (h25 : 22 ≠ tx) :
    Calls Try.prog 42 #[.slice (some ⟨gl, 0, none⟩) K cl] W fun e W' => e = .returned (.bool true) ∧ Bel Zo B gx cx tx W W' := by
  have HCS := Lib.hid hcs
  have HN := Lib.hid hn
  have HGL := Lib.hid hgl
  have HF := Lib.hid h
  clear hcs hn hgl h
  go_enter Try.func42, Try.ntmps42
  go_wp2_with fail
  -- each place is marked
  go_loopg [3] K (fun gk v3 wr => ∃ (k : Nat) (X' : Nat → List Value), Hid (gk + k = K) ∧ v3 = .int .i64 (k : Int) ∧ k ≤ K ∧ Hid (FlatW Zo wr B K v n X') ∧ Hid (∀ j, j < k → X' j = mkRowP j (n j)) ∧ Hid (wr.heap[gl]? = some (.cells cs 22 (0, 0))) ∧ Bel Zo B gx cx tx W wr ∧ B ≤ wr.heap.size)
  case atStart => exact ⟨0, X, by simp [Hid], rfl, by omega, HF.out, fun j h => absurd h (by omega), HGL.out, ⟨Below.refl _ _, hx, fun _ _ => rfl⟩, hB⟩
  case round =>
    clear HF HGL hB
    obtain ⟨k, X', HG, rfl, hkK, HF, HM, HGL, bb, ss⟩ := hrel
    by_cases hlt : k < K
    · have t0 : (k : Int) < (K : Int) := by omega
      have hnk := HN.out k hlt
      obtain ⟨N, hN⟩ : ∃ N, N = n k := ⟨_, rfl⟩
      obtain ⟨A, c, hvk⟩ := own_slice (HF.out.ov k hlt)
      rw [← hN] at hnk hvk
      have HNK := Lib.hid hN
      have HVK := Lib.hid hvk
      clear hN hvk
      go_wp2_with fail
      obtain ⟨gK, rfl⟩ : ∃ gK : Nat, gK = gk := ⟨_, rfl⟩
      obtain ⟨wo, rfl⟩ : ∃ wo : World, wo = wr := ⟨_, rfl⟩
      go_loopg [4] N (fun gj v4 wr => ∃ (i : Nat) (X2 : Nat → List Value), Hid (gj + i = N) ∧ v4 = .int .i64 (i : Int) ∧ i ≤ N ∧ Hid (FlatW Zo wr B K v n X2) ∧ Hid (∀ j, j < k → X2 j = mkRowP j (n j)) ∧ Hid (∀ j, j < i * 3 → (X2 k)[j]? = (mkRowP k N)[j]?) ∧ Hid (wr.heap[gl]? = some (.cells cs 22 (0, 0))) ∧ Bel Zo B gx cx tx W wr ∧ B ≤ wr.heap.size)
      case atStart => exact ⟨0, X', by simp [Hid], rfl, by omega, HF.out, HM.out, fun j h => absurd h (by omega), HGL.out, bb, ss⟩
      case round =>
        clear HF HM HGL bb ss
        obtain ⟨i, X2, HJ, rfl, hiN, HF, HM, HI, HGL, bb, ss⟩ := hrel
        have k1 : wr.cell? ⟨gl, k, none⟩ = some (.slice A N c) := by rw [blk_cell HGL.out k, HCS.out k hlt, HVK.out]
        by_cases hil : i < N
        · have z0 : (i : Int) < (N : Int) := by omega
          obtain ⟨g, c', hgf, _, _⟩ := (HF.out.ov k hlt).form (by rw [← HNK.out]; omega)
          rw [HVK.out] at hgf
          obtain ⟨rfl, rfl⟩ : A = some ⟨g, 0, none⟩ ∧ c = c' := by injection hgf with h1 h2 h3; exact ⟨h1, h3⟩
          clear hgf
          have ho := HF.out.ov k hlt
          rw [HVK.out, ← HNK.out] at ho
          obtain ⟨⟨u, hu⟩, z1⟩ := own_cells ho (j := i * 3) (by omega)
          obtain ⟨⟨u', hv⟩, z2⟩ := own_cells ho (j := i * 3 + 1) (by omega)
          obtain ⟨⟨u'', hx⟩, z3⟩ := own_cells ho (j := i * 3 + 2) (by omega)
          have hngl : gl ≠ g := fun e => HF.out.noRow HGL.out (by decide) k hlt (.inl (by rw [HVK.out, e]; rfl))
          have hgB : B ≤ g := HF.out.ge hlt (.inl (by rw [HVK.out]; rfl))
          have zk : (0 : Int) ≤ (k : Int) := by omega
          have zi : (0 : Int) ≤ (i : Int) := by omega
          clear ho
          go_wp2_with fail
          refine wp_region_gen (S := fun w' => w'.cell? ⟨gl, k, none⟩ = some (.slice (some ⟨g, 0, none⟩) N c)) (by kernel_rfl) (fun _ _ _ _ _ h => h) ?_
          intro Q' HQP HQN
          change wpAnyH _ _ _ _ _ _ _ _ (wr.drewN 1)
          have hS : (fun w' : World => w'.cell? ⟨gl, k, none⟩ = some (.slice (some ⟨g, 0, none⟩) N c)) (wr.drewN 1) := k1
          refine wpAnyH_take (i := 0) (oi := ⟨some 31, _, _, _, _, none⟩) (v := ?_) rfl (by kernel_rfl) (by kernel_rfl) (by kernel_rfl) (fun c _ w h => HQP.out c _ _ _ w h) (Or.inl ⟨by rfl, ?v0⟩) hS ?_
          case v0 => (intro w hSw; (try dsimp only at hSw); obtain s0 := hSw; go_simp; try with_reducible rfl)
          try simp only [Act.put, List.setIfInBounds_toArray, List.set_cons_zero, List.set_cons_succ]
          refine wpAnyH_take (i := 1) (oi := ⟨some 32, _, _, _, _, none⟩) (v := ?_) rfl (by kernel_rfl) (by kernel_rfl) (by kernel_rfl) (fun c _ w h => HQP.out c _ _ _ w h) (Or.inl ⟨by rfl, ?v1⟩) hS ?_
          case v1 => (intro w hSw; (try dsimp only at hSw); obtain s0 := hSw; go_simp; try with_reducible rfl)
          try simp only [Act.put, List.setIfInBounds_toArray, List.set_cons_zero, List.set_cons_succ]
          refine wpAnyH_take (i := 2) (oi := ⟨some 33, _, _, _, _, none⟩) (v := ?_) rfl (by kernel_rfl) (by kernel_rfl) (by kernel_rfl) (fun c _ w h => HQP.out c _ _ _ w h) (Or.inl ⟨by rfl, ?v2⟩) hS ?_
          case v2 => (intro w hSw; (try dsimp only at hSw); obtain s0 := hSw; go_simp; try with_reducible rfl)
          try simp only [Act.put, List.setIfInBounds_toArray, List.set_cons_zero, List.set_cons_succ]
          refine wpAnyH_take (i := 3) (oi := ⟨some 34, _, _, _, _, none⟩) (v := ?_) rfl (by kernel_rfl) (by kernel_rfl) (by kernel_rfl) (fun c _ w h => HQP.out c _ _ _ w h) (Or.inl ⟨by rfl, ?v3⟩) hS ?_
          case v3 => (intro w hSw; (try dsimp only at hSw); obtain s0 := hSw; go_simp; try with_reducible rfl)
          try simp only [Act.put, List.setIfInBounds_toArray, List.set_cons_zero, List.set_cons_succ]
          refine wpAnyH_take (i := 4) (oi := ⟨some 35, _, _, _, _, none⟩) (v := ?_) rfl (by kernel_rfl) (by kernel_rfl) (by kernel_rfl) (fun c _ w h => HQP.out c _ _ _ w h) (Or.inl ⟨by rfl, ?v4⟩) hS ?_
          case v4 => (intro w hSw; (try dsimp only at hSw); obtain s0 := hSw; go_simp; try with_reducible rfl)
          try simp only [Act.put, List.setIfInBounds_toArray, List.set_cons_zero, List.set_cons_succ]
          refine wpAnyH_take (i := 5) (oi := ⟨some 36, _, _, _, _, none⟩) (v := ?_) rfl (by kernel_rfl) (by kernel_rfl) (by kernel_rfl) (fun c _ w h => HQP.out c _ _ _ w h) (Or.inl ⟨by rfl, ?v5⟩) hS ?_
          case v5 => (intro w hSw; (try dsimp only at hSw); obtain s0 := hSw; go_simp; try with_reducible rfl)
          try simp only [Act.put, List.setIfInBounds_toArray, List.set_cons_zero, List.set_cons_succ]
          refine wpAnyH_take (i := 6) (oi := ⟨some 37, _, _, _, _, none⟩) (v := ?_) rfl (by kernel_rfl) (by kernel_rfl) (by kernel_rfl) (fun c _ w h => HQP.out c _ _ _ w h) (Or.inl ⟨by rfl, ?v6⟩) hS ?_
          case v6 => (intro w hSw; (try dsimp only at hSw); obtain s0 := hSw; go_simp; try with_reducible rfl)
          try simp only [Act.put, List.setIfInBounds_toArray, List.set_cons_zero, List.set_cons_succ]
          refine wpAnyH_ready (rs := [7]) (by kernel_rfl) (by simp) ?_
          refine AllReadyH.cons (o := ⟨some 38, _, _, _, _, none⟩) rfl (fun KQ hK => ?_) AllReadyH.nil
          rw [if_pos (by rfl)]
          go_wp2_with fail
          refine (markPiece_any (k : Int) (i : Int) _ (by omega) (by omega) (by omega) (by omega)).mono ?_
          rintro e w1 ⟨rfl, hw⟩
          have HF1 : Hid (Fr (fun _ => False) wr w1) := (by simp only [Hid]; rw [hw]; exact ((Fr.refl _ wr).drewN 1).alloc _)
          have k2 := HF1.out.cell k1 (fun h => h)
          have hu' := HF1.out.cell hu (fun h => h)
          have hv' := HF1.out.cell hv (fun h => h)
          have hx' := HF1.out.cell hx (fun h => h)
          have z1' := HF1.out.frozen (World.block_lt_of_cell? wr _ hu) z1 (fun h => h)
          have z2' := HF1.out.frozen (World.block_lt_of_cell? wr _ hv) z2 (fun h => h)
          have z3' := HF1.out.frozen (World.block_lt_of_cell? wr _ hx) z3 (fun h => h)
          clear hw
          go_wp2_with fail
          clear hS
          have hS : (fun w' : World => w'.cell? ⟨gl, k, none⟩ = some (.slice (some ⟨g, 0, none⟩) N c)) (w1) := k2
          refine hK.out _ _ hS (fun _ => ?_)
          try simp only [Act.put, List.setIfInBounds_toArray, List.set_cons_zero, List.set_cons_succ]
          refine wpAnyH_take (i := 8) (oi := ⟨some 39, _, _, _, _, none⟩) (v := ?_) rfl (by kernel_rfl) (by kernel_rfl) (by kernel_rfl) (fun c _ w h => HQP.out c _ _ _ w h) (Or.inl ⟨by rfl, ?v8⟩) hS ?_
          case v8 => (intro w hSw; (try dsimp only at hSw); obtain s0 := hSw; go_simp; try with_reducible rfl)
          try simp only [Act.put, List.setIfInBounds_toArray, List.set_cons_zero, List.set_cons_succ]
          refine wpAnyH_ready (rs := [9]) (by kernel_rfl) (by simp) ?_
          refine AllReadyH.cons (o := ⟨none, _, _, _, _, none⟩) rfl (fun KQ hK => ?_) AllReadyH.nil
          rw [if_pos (by rfl)]
          go_wp2_with fail
          generalize hA : World.setCell _ _ _ = w2
          have HA2 : Hid (w2 = ((w1.setCell ⟨g, i * 3, none⟩ (.int .u8 0)).setCell ⟨g, i * 3 + 1, none⟩ (.int .i64 (mk (k : Int) (i : Int)))).setCell ⟨g, i * 3 + 2, none⟩ (.int .i64 0)) := hA.symm
          have HF2 : Hid (Fr (fun b => b = g) w1 w2) := by simp only [Hid]; rw [HA2.out]; exact fr3 (S := fun b => b = g) rfl _ _ _
          clear hA
          have k3 := HF2.out.cell k2 hngl
          clear hS
          have hS : (fun w' : World => w'.cell? ⟨gl, k, none⟩ = some (.slice (some ⟨g, 0, none⟩) N c)) (w2) := k3
          refine hK.out _ _ hS (fun _ => ?_)
          try simp only [Act.put, List.setIfInBounds_toArray, List.set_cons_zero, List.set_cons_succ]
          refine wpAnyH_done (by kernel_rfl) ?_ _
          refine HQN.out _ _ ?_
          clear HQP HQN hS
          clear k1 k2 k3 hu hv hx hu' hv' hx' z1 z2 z3 z1' z2' z3'
          have HFD : Hid (FlatW Zo w1 B K v n X2) := HF.out.fr HF1.out (fun _ h => h.elim)
          have bd := Bel.then bb HF1.out ss (fun _ h => h.elim) (fun h => h) HF.out.zl (fun _ h => h.elim)
          have sd : B ≤ w1.heap.size := Nat.le_trans ss HF1.out.size
          have HGD := HGL.out |> fun h => HF1.out.heap h (fun h => h)
          have HFE : Hid (FlatW Zo w2 B K v n (at_ X2 k (set3 (X2 k) i (.int .u8 0) (.int .i64 (mk (k : Int) (i : Int))) (.int .i64 0)))) := by
            simp only [Hid]
            rw [HA2.out]
            exact HFD.out.store3 (c := c) hlt (by rw [HVK.out, HNK.out]) _ _ _
          have be := Bel.then bd HF2.out sd (fun b hb => by rw [hb]; exact hgB) (fun e => HFD.out.noRow bd.2.1 h5 k hlt (.inl (by rw [HVK.out, e]; rfl))) HFD.out.zl (fun b hb => by rw [hb]; exact HFD.out.zf k g hlt (.inl (by rw [HVK.out]; rfl)))
          have se : B ≤ w2.heap.size := Nat.le_trans sd HF2.out.size
          have HGE : Hid (w2.heap[gl]? = some (.cells cs 22 (0, 0))) := HF2.out.heap HGD hngl
          have hset := set3_at (X := X2 k) (N := N) (k := k) (i := i) (by have := (HF.out.ov k hlt).1; rw [← HNK.out] at this; exact this) hil HI.out
          have HST := Lib.hid hset
          clear hset HGD
          go_wp2
          go_roundg (gk - 1)
          case measure => have := HJ.out; omega
          case rel =>
            refine ⟨i + 1, _, by have := HJ.out; simp only [Hid]; omega, by go_num, by omega, HFE.out, fun j hj => ?_, ?_, HGE.out, be, se⟩
            · rw [at_other _ _ (by omega)]; exact HM.out j hj
            · rw [at_same]; exact HST.out
        · have z0 : ¬ (i : Int) < (N : Int) := by omega
          have hiN' : i = N := by omega
          have hX : X2 k = mkRowP k (n k) := mkRowP_of (by have := (HF.out.ov k hlt).1; omega) (fun j hj => by rw [HI.out j (by rw [hiN', HNK.out]; exact hj), HNK.out])
          have HX := Lib.hid hX
          clear hX hiN'
          go_wp2
          go_roundg (gK - 1)
          case measure => have := HG.out; omega
          case rel =>
            refine ⟨k + 1, X2, by have := HG.out; simp only [Hid]; omega, by go_num, by omega, HF.out, fun j hj => ?_, HGL.out, bb, ss⟩
            by_cases hjk : j = k
            · rw [hjk]; exact HX.out
            · exact HM.out j (by omega)
    · have hkK' : K = k := by omega
      subst hkK'
      have t0 : ¬ (K : Int) < (K : Int) := by omega
      have hF2 := HF.out.congr (X2 := fun j => mkRowP j (n j)) (fun j hj => HM.out j (by omega))
      have HF2 := Lib.hid hF2
      have HA : Hid (Arr wr 22 gl K v) := ⟨cs, HGL.out, HCS.out⟩
      clear hF2 HF HM HGL HG
      have hmk := run_make_row' (P := Try.prog) 41 22 (.slice none 0 0) 24 Try.underlying41 infoRowP rfl .i64 .i64 K (by omega) (by omega)
      go_upto_region 9 with fail
      clear hmk t0
      obtain ⟨gg, hgg⟩ : ∃ gg, gg = wr.heap.size := ⟨_, rfl⟩
      rw [← hgg]
      generalize hW2 : wr.alloc _ = w2
      have f2 : Fr (fun _ => False) wr w2 := by rw [← hW2]; exact (Fr.refl _ wr).alloc _
      have A2 : Arr w2 22 gg K (fun _ => nilS) := by
        refine ⟨_, by rw [← hW2, hgg]; exact heap_alloc_new wr _, fun j hj => ?_⟩
        rw [← Array.getElem?_toList, toList_madeCells_one, List.getElem?_replicate, if_pos hj]
        rfl
      have HA2 := Lib.hid A2
      have HL2 := Lib.hid (HA.out.fr f2 (fun h => h))
      have HF3 := Lib.hid (HF2.out.fr f2 (fun _ h => h.elim))
      have hne : gl ≠ gg := by have := HA.out.lt; omega
      have hggB : B ≤ gg := by omega
      have bb2 : Bel Zo B gx cx tx W w2 := Bel.then bb f2 ss (fun _ h => h.elim) (fun h => h) HF2.out.zl (fun _ h => h.elim)
      have hggZ : ¬ Zo gg := fun h => by have := HF2.out.zl gg h; omega
      have ss2 : B ≤ w2.heap.size := Nat.le_trans ss f2.size
      clear f2 hW2 A2 HF2 HA bb ss hgg
      go_wp2_with fail
      -- each grows by 64
      go_loopg [6] K (fun gk v6 wr => ∃ (k : Nat) (g : Nat → Value) (m : Nat → Nat) (Y : Nat → List Value), Hid (gk + k = K) ∧ v6 = .int .i64 (k : Int) ∧ k ≤ K ∧ Hid (Flat Zo wr 35 3 B K v g n m (fun j => mkRowP j (n j)) Y) ∧ Hid (∀ j, j < k → m j = n j + 64 ∧ Y j = mkRowP j (n j + 64)) ∧ Hid (Arr wr 22 gl K v) ∧ Hid (Arr wr 22 gg K g) ∧ Bel Zo B gx cx tx W wr ∧ B ≤ wr.heap.size)
      case atStart => exact ⟨0, _, _, _, by simp [Hid], rfl, by omega, HF3.out, fun j h => absurd h (by omega), HL2.out, HA2.out, bb2, ss2⟩
      case round =>
        clear HF3 HL2 HA2 bb2 ss2
        obtain ⟨k, g, m, Y, HG, rfl, hkK, HF, HM, HL, HA, bb, ss⟩ := hrel
        by_cases hlt : k < K
        · have t0 : (k : Int) < (K : Int) := by omega
          have hnk := HN.out k hlt
          obtain ⟨N, hN⟩ : ∃ N, N = n k := ⟨_, rfl⟩
          obtain ⟨A, c, hvk⟩ := own_slice (HF.out.ov k hlt)
          have k1 := HL.out.cell hlt
          rw [← hN] at hnk hvk
          rw [hvk] at k1
          have HNK := Lib.hid hN
          have HVK := Lib.hid hvk
          have hst := HF.out.turn (S := fun _ => False) (k := k) (g' := v k) (m' := n k) (X' := mkRowP k (n k)) (Y' := mkRowP k (n k)) hlt (Fr.refl _ wr) (fun _ h => h.elim) (HF.out.ov k hlt) (HF.out.ov k hlt) (fun b hb => .inl (.inl hb))
          have hex := Ext.self (HF.out.ov k hlt)
          rw [at_id (fun j => mkRowP j (n j)) k, ← hN, hvk] at hst
          rw [← hN, hvk] at hex
          have HST := Lib.hid hst
          have HEX := Lib.hid hex
          clear hN hvk hst hex
          go_wp2_with fail
          obtain ⟨gK, rfl⟩ : ∃ gK : Nat, gK = gk := ⟨_, rfl⟩
          obtain ⟨wo, rfl⟩ : ∃ wo : World, wo = wr := ⟨_, rfl⟩
          go_loopg [7, 8] 64 (fun gj v7 v8 wr => ∃ i : Nat, Hid (gj + i = 64) ∧ v8 = .int .i64 (i : Int) ∧ i ≤ 64 ∧ Hid (Flat Zo wr 35 3 B K v (at_ g k v7) n (at_ m k (N + i)) (fun j => mkRowP j (n j)) (at_ Y k (mkRowP k (N + i)))) ∧ Hid (Ext (.slice A N c) N v7 (N + i)) ∧ Hid (Arr wr 22 gl K v) ∧ Hid (Arr wr 22 gg K g) ∧ Bel Zo B gx cx tx W wr ∧ B ≤ wr.heap.size)
          case atStart => exact ⟨0, by simp [Hid], rfl, by omega, HST.out, HEX.out, HL.out, HA.out, bb, ss⟩
          case round =>
            clear HST HEX HL HA bb ss k1
            obtain ⟨i, HJ, rfl, hi64, HF2, HE, HL, HA, bb, ss⟩ := hrel
            have k1 := HL.out.cell hlt
            rw [HVK.out] at k1
            by_cases hil : i < 64
            · have z0 : (i : Int) < 64 := by omega
              go_wp2_with fail
              refine (markPiece_any (k : Int) ((N : Int) + (i : Int)) wr (by omega) (by omega) (by omega) (by omega)).mono ?_
              rintro e wm ⟨rfl, hw⟩
              have HFM : Hid (Fr (fun _ => False) wr wm) := by simp only [Hid]; rw [hw]; exact (Fr.refl _ wr).alloc _
              have sm : B ≤ wm.heap.size := Nat.le_trans ss HFM.out.size
              obtain ⟨q, hq⟩ : ∃ q, q = mk (k : Int) ((N : Int) + (i : Int)) := ⟨_, rfl⟩
              have hcb : mcP k (N + i) = [.int .u8 0, .int .i64 q, .int .i64 0] := by
                rw [hq]
                unfold mcP
                rw [show (((N + i : Nat)) : Int) = (N : Int) + (i : Int) from by omega]
              rw [← hq]
              have HCB := Lib.hid hcb
              clear hcb hq hw
              have ox := HF2.out.og k hlt
              rw [at_same, at_same, at_same] at ox
              have HOX := Lib.hid (HFM.out.own ox (fun _ _ h => h))
              clear ox
              go_wp2_with (at_builtin; refine wpList_append_ext B rfl _ _ 22 35 (.agg #[.int .u8 0, .int .i64 0, .int .i64 0]) 3 24 rfl Try.underlying22 infoPiece rfl (by decide) (by decide) u7 (N + i) (mkRowP k (N + i)) rfl (HOX.out.alloc _) ⟨wm.heap.size, 0, none⟩ 1 1 [.int .u8 0, .int .i64 q, .int .i64 0] rfl (by decide) rfl (cells_new wm _ _) (by simp [Value.oneCell']) (by simp; omega) (by omega) ?_)
              intro x' w' ho' hg'
              have fa : Fr (fun _ => False) wr (wm.alloc (.cells #[.int .u8 0, .int .i64 q, .int .i64 0] 35)) := HFM.out.alloc _
              have FA := HF2.out.fr fa (fun _ h => h.elim)
              have hAL := HL.out.fr fa (fun h => h)
              have hAA := HA.out.fr fa (fun h => h)
              have ba := Bel.then bb fa ss (fun _ h => h.elim) (fun h => h) HF2.out.zl (fun _ h => h.elim)
              have sa : B ≤ (wm.alloc (.cells #[.int .u8 0, .int .i64 q, .int .i64 0] 35)).heap.size := Nat.le_trans ss fa.size
              obtain ⟨t1, t2, t3⟩ := FA.grow (k := k) (c := 1) (x' := x') (Z := (List.range i).flatMap (fun j => mcP k (N + j))) (news := [.int .u8 0, .int .i64 q, .int .i64 0]) hlt (by rw [at_same, at_same, HVK.out, ← HNK.out]; exact HE.out)
                (by rw [at_same, ← HNK.out]; exact mkRowP_add k N i) (by rw [at_same, ← HNK.out]; omega) (by rw [at_same, at_same]; exact ho') (by rw [at_same, at_same]; exact hg')
              rw [at_at, at_at, at_at, at_same, at_same, ← HCB.out, ← mkRowP_succ, Nat.add_assoc] at t1
              rw [at_same, HVK.out, ← HNK.out, Nat.add_assoc] at t2
              rw [at_same] at t3
              have nl : ¬ (u7).ownBlock = some gl := fun e => FA.noArr hAL (by decide) k hlt (.inr (by rw [at_same]; exact e))
              have ng : ¬ (u7).ownBlock = some gg := fun e => FA.noArr hAA (by decide) k hlt (.inr (by rw [at_same]; exact e))
              have hAL' := hAL.fr t3 nl
              have hAA' := hAA.fr t3 ng
              have bb' := Bel.then ba t3 sa (fun b hb => own_base HOX.out b hb) (fun e => FA.noRow ba.2.1 h5 k hlt (.inr (by rw [at_same]; exact e))) FA.zl (fun b hb => FA.zf k b hlt (.inr (by rw [at_same]; exact hb)))
              have ss' := Nat.le_trans sa t3.size
              have HT1 := Lib.hid t1
              have HT2 := Lib.hid t2
              have HAL' := Lib.hid hAL'
              have HAA' := Lib.hid hAA'
              clear t1 t2 t3 hAL' hAA' nl ng hAL hAA FA fa ba sa ho' hg' k1
              go_wp2
              go_roundg (gk - 1)
              case measure => have := HJ.out; omega
              case rel => exact ⟨i + 1, by have := HJ.out; simp only [Hid]; omega, by go_num, by omega, HT1.out, HT2.out, HAL'.out, HAA'.out, bb', ss'⟩
            · have hi : i = 64 := by omega
              have z0 : ¬ (i : Int) < 64 := by omega
              subst hi
              have ox := HF2.out.og k hlt
              rw [at_same, at_same, at_same] at ox
              obtain ⟨Ax, cx, hx7⟩ := own_slice ox
              clear ox
              subst hx7
              have z1 := HA.out.frozen k
              have k2 := HA.out.cell hlt
              have hs := HA.out.set hlt (.slice Ax (N + 64) cx)
              have fs : Fr (fun b => b = gg) wr (wr.setCell ⟨gg, k, none⟩ (.slice Ax (N + 64) cx)) := (Fr.refl (fun b => b = gg) wr).set (p := ⟨gg, k, none⟩) (.inl rfl) _
              have hnr := HF2.out.noArr HA.out (by decide)
              have hfl := HF2.out.fr fs (fun b hb => by rw [hb]; exact hnr)
              have hll := HL.out.fr fs hne
              have bb' := Bel.then bb fs ss (fun b hb => by rw [hb]; exact hggB) (HA.out.ne bb.2.1 h25) HF2.out.zl (fun b hb => by rw [hb]; exact hggZ)
              have ss' := Nat.le_trans ss fs.size
              have HS := Lib.hid hs
              have HFL := Lib.hid hfl
              have HLL := Lib.hid hll
              clear hs hfl hll fs hnr k1
              go_wp2
              go_roundg (gK - 1)
              case measure => have := HG.out; omega
              case rel =>
                refine ⟨k + 1, at_ g k (.slice Ax (N + 64) cx), at_ m k (N + 64), at_ Y k (mkRowP k (N + 64)), by have := HG.out; simp only [Hid]; omega, by go_num, by omega, HFL.out, fun j hj => ?_, HLL.out, HS.out, bb', ss'⟩
                by_cases hjk : j = k
                · subst hjk
                  rw [at_same, at_same, HNK.out]
                  exact ⟨rfl, rfl⟩
                · rw [at_other _ _ hjk, at_other _ _ hjk]
                  exact HM.out j (by omega)
        · have t0 : ¬ (k : Int) < (K : Int) := by omega
          have hke : K = k := by omega
          subst hke
          clear HG
          obtain ⟨w3, hw3⟩ : ∃ w3 : World, w3 = wr := ⟨_, rfl⟩
          rw [← hw3] at HF HL HA bb ss
          go_wp2_with fail
          -- all is as it was marked
          go_loopg [9] K (fun gk v9 wr => ∃ (k : Nat), Hid (gk + k = K) ∧ v9 = .int .i64 (k : Int) ∧ k ≤ K ∧ Hid (Below w3.heap.size w3 wr))
          case atStart => exact ⟨0, by simp [Hid], rfl, by omega, by rw [hw3]; exact Below.refl _ _⟩
          case round =>
            clear hw3
            obtain ⟨k, HG, rfl, hkK2, HW⟩ := hrel
            by_cases hlt : k < K
            · have t0 : (k : Int) < (K : Int) := by omega
              have hnk := HN.out k hlt
              obtain ⟨hm1, hm2⟩ := HM.out k hlt
              have ov := HF.out.ov k hlt
              have og := HF.out.og k hlt
              rw [hm1, hm2] at og
              obtain ⟨N, hN⟩ : ∃ N, N = n k := ⟨_, rfl⟩
              rw [← hN] at ov og hnk hm1 hm2
              obtain ⟨A, c, hvk⟩ := own_slice ov
              obtain ⟨gb, cg, hgk, _, _⟩ := og.form (by omega)
              have k1 := HL.out.cell hlt
              have k2 := HA.out.cell hlt
              rw [hvk] at k1 ov
              rw [hgk] at k2 og
              have k1' := pw_cell_below HW.out k1
              have k2' := pw_cell_below HW.out k2
              have HOV := Lib.hid ov
              have HOG := Lib.hid og
              have HK1 := Lib.hid k1
              have HK2 := Lib.hid k2
              clear ov og hm1 hm2 hvk hgk hN k1 k2 k1' k2'
              go_wp2_with fail
              obtain ⟨gK, rfl⟩ : ∃ gK : Nat, gK = gk := ⟨_, rfl⟩
              obtain ⟨wo, rfl⟩ : ∃ wo : World, wo = wr := ⟨_, rfl⟩
              go_loopg [10] (N + 64) (fun gj v10 wr => ∃ (i : Nat), Hid (gj + i = N + 64) ∧ v10 = .int .i64 (i : Int) ∧ i ≤ N + 64 ∧ Hid (Below w3.heap.size w3 wr))
              case atStart => exact ⟨0, by simp [Hid], rfl, by omega, HW.out⟩
              case round =>
                obtain ⟨i, HJ, rfl, hi, HW2⟩ := hrel
                have k1 := pw_cell_below HW2.out HK1.out
                have k2 := pw_cell_below HW2.out HK2.out
                by_cases hil : i < N + 64
                · have z0 : (i : Int) < (N : Int) + 64 := by omega
                  have b0 : wr.cell? ⟨gb, i * 3, none⟩ = some (.int .u8 0) := pw_cell_below HW2.out ((HOG.out.cellAt (i * 3) (by omega)).trans (mkRowP_at (j := 0) hil (by decide)))
                  have b1 : wr.cell? ⟨gb, i * 3 + 1, none⟩ = some (.int .i64 (mk (k : Int) (i : Int))) := pw_cell_below HW2.out ((HOG.out.cellAt (i * 3 + 1) (by omega)).trans (mkRowP_at (j := 1) hil (by decide)))
                  have b2 : wr.cell? ⟨gb, i * 3 + 2, none⟩ = some (.int .i64 0) := pw_cell_below HW2.out ((HOG.out.cellAt (i * 3 + 2) (by omega)).trans (mkRowP_at (j := 2) hil (by decide)))
                  have zk : (0 : Int) ≤ (k : Int) := by omega
                  have zi : (0 : Int) ≤ (i : Int) := by omega
                  obtain ⟨q, hq⟩ : ∃ q, q = mk (k : Int) (i : Int) := ⟨_, rfl⟩
                  have HMK := Lib.hid (fun w : World => markPiece_any (k : Int) (i : Int) w (by omega) (by omega) (by omega) (by omega))
                  rw [← hq] at b1 HMK
                  have heq := fun w : World => eqPiece_same ⟨0, q, 0⟩ w
                  dsimp only at heq
                  by_cases hiN : i < N
                  · have d1' : decide ((i : Int) < (N : Int)) = true := decide_eq_true (by omega)
                    obtain ⟨ga, c', hgf, _, _⟩ := HOV.out.form (by omega)
                    obtain ⟨rfl, rfl⟩ : A = some ⟨ga, 0, none⟩ ∧ c = c' := by injection hgf with h1 h2 h3; exact ⟨h1, h3⟩
                    have a0 : wr.cell? ⟨ga, i * 3, none⟩ = some (.int .u8 0) := pw_cell_below HW2.out ((HOV.out.cellAt (i * 3) (by omega)).trans (mkRowP_at (j := 0) hiN (by decide)))
                    have a1 : wr.cell? ⟨ga, i * 3 + 1, none⟩ = some (.int .i64 (mk (k : Int) (i : Int))) := pw_cell_below HW2.out ((HOV.out.cellAt (i * 3 + 1) (by omega)).trans (mkRowP_at (j := 1) hiN (by decide)))
                    have a2 : wr.cell? ⟨ga, i * 3 + 2, none⟩ = some (.int .i64 0) := pw_cell_below HW2.out ((HOV.out.cellAt (i * 3 + 2) (by omega)).trans (mkRowP_at (j := 2) hiN (by decide)))
                    rw [← hq] at a1
                    have z2 : (i : Int) < (N : Int) := by omega
                    clear hgf hq
                    go_wp2_with fail
                    refine wp_region_gen (S := fun w' => w'.cell? ⟨gl, k, none⟩ = some (.slice (some ⟨ga, 0, none⟩) N c) ∧ w'.cell? ⟨gg, k, none⟩ = some (.slice (some ⟨gb, 0, none⟩) (N + 64) cg) ∧ w'.cell? ⟨gb, i * 3, none⟩ = some (.int .u8 0) ∧ w'.cell? ⟨gb, i * 3 + 1, none⟩ = some (.int .i64 q) ∧ w'.cell? ⟨gb, i * 3 + 2, none⟩ = some (.int .i64 0) ∧ w'.cell? ⟨ga, i * 3, none⟩ = some (.int .u8 0) ∧ w'.cell? ⟨ga, i * 3 + 1, none⟩ = some (.int .i64 q) ∧ w'.cell? ⟨ga, i * 3 + 2, none⟩ = some (.int .i64 0)) (by kernel_rfl) (fun _ _ _ _ _ h => h) ?_
                    intro Q' HQP HQN
                    change wpAnyH _ _ _ _ _ _ _ _ (wr.drewN 1)
                    have hS : (fun w' : World => w'.cell? ⟨gl, k, none⟩ = some (.slice (some ⟨ga, 0, none⟩) N c) ∧ w'.cell? ⟨gg, k, none⟩ = some (.slice (some ⟨gb, 0, none⟩) (N + 64) cg) ∧ w'.cell? ⟨gb, i * 3, none⟩ = some (.int .u8 0) ∧ w'.cell? ⟨gb, i * 3 + 1, none⟩ = some (.int .i64 q) ∧ w'.cell? ⟨gb, i * 3 + 2, none⟩ = some (.int .i64 0) ∧ w'.cell? ⟨ga, i * 3, none⟩ = some (.int .u8 0) ∧ w'.cell? ⟨ga, i * 3 + 1, none⟩ = some (.int .i64 q) ∧ w'.cell? ⟨ga, i * 3 + 2, none⟩ = some (.int .i64 0)) (wr.drewN 1) := ⟨k1, k2, b0, b1, b2, a0, a1, a2⟩
                    refine wpAnyH_take (i := 0) (oi := ⟨some 88, _, _, _, _, none⟩) (v := ?_) rfl (by kernel_rfl) (by kernel_rfl) (by kernel_rfl) (fun c _ w h => HQP.out c _ _ _ w h) (Or.inl ⟨by rfl, ?v0⟩) hS ?_
                    case v0 => (intro w hSw; (try dsimp only at hSw); obtain ⟨s0, s1, s2, s3, s4, s5, s6, s7⟩ := hSw; go_simp; try with_reducible rfl)
                    try simp only [Act.put, List.setIfInBounds_toArray, List.set_cons_zero, List.set_cons_succ]
                    refine wpAnyH_take (i := 1) (oi := ⟨some 89, _, _, _, _, none⟩) (v := ?_) rfl (by kernel_rfl) (by kernel_rfl) (by kernel_rfl) (fun c _ w h => HQP.out c _ _ _ w h) (Or.inl ⟨by rfl, ?v1⟩) hS ?_
                    case v1 => (intro w hSw; (try dsimp only at hSw); obtain ⟨s0, s1, s2, s3, s4, s5, s6, s7⟩ := hSw; go_simp; try with_reducible rfl)
                    try simp only [Act.put, List.setIfInBounds_toArray, List.set_cons_zero, List.set_cons_succ]
                    refine wpAnyH_take (i := 2) (oi := ⟨some 90, _, _, _, _, none⟩) (v := ?_) rfl (by kernel_rfl) (by kernel_rfl) (by kernel_rfl) (fun c _ w h => HQP.out c _ _ _ w h) (Or.inl ⟨by rfl, ?v2⟩) hS ?_
                    case v2 => (intro w hSw; (try dsimp only at hSw); obtain ⟨s0, s1, s2, s3, s4, s5, s6, s7⟩ := hSw; go_simp; try with_reducible rfl)
                    try simp only [Act.put, List.setIfInBounds_toArray, List.set_cons_zero, List.set_cons_succ]
                    refine wpAnyH_take (i := 3) (oi := ⟨some 91, _, _, _, _, none⟩) (v := ?_) rfl (by kernel_rfl) (by kernel_rfl) (by kernel_rfl) (fun c _ w h => HQP.out c _ _ _ w h) (Or.inl ⟨by rfl, ?v3⟩) hS ?_
                    case v3 => (intro w hSw; (try dsimp only at hSw); obtain ⟨s0, s1, s2, s3, s4, s5, s6, s7⟩ := hSw; go_simp; try with_reducible rfl)
                    try simp only [Act.put, List.setIfInBounds_toArray, List.set_cons_zero, List.set_cons_succ]
                    refine wpAnyH_take (i := 4) (oi := ⟨some 92, _, _, _, _, none⟩) (v := ?_) rfl (by kernel_rfl) (by kernel_rfl) (by kernel_rfl) (fun c _ w h => HQP.out c _ _ _ w h) (Or.inl ⟨by rfl, ?v4⟩) hS ?_
                    case v4 => (intro w hSw; (try dsimp only at hSw); obtain ⟨s0, s1, s2, s3, s4, s5, s6, s7⟩ := hSw; go_simp; try with_reducible rfl)
                    try simp only [Act.put, List.setIfInBounds_toArray, List.set_cons_zero, List.set_cons_succ]
                    refine wpAnyH_take (i := 5) (oi := ⟨some 93, _, _, _, _, none⟩) (v := ?_) rfl (by kernel_rfl) (by kernel_rfl) (by kernel_rfl) (fun c _ w h => HQP.out c _ _ _ w h) (Or.inl ⟨by rfl, ?v5⟩) hS ?_
                    case v5 => (intro w hSw; (try dsimp only at hSw); obtain ⟨s0, s1, s2, s3, s4, s5, s6, s7⟩ := hSw; go_simp; try with_reducible rfl)
                    try simp only [Act.put, List.setIfInBounds_toArray, List.set_cons_zero, List.set_cons_succ]
                    refine wpAnyH_take (i := 6) (oi := ⟨some 94, _, _, _, _, none⟩) (v := ?_) rfl (by kernel_rfl) (by kernel_rfl) (by kernel_rfl) (fun c _ w h => HQP.out c _ _ _ w h) (Or.inl ⟨by rfl, ?v6⟩) hS ?_
                    case v6 => (intro w hSw; (try dsimp only at hSw); obtain ⟨s0, s1, s2, s3, s4, s5, s6, s7⟩ := hSw; go_simp; try with_reducible rfl)
                    try simp only [Act.put, List.setIfInBounds_toArray, List.set_cons_zero, List.set_cons_succ]
                    refine wpAnyH_take (i := 7) (oi := ⟨some 95, _, _, _, _, none⟩) (v := ?_) rfl (by kernel_rfl) (by kernel_rfl) (by kernel_rfl) (fun c _ w h => HQP.out c _ _ _ w h) (Or.inl ⟨by rfl, ?v7⟩) hS ?_
                    case v7 => (intro w hSw; (try dsimp only at hSw); obtain ⟨s0, s1, s2, s3, s4, s5, s6, s7⟩ := hSw; go_simp; try with_reducible rfl)
                    try simp only [Act.put, List.setIfInBounds_toArray, List.set_cons_zero, List.set_cons_succ]
                    refine wpAnyH_take (i := 8) (oi := ⟨some 96, _, _, _, _, none⟩) (v := ?_) rfl (by kernel_rfl) (by kernel_rfl) (by kernel_rfl) (fun c _ w h => HQP.out c _ _ _ w h) (Or.inl ⟨by rfl, ?v8⟩) hS ?_
                    case v8 => (intro w hSw; (try dsimp only at hSw); obtain ⟨s0, s1, s2, s3, s4, s5, s6, s7⟩ := hSw; go_simp; try with_reducible rfl)
                    try simp only [Act.put, List.setIfInBounds_toArray, List.set_cons_zero, List.set_cons_succ]
                    refine wpAnyH_ready (rs := [9]) (by kernel_rfl) (by simp) ?_
                    refine AllReadyH.cons (o := ⟨some 97, _, _, _, _, none⟩) rfl (fun KQ hK => ?_) AllReadyH.nil
                    rw [if_pos (by rfl)]
                    go_wp2_with fail
                    refine (HMK.out _).mono ?_
                    rintro e wa ⟨rfl, hw⟩
                    have BB : Below wr.heap.size wr wa := (by rw [hw]; exact (pw_below_drewN (Below.refl _ _) 1).alloc (Nat.le_refl _) _)
                    have k1wa := pw_cell_below BB k1
                    have k2wa := pw_cell_below BB k2
                    have b0wa := pw_cell_below BB b0
                    have b1wa := pw_cell_below BB b1
                    have b2wa := pw_cell_below BB b2
                    have a0wa := pw_cell_below BB a0
                    have a1wa := pw_cell_below BB a1
                    have a2wa := pw_cell_below BB a2
                    have HBwa := Lib.hid BB
                    clear hw BB
                    go_wp2_with fail
                    clear hS
                    have hS : (fun w' : World => w'.cell? ⟨gl, k, none⟩ = some (.slice (some ⟨ga, 0, none⟩) N c) ∧ w'.cell? ⟨gg, k, none⟩ = some (.slice (some ⟨gb, 0, none⟩) (N + 64) cg) ∧ w'.cell? ⟨gb, i * 3, none⟩ = some (.int .u8 0) ∧ w'.cell? ⟨gb, i * 3 + 1, none⟩ = some (.int .i64 q) ∧ w'.cell? ⟨gb, i * 3 + 2, none⟩ = some (.int .i64 0) ∧ w'.cell? ⟨ga, i * 3, none⟩ = some (.int .u8 0) ∧ w'.cell? ⟨ga, i * 3 + 1, none⟩ = some (.int .i64 q) ∧ w'.cell? ⟨ga, i * 3 + 2, none⟩ = some (.int .i64 0)) (wa) := ⟨k1wa, k2wa, b0wa, b1wa, b2wa, a0wa, a1wa, a2wa⟩
                    refine hK.out _ _ hS (fun _ => ?_)
                    try simp only [Act.put, List.setIfInBounds_toArray, List.set_cons_zero, List.set_cons_succ]
                    refine wpAnyH_take (i := 10) (oi := ⟨some 98, _, _, _, _, none⟩) (v := ?_) rfl (by kernel_rfl) (by kernel_rfl) (by kernel_rfl) (fun c _ w h => HQP.out c _ _ _ w h) (Or.inl ⟨by rfl, ?v10⟩) hS ?_
                    case v10 => (intro w hSw; (try dsimp only at hSw); obtain ⟨s0, s1, s2, s3, s4, s5, s6, s7⟩ := hSw; go_simp; try with_reducible rfl)
                    try simp only [Act.put, List.setIfInBounds_toArray, List.set_cons_zero, List.set_cons_succ]
                    refine wpAnyH_take (i := 11) (oi := ⟨some 99, _, _, _, _, none⟩) (v := ?_) rfl (by kernel_rfl) (by kernel_rfl) (by kernel_rfl) (fun c _ w h => HQP.out c _ _ _ w h) (Or.inl ⟨by rfl, ?v11⟩) hS ?_
                    case v11 => (intro w hSw; (try dsimp only at hSw); obtain ⟨s0, s1, s2, s3, s4, s5, s6, s7⟩ := hSw; go_simp; try with_reducible rfl)
                    try simp only [Act.put, List.setIfInBounds_toArray, List.set_cons_zero, List.set_cons_succ]
                    refine wpAnyH_take (i := 12) (oi := ⟨some 100, _, _, _, _, none⟩) (v := ?_) rfl (by kernel_rfl) (by kernel_rfl) (by kernel_rfl) (fun c _ w h => HQP.out c _ _ _ w h) (Or.inl ⟨by rfl, ?v12⟩) hS ?_
                    case v12 => (intro w hSw; (try dsimp only at hSw); obtain ⟨s0, s1, s2, s3, s4, s5, s6, s7⟩ := hSw; go_simp; try with_reducible rfl)
                    try simp only [Act.put, List.setIfInBounds_toArray, List.set_cons_zero, List.set_cons_succ]
                    refine wpAnyH_take (i := 13) (oi := ⟨some 101, _, _, _, _, some (12, false)⟩) (v := ?_) rfl (by kernel_rfl) (by kernel_rfl) (by kernel_rfl) (fun c _ w h => HQP.out c _ _ _ w h) (Or.inl ⟨by rfl, ?v13⟩) hS ?_
                    case v13 => (intro w hSw; (try dsimp only at hSw); obtain ⟨s0, s1, s2, s3, s4, s5, s6, s7⟩ := hSw; go_simp; try with_reducible rfl)
                    try simp only [Act.put, List.setIfInBounds_toArray, List.set_cons_zero, List.set_cons_succ]
                    refine wpAnyH_take (i := 14) (oi := ⟨some 102, _, _, _, _, some (12, false)⟩) (v := ?_) rfl (by kernel_rfl) (by kernel_rfl) (by kernel_rfl) (fun c _ w h => HQP.out c _ _ _ w h) (Or.inl ⟨by rfl, ?v14⟩) hS ?_
                    case v14 => (intro w hSw; (try dsimp only at hSw); obtain ⟨s0, s1, s2, s3, s4, s5, s6, s7⟩ := hSw; go_simp; try with_reducible rfl)
                    try simp only [Act.put, List.setIfInBounds_toArray, List.set_cons_zero, List.set_cons_succ]
                    refine wpAnyH_take (i := 15) (oi := ⟨some 103, _, _, _, _, some (12, false)⟩) (v := ?_) rfl (by kernel_rfl) (by kernel_rfl) (by kernel_rfl) (fun c _ w h => HQP.out c _ _ _ w h) (Or.inl ⟨by rfl, ?v15⟩) hS ?_
                    case v15 => (intro w hSw; (try dsimp only at hSw); obtain ⟨s0, s1, s2, s3, s4, s5, s6, s7⟩ := hSw; go_simp; try with_reducible rfl)
                    try simp only [Act.put, List.setIfInBounds_toArray, List.set_cons_zero, List.set_cons_succ]
                    refine wpAnyH_take (i := 16) (oi := ⟨some 104, _, _, _, _, some (12, false)⟩) (v := ?_) rfl (by kernel_rfl) (by kernel_rfl) (by kernel_rfl) (fun c _ w h => HQP.out c _ _ _ w h) (Or.inl ⟨by rfl, ?v16⟩) hS ?_
                    case v16 => (intro w hSw; (try dsimp only at hSw); obtain ⟨s0, s1, s2, s3, s4, s5, s6, s7⟩ := hSw; go_simp; try with_reducible rfl)
                    try simp only [Act.put, List.setIfInBounds_toArray, List.set_cons_zero, List.set_cons_succ]
                    refine wpAnyH_take (i := 17) (oi := ⟨some 105, _, _, _, _, some (12, false)⟩) (v := ?_) rfl (by kernel_rfl) (by kernel_rfl) (by kernel_rfl) (fun c _ w h => HQP.out c _ _ _ w h) (Or.inl ⟨by rfl, ?v17⟩) hS ?_
                    case v17 => (intro w hSw; (try dsimp only at hSw); obtain ⟨s0, s1, s2, s3, s4, s5, s6, s7⟩ := hSw; go_simp; try with_reducible rfl)
                    try simp only [Act.put, List.setIfInBounds_toArray, List.set_cons_zero, List.set_cons_succ]
                    refine wpAnyH_take (i := 18) (oi := ⟨some 106, _, _, _, _, some (12, false)⟩) (v := ?_) rfl (by kernel_rfl) (by kernel_rfl) (by kernel_rfl) (fun c _ w h => HQP.out c _ _ _ w h) (Or.inl ⟨by rfl, ?v18⟩) hS ?_
                    case v18 => (intro w hSw; (try dsimp only at hSw); obtain ⟨s0, s1, s2, s3, s4, s5, s6, s7⟩ := hSw; go_simp; try with_reducible rfl)
                    try simp only [Act.put, List.setIfInBounds_toArray, List.set_cons_zero, List.set_cons_succ]
                    refine wpAnyH_take (i := 19) (oi := ⟨some 107, _, _, _, _, some (12, false)⟩) (v := ?_) rfl (by kernel_rfl) (by kernel_rfl) (by kernel_rfl) (fun c _ w h => HQP.out c _ _ _ w h) (Or.inl ⟨by rfl, ?v19⟩) hS ?_
                    case v19 => (intro w hSw; (try dsimp only at hSw); obtain ⟨s0, s1, s2, s3, s4, s5, s6, s7⟩ := hSw; go_simp; try with_reducible rfl)
                    try simp only [Act.put, List.setIfInBounds_toArray, List.set_cons_zero, List.set_cons_succ]
                    refine wpAnyH_take (i := 20) (oi := ⟨some 108, _, _, _, _, some (12, false)⟩) (v := ?_) rfl (by kernel_rfl) (by kernel_rfl) (by kernel_rfl) (fun c _ w h => HQP.out c _ _ _ w h) (Or.inl ⟨by rfl, ?v20⟩) hS ?_
                    case v20 => (intro w hSw; (try dsimp only at hSw); obtain ⟨s0, s1, s2, s3, s4, s5, s6, s7⟩ := hSw; go_simp; try with_reducible rfl)
                    try simp only [Act.put, List.setIfInBounds_toArray, List.set_cons_zero, List.set_cons_succ]
                    refine wpAnyH_take (i := 21) (oi := ⟨some 109, _, _, _, _, some (20, true)⟩) (v := ?_) rfl (by kernel_rfl) (by kernel_rfl) (by kernel_rfl) (fun c _ w h => HQP.out c _ _ _ w h) (Or.inl ⟨by rfl, ?v21⟩) hS ?_
                    case v21 => (intro w hSw; (try dsimp only at hSw); obtain ⟨s0, s1, s2, s3, s4, s5, s6, s7⟩ := hSw; go_simp; try with_reducible rfl)
                    try simp only [Act.put, List.setIfInBounds_toArray, List.set_cons_zero, List.set_cons_succ]
                    refine wpAnyH_take (i := 22) (oi := ⟨some 110, _, _, _, _, some (20, true)⟩) (v := ?_) rfl (by kernel_rfl) (by kernel_rfl) (by kernel_rfl) (fun c _ w h => HQP.out c _ _ _ w h) (Or.inl ⟨by rfl, ?v22⟩) hS ?_
                    case v22 => (intro w hSw; (try dsimp only at hSw); obtain ⟨s0, s1, s2, s3, s4, s5, s6, s7⟩ := hSw; go_simp; try with_reducible rfl)
                    try simp only [Act.put, List.setIfInBounds_toArray, List.set_cons_zero, List.set_cons_succ]
                    refine wpAnyH_take (i := 23) (oi := ⟨some 111, _, _, _, _, some (20, true)⟩) (v := ?_) rfl (by kernel_rfl) (by kernel_rfl) (by kernel_rfl) (fun c _ w h => HQP.out c _ _ _ w h) (Or.inl ⟨by rfl, ?v23⟩) hS ?_
                    case v23 => (intro w hSw; (try dsimp only at hSw); obtain ⟨s0, s1, s2, s3, s4, s5, s6, s7⟩ := hSw; go_simp; try with_reducible rfl)
                    try simp only [Act.put, List.setIfInBounds_toArray, List.set_cons_zero, List.set_cons_succ]
                    refine wpAnyH_take (i := 24) (oi := ⟨some 112, _, _, _, _, some (20, true)⟩) (v := ?_) rfl (by kernel_rfl) (by kernel_rfl) (by kernel_rfl) (fun c _ w h => HQP.out c _ _ _ w h) (Or.inl ⟨by rfl, ?v24⟩) hS ?_
                    case v24 => (intro w hSw; (try dsimp only at hSw); obtain ⟨s0, s1, s2, s3, s4, s5, s6, s7⟩ := hSw; go_simp; try with_reducible rfl)
                    try simp only [Act.put, List.setIfInBounds_toArray, List.set_cons_zero, List.set_cons_succ]
                    refine wpAnyH_take (i := 25) (oi := ⟨some 113, _, _, _, _, some (20, true)⟩) (v := ?_) rfl (by kernel_rfl) (by kernel_rfl) (by kernel_rfl) (fun c _ w h => HQP.out c _ _ _ w h) (Or.inl ⟨by rfl, ?v25⟩) hS ?_
                    case v25 => (intro w hSw; (try dsimp only at hSw); obtain ⟨s0, s1, s2, s3, s4, s5, s6, s7⟩ := hSw; go_simp; try with_reducible rfl)
                    try simp only [Act.put, List.setIfInBounds_toArray, List.set_cons_zero, List.set_cons_succ]
                    refine wpAnyH_take (i := 26) (oi := ⟨some 114, _, _, _, _, some (20, true)⟩) (v := ?_) rfl (by kernel_rfl) (by kernel_rfl) (by kernel_rfl) (fun c _ w h => HQP.out c _ _ _ w h) (Or.inl ⟨by rfl, ?v26⟩) hS ?_
                    case v26 => (intro w hSw; (try dsimp only at hSw); obtain ⟨s0, s1, s2, s3, s4, s5, s6, s7⟩ := hSw; go_simp; try with_reducible rfl)
                    try simp only [Act.put, List.setIfInBounds_toArray, List.set_cons_zero, List.set_cons_succ]
                    refine wpAnyH_take (i := 27) (oi := ⟨some 115, _, _, _, _, some (20, true)⟩) (v := ?_) rfl (by kernel_rfl) (by kernel_rfl) (by kernel_rfl) (fun c _ w h => HQP.out c _ _ _ w h) (Or.inl ⟨by rfl, ?v27⟩) hS ?_
                    case v27 => (intro w hSw; (try dsimp only at hSw); obtain ⟨s0, s1, s2, s3, s4, s5, s6, s7⟩ := hSw; go_simp; try with_reducible rfl)
                    try simp only [Act.put, List.setIfInBounds_toArray, List.set_cons_zero, List.set_cons_succ]
                    refine wpAnyH_take (i := 28) (oi := ⟨some 116, _, _, _, _, some (20, true)⟩) (v := ?_) rfl (by kernel_rfl) (by kernel_rfl) (by kernel_rfl) (fun c _ w h => HQP.out c _ _ _ w h) (Or.inl ⟨by rfl, ?v28⟩) hS ?_
                    case v28 => (intro w hSw; (try dsimp only at hSw); obtain ⟨s0, s1, s2, s3, s4, s5, s6, s7⟩ := hSw; go_simp; try with_reducible rfl)
                    try simp only [Act.put, List.setIfInBounds_toArray, List.set_cons_zero, List.set_cons_succ]
                    refine wpAnyH_take (i := 29) (oi := ⟨some 117, _, _, _, _, some (20, true)⟩) (v := ?_) rfl (by kernel_rfl) (by kernel_rfl) (by kernel_rfl) (fun c _ w h => HQP.out c _ _ _ w h) (Or.inl ⟨by rfl, ?v29⟩) hS ?_
                    case v29 => (intro w hSw; (try dsimp only at hSw); obtain ⟨s0, s1, s2, s3, s4, s5, s6, s7⟩ := hSw; go_simp; try with_reducible rfl)
                    try simp only [Act.put, List.setIfInBounds_toArray, List.set_cons_zero, List.set_cons_succ]
                    refine wpAnyH_ready (rs := [30]) (by kernel_rfl) (by simp) ?_
                    refine AllReadyH.cons (o := ⟨some 118, _, _, _, _, some (20, true)⟩) rfl (fun KQ hK => ?_) AllReadyH.nil
                    rw [if_pos (by rfl)]
                    go_wp2_with fail
                    refine (HMK.out _).mono ?_
                    rintro e wb ⟨rfl, hw⟩
                    have BB : Below wr.heap.size wr wb := (by rw [hw]; exact HBwa.out.alloc HBwa.out.size _)
                    have k1wb := pw_cell_below BB k1
                    have k2wb := pw_cell_below BB k2
                    have b0wb := pw_cell_below BB b0
                    have b1wb := pw_cell_below BB b1
                    have b2wb := pw_cell_below BB b2
                    have a0wb := pw_cell_below BB a0
                    have a1wb := pw_cell_below BB a1
                    have a2wb := pw_cell_below BB a2
                    have HBwb := Lib.hid BB
                    clear hw BB
                    go_wp2_with fail
                    clear hS
                    have hS : (fun w' : World => w'.cell? ⟨gl, k, none⟩ = some (.slice (some ⟨ga, 0, none⟩) N c) ∧ w'.cell? ⟨gg, k, none⟩ = some (.slice (some ⟨gb, 0, none⟩) (N + 64) cg) ∧ w'.cell? ⟨gb, i * 3, none⟩ = some (.int .u8 0) ∧ w'.cell? ⟨gb, i * 3 + 1, none⟩ = some (.int .i64 q) ∧ w'.cell? ⟨gb, i * 3 + 2, none⟩ = some (.int .i64 0) ∧ w'.cell? ⟨ga, i * 3, none⟩ = some (.int .u8 0) ∧ w'.cell? ⟨ga, i * 3 + 1, none⟩ = some (.int .i64 q) ∧ w'.cell? ⟨ga, i * 3 + 2, none⟩ = some (.int .i64 0)) (wb) := ⟨k1wb, k2wb, b0wb, b1wb, b2wb, a0wb, a1wb, a2wb⟩
                    refine hK.out _ _ hS (fun _ => ?_)
                    try simp only [Act.put, List.setIfInBounds_toArray, List.set_cons_zero, List.set_cons_succ]
                    refine wpAnyH_take (i := 31) (oi := ⟨some 119, _, _, _, _, some (20, true)⟩) (v := ?_) rfl (by kernel_rfl) (by kernel_rfl) (by kernel_rfl) (fun c _ w h => HQP.out c _ _ _ w h) (Or.inl ⟨by rfl, ?v31⟩) hS ?_
                    case v31 => (intro w hSw; (try dsimp only at hSw); obtain ⟨s0, s1, s2, s3, s4, s5, s6, s7⟩ := hSw; go_simp; try with_reducible rfl)
                    try simp only [Act.put, List.setIfInBounds_toArray, List.set_cons_zero, List.set_cons_succ]
                    refine wpAnyH_take (i := 32) (oi := ⟨some 120, _, _, _, _, some (20, true)⟩) (v := ?_) rfl (by kernel_rfl) (by kernel_rfl) (by kernel_rfl) (fun c _ w h => HQP.out c _ _ _ w h) (Or.inl ⟨by rfl, ?v32⟩) hS ?_
                    case v32 => (intro w hSw; (try dsimp only at hSw); obtain ⟨s0, s1, s2, s3, s4, s5, s6, s7⟩ := hSw; go_simp; try with_reducible rfl)
                    try simp only [Act.put, List.setIfInBounds_toArray, List.set_cons_zero, List.set_cons_succ]
                    refine wpAnyH_take (i := 33) (oi := ⟨some 121, _, _, _, _, some (12, false)⟩) (v := ?_) rfl (by kernel_rfl) (by kernel_rfl) (by kernel_rfl) (fun c _ w h => HQP.out c _ _ _ w h) (Or.inl ⟨by rfl, ?v33⟩) hS ?_
                    case v33 => (intro w hSw; (try dsimp only at hSw); obtain ⟨s0, s1, s2, s3, s4, s5, s6, s7⟩ := hSw; go_simp; try with_reducible rfl)
                    try simp only [Act.put, List.setIfInBounds_toArray, List.set_cons_zero, List.set_cons_succ]
                    refine wpAnyH_take (i := 34) (oi := ⟨some 122, _, _, _, _, none⟩) (v := ?_) rfl (by kernel_rfl) (by kernel_rfl) (by kernel_rfl) (fun c _ w h => HQP.out c _ _ _ w h) (Or.inl ⟨by rfl, ?v34⟩) hS ?_
                    case v34 => (intro w hSw; (try dsimp only at hSw); obtain ⟨s0, s1, s2, s3, s4, s5, s6, s7⟩ := hSw; go_simp; try with_reducible rfl)
                    try simp only [Act.put, List.setIfInBounds_toArray, List.set_cons_zero, List.set_cons_succ]
                    refine wpAnyH_done (by kernel_rfl) ?_ _
                    refine HQN.out _ _ ?_
                    clear HQP HQN hS
                    go_wp2_with fail
                    go_roundg (gk - 1)
                    case measure => have := HJ.out; omega
                    case rel => exact ⟨i + 1, by have := HJ.out; simp only [Hid]; omega, by go_num, by omega, HW2.out.trans (HBwb.out.mono HW2.out.size)⟩
                  · have d1' : decide ((i : Int) < (N : Int)) = false := decide_eq_false (by omega)
                    clear hq
                    go_wp2_with fail
                    refine wp_region_gen (S := fun w' => w'.cell? ⟨gl, k, none⟩ = some (.slice A N c) ∧ w'.cell? ⟨gg, k, none⟩ = some (.slice (some ⟨gb, 0, none⟩) (N + 64) cg) ∧ w'.cell? ⟨gb, i * 3, none⟩ = some (.int .u8 0) ∧ w'.cell? ⟨gb, i * 3 + 1, none⟩ = some (.int .i64 q) ∧ w'.cell? ⟨gb, i * 3 + 2, none⟩ = some (.int .i64 0)) (by kernel_rfl) (fun _ _ _ _ _ h => h) ?_
                    intro Q' HQP HQN
                    change wpAnyH _ _ _ _ _ _ _ _ (wr.drewN 1)
                    have hS : (fun w' : World => w'.cell? ⟨gl, k, none⟩ = some (.slice A N c) ∧ w'.cell? ⟨gg, k, none⟩ = some (.slice (some ⟨gb, 0, none⟩) (N + 64) cg) ∧ w'.cell? ⟨gb, i * 3, none⟩ = some (.int .u8 0) ∧ w'.cell? ⟨gb, i * 3 + 1, none⟩ = some (.int .i64 q) ∧ w'.cell? ⟨gb, i * 3 + 2, none⟩ = some (.int .i64 0)) (wr.drewN 1) := ⟨k1, k2, b0, b1, b2⟩
                    refine wpAnyH_take (i := 0) (oi := ⟨some 88, _, _, _, _, none⟩) (v := ?_) rfl (by kernel_rfl) (by kernel_rfl) (by kernel_rfl) (fun c _ w h => HQP.out c _ _ _ w h) (Or.inl ⟨by rfl, ?v0⟩) hS ?_
                    case v0 => (intro w hSw; (try dsimp only at hSw); obtain ⟨s0, s1, s2, s3, s4⟩ := hSw; go_simp; try with_reducible rfl)
                    try simp only [Act.put, List.setIfInBounds_toArray, List.set_cons_zero, List.set_cons_succ]
                    refine wpAnyH_take (i := 1) (oi := ⟨some 89, _, _, _, _, none⟩) (v := ?_) rfl (by kernel_rfl) (by kernel_rfl) (by kernel_rfl) (fun c _ w h => HQP.out c _ _ _ w h) (Or.inl ⟨by rfl, ?v1⟩) hS ?_
                    case v1 => (intro w hSw; (try dsimp only at hSw); obtain ⟨s0, s1, s2, s3, s4⟩ := hSw; go_simp; try with_reducible rfl)
                    try simp only [Act.put, List.setIfInBounds_toArray, List.set_cons_zero, List.set_cons_succ]
                    refine wpAnyH_take (i := 2) (oi := ⟨some 90, _, _, _, _, none⟩) (v := ?_) rfl (by kernel_rfl) (by kernel_rfl) (by kernel_rfl) (fun c _ w h => HQP.out c _ _ _ w h) (Or.inl ⟨by rfl, ?v2⟩) hS ?_
                    case v2 => (intro w hSw; (try dsimp only at hSw); obtain ⟨s0, s1, s2, s3, s4⟩ := hSw; go_simp; try with_reducible rfl)
                    try simp only [Act.put, List.setIfInBounds_toArray, List.set_cons_zero, List.set_cons_succ]
                    refine wpAnyH_take (i := 3) (oi := ⟨some 91, _, _, _, _, none⟩) (v := ?_) rfl (by kernel_rfl) (by kernel_rfl) (by kernel_rfl) (fun c _ w h => HQP.out c _ _ _ w h) (Or.inl ⟨by rfl, ?v3⟩) hS ?_
                    case v3 => (intro w hSw; (try dsimp only at hSw); obtain ⟨s0, s1, s2, s3, s4⟩ := hSw; go_simp; try with_reducible rfl)
                    try simp only [Act.put, List.setIfInBounds_toArray, List.set_cons_zero, List.set_cons_succ]
                    refine wpAnyH_take (i := 4) (oi := ⟨some 92, _, _, _, _, none⟩) (v := ?_) rfl (by kernel_rfl) (by kernel_rfl) (by kernel_rfl) (fun c _ w h => HQP.out c _ _ _ w h) (Or.inl ⟨by rfl, ?v4⟩) hS ?_
                    case v4 => (intro w hSw; (try dsimp only at hSw); obtain ⟨s0, s1, s2, s3, s4⟩ := hSw; go_simp; try with_reducible rfl)
                    try simp only [Act.put, List.setIfInBounds_toArray, List.set_cons_zero, List.set_cons_succ]
                    refine wpAnyH_take (i := 5) (oi := ⟨some 93, _, _, _, _, none⟩) (v := ?_) rfl (by kernel_rfl) (by kernel_rfl) (by kernel_rfl) (fun c _ w h => HQP.out c _ _ _ w h) (Or.inl ⟨by rfl, ?v5⟩) hS ?_
                    case v5 => (intro w hSw; (try dsimp only at hSw); obtain ⟨s0, s1, s2, s3, s4⟩ := hSw; go_simp; try with_reducible rfl)
                    try simp only [Act.put, List.setIfInBounds_toArray, List.set_cons_zero, List.set_cons_succ]
                    refine wpAnyH_take (i := 6) (oi := ⟨some 94, _, _, _, _, none⟩) (v := ?_) rfl (by kernel_rfl) (by kernel_rfl) (by kernel_rfl) (fun c _ w h => HQP.out c _ _ _ w h) (Or.inl ⟨by rfl, ?v6⟩) hS ?_
                    case v6 => (intro w hSw; (try dsimp only at hSw); obtain ⟨s0, s1, s2, s3, s4⟩ := hSw; go_simp; try with_reducible rfl)
                    try simp only [Act.put, List.setIfInBounds_toArray, List.set_cons_zero, List.set_cons_succ]
                    refine wpAnyH_take (i := 7) (oi := ⟨some 95, _, _, _, _, none⟩) (v := ?_) rfl (by kernel_rfl) (by kernel_rfl) (by kernel_rfl) (fun c _ w h => HQP.out c _ _ _ w h) (Or.inl ⟨by rfl, ?v7⟩) hS ?_
                    case v7 => (intro w hSw; (try dsimp only at hSw); obtain ⟨s0, s1, s2, s3, s4⟩ := hSw; go_simp; try with_reducible rfl)
                    try simp only [Act.put, List.setIfInBounds_toArray, List.set_cons_zero, List.set_cons_succ]
                    refine wpAnyH_take (i := 8) (oi := ⟨some 96, _, _, _, _, none⟩) (v := ?_) rfl (by kernel_rfl) (by kernel_rfl) (by kernel_rfl) (fun c _ w h => HQP.out c _ _ _ w h) (Or.inl ⟨by rfl, ?v8⟩) hS ?_
                    case v8 => (intro w hSw; (try dsimp only at hSw); obtain ⟨s0, s1, s2, s3, s4⟩ := hSw; go_simp; try with_reducible rfl)
                    try simp only [Act.put, List.setIfInBounds_toArray, List.set_cons_zero, List.set_cons_succ]
                    refine wpAnyH_ready (rs := [9]) (by kernel_rfl) (by simp) ?_
                    refine AllReadyH.cons (o := ⟨some 97, _, _, _, _, none⟩) rfl (fun KQ hK => ?_) AllReadyH.nil
                    rw [if_pos (by rfl)]
                    go_wp2_with fail
                    refine (HMK.out _).mono ?_
                    rintro e wa ⟨rfl, hw⟩
                    have BB : Below wr.heap.size wr wa := (by rw [hw]; exact (pw_below_drewN (Below.refl _ _) 1).alloc (Nat.le_refl _) _)
                    have k1wa := pw_cell_below BB k1
                    have k2wa := pw_cell_below BB k2
                    have b0wa := pw_cell_below BB b0
                    have b1wa := pw_cell_below BB b1
                    have b2wa := pw_cell_below BB b2
                    have HBwa := Lib.hid BB
                    clear hw BB
                    go_wp2_with fail
                    clear hS
                    have hS : (fun w' : World => w'.cell? ⟨gl, k, none⟩ = some (.slice A N c) ∧ w'.cell? ⟨gg, k, none⟩ = some (.slice (some ⟨gb, 0, none⟩) (N + 64) cg) ∧ w'.cell? ⟨gb, i * 3, none⟩ = some (.int .u8 0) ∧ w'.cell? ⟨gb, i * 3 + 1, none⟩ = some (.int .i64 q) ∧ w'.cell? ⟨gb, i * 3 + 2, none⟩ = some (.int .i64 0)) (wa) := ⟨k1wa, k2wa, b0wa, b1wa, b2wa⟩
                    refine hK.out _ _ hS (fun _ => ?_)
                    try simp only [Act.put, List.setIfInBounds_toArray, List.set_cons_zero, List.set_cons_succ]
                    refine wpAnyH_take (i := 10) (oi := ⟨some 98, _, _, _, _, none⟩) (v := ?_) rfl (by kernel_rfl) (by kernel_rfl) (by kernel_rfl) (fun c _ w h => HQP.out c _ _ _ w h) (Or.inl ⟨by rfl, ?v10⟩) hS ?_
                    case v10 => (intro w hSw; (try dsimp only at hSw); obtain ⟨s0, s1, s2, s3, s4⟩ := hSw; go_simp; try with_reducible rfl)
                    try simp only [Act.put, List.setIfInBounds_toArray, List.set_cons_zero, List.set_cons_succ]
                    refine wpAnyH_take (i := 11) (oi := ⟨some 99, _, _, _, _, none⟩) (v := ?_) rfl (by kernel_rfl) (by kernel_rfl) (by kernel_rfl) (fun c _ w h => HQP.out c _ _ _ w h) (Or.inl ⟨by rfl, ?v11⟩) hS ?_
                    case v11 => (intro w hSw; (try dsimp only at hSw); obtain ⟨s0, s1, s2, s3, s4⟩ := hSw; go_simp; try with_reducible rfl)
                    try simp only [Act.put, List.setIfInBounds_toArray, List.set_cons_zero, List.set_cons_succ]
                    refine wpAnyH_take (i := 12) (oi := ⟨some 100, _, _, _, _, none⟩) (v := ?_) rfl (by kernel_rfl) (by kernel_rfl) (by kernel_rfl) (fun c _ w h => HQP.out c _ _ _ w h) (Or.inl ⟨by rfl, ?v12⟩) hS ?_
                    case v12 => (intro w hSw; (try dsimp only at hSw); obtain ⟨s0, s1, s2, s3, s4⟩ := hSw; go_simp; try with_reducible rfl)
                    try simp only [Act.put, List.setIfInBounds_toArray, List.set_cons_zero, List.set_cons_succ]
                    refine wpAnyH_take (i := 13) (oi := ⟨some 101, _, _, _, _, some (12, false)⟩) (v := ?_) rfl (by kernel_rfl) (by kernel_rfl) (by kernel_rfl) (fun c _ w h => HQP.out c _ _ _ w h) (Or.inl ⟨by rfl, ?v13⟩) hS ?_
                    case v13 => (intro w hSw; (try dsimp only at hSw); obtain ⟨s0, s1, s2, s3, s4⟩ := hSw; go_simp; try with_reducible rfl)
                    try simp only [Act.put, List.setIfInBounds_toArray, List.set_cons_zero, List.set_cons_succ]
                    refine wpAnyH_take (i := 14) (oi := ⟨some 102, _, _, _, _, some (12, false)⟩) (v := ?_) rfl (by kernel_rfl) (by kernel_rfl) (by kernel_rfl) (fun c _ w h => HQP.out c _ _ _ w h) (Or.inl ⟨by rfl, ?v14⟩) hS ?_
                    case v14 => (intro w hSw; (try dsimp only at hSw); obtain ⟨s0, s1, s2, s3, s4⟩ := hSw; go_simp; try with_reducible rfl)
                    try simp only [Act.put, List.setIfInBounds_toArray, List.set_cons_zero, List.set_cons_succ]
                    refine wpAnyH_take (i := 15) (oi := ⟨some 103, _, _, _, _, some (12, false)⟩) (v := ?_) rfl (by kernel_rfl) (by kernel_rfl) (by kernel_rfl) (fun c _ w h => HQP.out c _ _ _ w h) (Or.inl ⟨by rfl, ?v15⟩) hS ?_
                    case v15 => (intro w hSw; (try dsimp only at hSw); obtain ⟨s0, s1, s2, s3, s4⟩ := hSw; go_simp; try with_reducible rfl)
                    try simp only [Act.put, List.setIfInBounds_toArray, List.set_cons_zero, List.set_cons_succ]
                    refine wpAnyH_take (i := 16) (oi := ⟨some 104, _, _, _, _, some (12, false)⟩) (v := ?_) rfl (by kernel_rfl) (by kernel_rfl) (by kernel_rfl) (fun c _ w h => HQP.out c _ _ _ w h) (Or.inl ⟨by rfl, ?v16⟩) hS ?_
                    case v16 => (intro w hSw; (try dsimp only at hSw); obtain ⟨s0, s1, s2, s3, s4⟩ := hSw; go_simp; try with_reducible rfl)
                    try simp only [Act.put, List.setIfInBounds_toArray, List.set_cons_zero, List.set_cons_succ]
                    refine wpAnyH_take (i := 17) (oi := ⟨some 105, _, _, _, _, some (12, false)⟩) (v := ?_) rfl (by kernel_rfl) (by kernel_rfl) (by kernel_rfl) (fun c _ w h => HQP.out c _ _ _ w h) (Or.inl ⟨by rfl, ?v17⟩) hS ?_
                    case v17 => (intro w hSw; (try dsimp only at hSw); obtain ⟨s0, s1, s2, s3, s4⟩ := hSw; go_simp; try with_reducible rfl)
                    try simp only [Act.put, List.setIfInBounds_toArray, List.set_cons_zero, List.set_cons_succ]
                    refine wpAnyH_take (i := 18) (oi := ⟨some 106, _, _, _, _, some (12, false)⟩) (v := ?_) rfl (by kernel_rfl) (by kernel_rfl) (by kernel_rfl) (fun c _ w h => HQP.out c _ _ _ w h) (Or.inl ⟨by rfl, ?v18⟩) hS ?_
                    case v18 => (intro w hSw; (try dsimp only at hSw); obtain ⟨s0, s1, s2, s3, s4⟩ := hSw; go_simp; try with_reducible rfl)
                    try simp only [Act.put, List.setIfInBounds_toArray, List.set_cons_zero, List.set_cons_succ]
                    refine wpAnyH_take (i := 19) (oi := ⟨some 107, _, _, _, _, some (12, false)⟩) (v := ?_) rfl (by kernel_rfl) (by kernel_rfl) (by kernel_rfl) (fun c _ w h => HQP.out c _ _ _ w h) (Or.inl ⟨by rfl, ?v19⟩) hS ?_
                    case v19 => (intro w hSw; (try dsimp only at hSw); obtain ⟨s0, s1, s2, s3, s4⟩ := hSw; go_simp; try with_reducible rfl)
                    try simp only [Act.put, List.setIfInBounds_toArray, List.set_cons_zero, List.set_cons_succ]
                    refine wpAnyH_take (i := 20) (oi := ⟨some 108, _, _, _, _, some (12, false)⟩) (v := ?_) rfl (by kernel_rfl) (by kernel_rfl) (by kernel_rfl) (fun c _ w h => HQP.out c _ _ _ w h) (Or.inl ⟨by rfl, ?v20⟩) hS ?_
                    case v20 => (intro w hSw; (try dsimp only at hSw); obtain ⟨s0, s1, s2, s3, s4⟩ := hSw; go_simp; try with_reducible rfl)
                    try simp only [Act.put, List.setIfInBounds_toArray, List.set_cons_zero, List.set_cons_succ]
                    refine wpAnyH_take (i := 21) (oi := ⟨some 109, _, _, _, _, some (20, true)⟩) (v := undef) rfl (by kernel_rfl) (by kernel_rfl) (by kernel_rfl) (fun c _ w h => HQP.out c _ _ _ w h) (Or.inr ⟨by rfl, rfl⟩) hS ?_
                    try simp only [Act.put, List.setIfInBounds_toArray, List.set_cons_zero, List.set_cons_succ]
                    refine wpAnyH_take (i := 22) (oi := ⟨some 110, _, _, _, _, some (20, true)⟩) (v := undef) rfl (by kernel_rfl) (by kernel_rfl) (by kernel_rfl) (fun c _ w h => HQP.out c _ _ _ w h) (Or.inr ⟨by rfl, rfl⟩) hS ?_
                    try simp only [Act.put, List.setIfInBounds_toArray, List.set_cons_zero, List.set_cons_succ]
                    refine wpAnyH_take (i := 23) (oi := ⟨some 111, _, _, _, _, some (20, true)⟩) (v := undef) rfl (by kernel_rfl) (by kernel_rfl) (by kernel_rfl) (fun c _ w h => HQP.out c _ _ _ w h) (Or.inr ⟨by rfl, rfl⟩) hS ?_
                    try simp only [Act.put, List.setIfInBounds_toArray, List.set_cons_zero, List.set_cons_succ]
                    refine wpAnyH_take (i := 24) (oi := ⟨some 112, _, _, _, _, some (20, true)⟩) (v := undef) rfl (by kernel_rfl) (by kernel_rfl) (by kernel_rfl) (fun c _ w h => HQP.out c _ _ _ w h) (Or.inr ⟨by rfl, rfl⟩) hS ?_
                    try simp only [Act.put, List.setIfInBounds_toArray, List.set_cons_zero, List.set_cons_succ]
                    refine wpAnyH_take (i := 25) (oi := ⟨some 113, _, _, _, _, some (20, true)⟩) (v := undef) rfl (by kernel_rfl) (by kernel_rfl) (by kernel_rfl) (fun c _ w h => HQP.out c _ _ _ w h) (Or.inr ⟨by rfl, rfl⟩) hS ?_
                    try simp only [Act.put, List.setIfInBounds_toArray, List.set_cons_zero, List.set_cons_succ]
                    refine wpAnyH_take (i := 26) (oi := ⟨some 114, _, _, _, _, some (20, true)⟩) (v := undef) rfl (by kernel_rfl) (by kernel_rfl) (by kernel_rfl) (fun c _ w h => HQP.out c _ _ _ w h) (Or.inr ⟨by rfl, rfl⟩) hS ?_
                    try simp only [Act.put, List.setIfInBounds_toArray, List.set_cons_zero, List.set_cons_succ]
                    refine wpAnyH_take (i := 27) (oi := ⟨some 115, _, _, _, _, some (20, true)⟩) (v := undef) rfl (by kernel_rfl) (by kernel_rfl) (by kernel_rfl) (fun c _ w h => HQP.out c _ _ _ w h) (Or.inr ⟨by rfl, rfl⟩) hS ?_
                    try simp only [Act.put, List.setIfInBounds_toArray, List.set_cons_zero, List.set_cons_succ]
                    refine wpAnyH_take (i := 28) (oi := ⟨some 116, _, _, _, _, some (20, true)⟩) (v := undef) rfl (by kernel_rfl) (by kernel_rfl) (by kernel_rfl) (fun c _ w h => HQP.out c _ _ _ w h) (Or.inr ⟨by rfl, rfl⟩) hS ?_
                    try simp only [Act.put, List.setIfInBounds_toArray, List.set_cons_zero, List.set_cons_succ]
                    refine wpAnyH_take (i := 29) (oi := ⟨some 117, _, _, _, _, some (20, true)⟩) (v := undef) rfl (by kernel_rfl) (by kernel_rfl) (by kernel_rfl) (fun c _ w h => HQP.out c _ _ _ w h) (Or.inr ⟨by rfl, rfl⟩) hS ?_
                    try simp only [Act.put, List.setIfInBounds_toArray, List.set_cons_zero, List.set_cons_succ]
                    refine wpAnyH_take (i := 30) (oi := ⟨some 118, _, _, _, _, some (20, true)⟩) (v := undef) rfl (by kernel_rfl) (by kernel_rfl) (by kernel_rfl) (fun c _ w h => HQP.out c _ _ _ w h) (Or.inr ⟨by rfl, rfl⟩) hS ?_
                    try simp only [Act.put, List.setIfInBounds_toArray, List.set_cons_zero, List.set_cons_succ]
                    refine wpAnyH_take (i := 31) (oi := ⟨some 119, _, _, _, _, some (20, true)⟩) (v := undef) rfl (by kernel_rfl) (by kernel_rfl) (by kernel_rfl) (fun c _ w h => HQP.out c _ _ _ w h) (Or.inr ⟨by rfl, rfl⟩) hS ?_
                    try simp only [Act.put, List.setIfInBounds_toArray, List.set_cons_zero, List.set_cons_succ]
                    refine wpAnyH_take (i := 32) (oi := ⟨some 120, _, _, _, _, some (20, true)⟩) (v := undef) rfl (by kernel_rfl) (by kernel_rfl) (by kernel_rfl) (fun c _ w h => HQP.out c _ _ _ w h) (Or.inr ⟨by rfl, rfl⟩) hS ?_
                    try simp only [Act.put, List.setIfInBounds_toArray, List.set_cons_zero, List.set_cons_succ]
                    refine wpAnyH_take (i := 33) (oi := ⟨some 121, _, _, _, _, some (12, false)⟩) (v := ?_) rfl (by kernel_rfl) (by kernel_rfl) (by kernel_rfl) (fun c _ w h => HQP.out c _ _ _ w h) (Or.inl ⟨by rfl, ?v33⟩) hS ?_
                    case v33 => (intro w hSw; (try dsimp only at hSw); obtain ⟨s0, s1, s2, s3, s4⟩ := hSw; go_simp; try with_reducible rfl)
                    try simp only [Act.put, List.setIfInBounds_toArray, List.set_cons_zero, List.set_cons_succ]
                    refine wpAnyH_take (i := 34) (oi := ⟨some 122, _, _, _, _, none⟩) (v := ?_) rfl (by kernel_rfl) (by kernel_rfl) (by kernel_rfl) (fun c _ w h => HQP.out c _ _ _ w h) (Or.inl ⟨by rfl, ?v34⟩) hS ?_
                    case v34 => (intro w hSw; (try dsimp only at hSw); obtain ⟨s0, s1, s2, s3, s4⟩ := hSw; go_simp; try with_reducible rfl)
                    try simp only [Act.put, List.setIfInBounds_toArray, List.set_cons_zero, List.set_cons_succ]
                    refine wpAnyH_done (by kernel_rfl) ?_ _
                    refine HQN.out _ _ ?_
                    clear HQP HQN hS
                    go_wp2_with fail
                    go_roundg (gk - 1)
                    case measure => have := HJ.out; omega
                    case rel => exact ⟨i + 1, by have := HJ.out; simp only [Hid]; omega, by go_num, by omega, HW2.out.trans (HBwa.out.mono HW2.out.size)⟩
                · have z0 : ¬ (i : Int) < (N : Int) + 64 := by omega
                  go_wp2
                  go_roundg (gK - 1)
                  case measure => have := HG.out; omega
                  case rel => exact ⟨k + 1, by have := HG.out; simp only [Hid]; omega, by go_num, by omega, HW2.out⟩
            · have t0 : ¬ (k : Int) < (K : Int) := by omega
              have hke : K = k := by omega
              subst hke
              clear HG
              have fw : Fr (fun _ => False) w3 wr := Fr.of_below HW.out _
              have hF4 := HF.out.fr fw (fun _ h => h.elim)
              have hL4 := HL.out.fr fw (fun h => h)
              have hA4 := HA.out.fr fw (fun h => h)
              have bb4 := Bel.then bb fw ss (fun _ h => h.elim) (fun h => h) HF.out.zl (fun _ h => h.elim)
              have ss4 : B ≤ wr.heap.size := Nat.le_trans ss HW.out.size
              have hM4 : ∀ j, j < K → m j = n j + 64 ∧ ∃ Z, Y j = mkRowP j (n j) ++ Z := fun j hj => ⟨(HM.out j hj).1, _, by rw [(HM.out j hj).2, mkRowP_add]⟩
              have HF4 := Lib.hid hF4
              have HL4 := Lib.hid hL4
              have HA4 := Lib.hid hA4
              have HM4 := Lib.hid hM4
              clear hF4 hL4 hA4 hM4 HF HL HA HM HW bb ss
              go_wp2_with fail
              -- each grows once more, out of what it was
              go_loopg [11] K (fun gk v11 wr => ∃ (k : Nat) (g : Nat → Value) (m : Nat → Nat) (Y : Nat → List Value), Hid (gk + k = K) ∧ v11 = .int .i64 (k : Int) ∧ k ≤ K ∧ Hid (Flat Zo wr 35 3 B K v g n m (fun j => mkRowP j (n j)) Y) ∧ Hid (∀ j, j < K → m j = n j + 64 ∧ ∃ Z, Y j = mkRowP j (n j) ++ Z) ∧ Hid (Arr wr 22 gl K v) ∧ Hid (Arr wr 22 gg K g) ∧ Bel Zo B gx cx tx W wr ∧ B ≤ wr.heap.size)
              case atStart => exact ⟨0, _, _, _, by simp [Hid], rfl, by omega, HF4.out, HM4.out, HL4.out, HA4.out, bb4, ss4⟩
              case round =>
                clear HF4 HL4 HA4 HM4 bb4 ss4
                obtain ⟨k, g, m, Y, HG, rfl, hkK, HF, HM, HL, HA, bb, ss⟩ := hrel
                by_cases hlt : k < K
                · have t0 : (k : Int) < (K : Int) := by omega
                  have hmk := run_make_pieces
                  have om : (wr.alloc (.cells (madeCells #[.int .u8 0, .int .i64 0, .int .i64 0] 192) 35)).ownsRow B 35 3 (.slice (some ⟨wr.heap.size, 0, none⟩) 64 64) 64 (madeCells #[.int .u8 0, .int .i64 0, .int .i64 0] 192).toList :=
                    World.ownsRow_lit (base := B) (e := 35) (size := 3) wr _ 64 ss (by simp only [maxLen]; omega) (by simp [size_madeCells])
                  go_upto_region 30 with fail
                  clear hmk
                  obtain ⟨gm, hgm⟩ : ∃ gm, gm = wr.heap.size := ⟨_, rfl⟩
                  rw [← hgm] at om ⊢
                  generalize hW5 : wr.alloc (.cells (madeCells #[.int .u8 0, .int .i64 0, .int .i64 0] 192) 35) = w5 at *
                  have f5 : Fr (fun _ => False) wr w5 := by rw [← hW5]; exact (Fr.refl _ wr).alloc _
                  have hnr := HF.out.noRow_new (b := gm) (by omega)
                  have HF5 := Lib.hid (HF.out.fr f5 (fun _ h => h.elim))
                  have HL5 := Lib.hid (HL.out.fr f5 (fun h => h))
                  have HA5 := Lib.hid (HA.out.fr f5 (fun h => h))
                  have ngl : gl ≠ gm := by have := HL.out.lt; omega
                  have ngg : gg ≠ gm := by have := HA.out.lt; omega
                  have hgmB : B ≤ gm := by omega
                  have bb5 : Bel Zo B gx cx tx W w5 := Bel.then bb f5 ss (fun _ h => h.elim) (fun h => h) HF.out.zl (fun _ h => h.elim)
                  have hgmZ : ¬ Zo gm := fun h => by have := HF.out.zl gm h; omega
                  have ngx : gx ≠ gm := by have := blk_lt bb.2.1; omega
                  have ss5 : B ≤ w5.heap.size := Nat.le_trans ss f5.size
                  have HOM := Lib.hid om
                  have HNR := Lib.hid hnr
                  clear hW5 f5 om hnr bb ss HF HL HA hgm
                  go_wp2_with fail
                  obtain ⟨gK, rfl⟩ : ∃ gK : Nat, gK = gk := ⟨_, rfl⟩
                  obtain ⟨wo, rfl⟩ : ∃ wo : World, wo = wr := ⟨_, rfl⟩
                  go_loopg [13] 64 (fun gj v13 wr => ∃ (i : Nat) (Z : List Value), Hid (gj + i = 64) ∧ v13 = .int .i64 (i : Int) ∧ i ≤ 64 ∧ Hid (wr.ownsRow B 35 3 (.slice (some ⟨gm, 0, none⟩) 64 64) 64 Z) ∧ Hid (∀ u ∈ Z, u.oneCell' = true) ∧ Hid (Flat Zo wr 35 3 B K v g n m (fun j => mkRowP j (n j)) Y) ∧ Hid (Arr wr 22 gl K v) ∧ Hid (Arr wr 22 gg K g) ∧ Bel Zo B gx cx tx W wr ∧ B ≤ wr.heap.size)
                  case atStart => exact ⟨0, _, by simp [Hid], rfl, by omega, HOM.out, made_one, HF5.out, HL5.out, HA5.out, bb5, ss5⟩
                  case round =>
                    clear HOM HF5 HL5 HA5 bb5 ss5
                    obtain ⟨i, Z, HJ, rfl, hi64, HOM, HZ, HF, HL, HA, bb, ss⟩ := hrel
                    by_cases hil : i < 64
                    · have z0 : (i : Int) < 64 := by omega
                      have zi : (0 : Int) ≤ (i : Int) := by omega
                      go_wp2_with fail
                      refine (markPiece_any ((k : Int) + (K : Int)) (i : Int) wr (by omega) (by omega) (by omega) (by omega)).mono ?_
                      rintro e wm ⟨rfl, hw⟩
                      have HFM : Hid (Fr (fun _ => False) wr wm) := by simp only [Hid]; rw [hw]; exact (Fr.refl _ wr).alloc _
                      have sm : B ≤ wm.heap.size := Nat.le_trans ss HFM.out.size
                      generalize mk ((k : Int) + (K : Int)) (i : Int) = q
                      have HOW := Lib.hid (HFM.out.own HOM.out (fun _ _ h => h))
                      obtain ⟨⟨u, hu⟩, z1⟩ := own_cells HOW.out (j := i * 3) (by omega)
                      obtain ⟨⟨u', hv⟩, z2⟩ := own_cells HOW.out (j := i * 3 + 1) (by omega)
                      obtain ⟨⟨u'', hx⟩, z3⟩ := own_cells HOW.out (j := i * 3 + 2) (by omega)
                      have fs : Fr (fun b => b = gm) wm (((wm.setCell ⟨gm, i * 3, none⟩ (.int .u8 0)).setCell ⟨gm, i * 3 + 1, none⟩ (.int .i64 q)).setCell ⟨gm, i * 3 + 2, none⟩ (.int .i64 0)) := fr3 (S := fun b => b = gm) rfl _ _ _
                      have HO6 := Lib.hid (((HOW.out.stored (i * 3) (.int .u8 0)).1.stored (i * 3 + 1) (.int .i64 q)).1.stored (i * 3 + 2) (.int .i64 0)).1
                      have HFm := HF.out.fr HFM.out (fun _ h => h.elim)
                      have HF6 := Lib.hid (HFm.fr fs (fun b hb => by rw [hb]; exact HNR.out))
                      have HL6 := Lib.hid ((HL.out.fr HFM.out (fun h => h)).fr fs ngl)
                      have HA6 := Lib.hid ((HA.out.fr HFM.out (fun h => h)).fr fs ngg)
                      have bm := Bel.then bb HFM.out ss (fun _ h => h.elim) (fun h => h) HF.out.zl (fun _ h => h.elim)
                      have bb6 := Bel.then bm fs sm (fun b hb => by rw [hb]; exact hgmB) ngx HFm.zl (fun b hb => by rw [hb]; exact hgmZ)
                      have ss6 := Nat.le_trans sm fs.size
                      have hz6 : ∀ u ∈ ((Z.set (i * 3) (.int .u8 0)).set (i * 3 + 1) (.int .i64 q)).set (i * 3 + 2) (.int .i64 0), u.oneCell' = true := fun u hu =>
                        (List.mem_or_eq_of_mem_set hu).elim (fun hu => (List.mem_or_eq_of_mem_set hu).elim (fun hu => (List.mem_or_eq_of_mem_set hu).elim (HZ.out u) (fun e => by rw [e]; rfl)) (fun e => by rw [e]; rfl)) (fun e => by rw [e]; rfl)
                      have HZ6 := Lib.hid hz6
                      clear fs hz6 hw HFm bm
                      go_wp2
                      go_roundg (gk - 1)
                      case measure => have := HJ.out; omega
                      case rel => exact ⟨i + 1, _, by have := HJ.out; simp only [Hid]; omega, by go_num, by omega, HO6.out, HZ6.out, HF6.out, HL6.out, HA6.out, bb6, ss6⟩
                    · have z0 : ¬ (i : Int) < 64 := by omega
                      have hnk := HN.out k hlt
                      obtain ⟨N, hN⟩ : ∃ N, N = n k := ⟨_, rfl⟩
                      obtain ⟨A, c, hvk⟩ := own_slice (HF.out.ov k hlt)
                      have k1 := HL.out.cell hlt
                      have ov := HF.out.ov k hlt
                      have hst := HF.out.turn (S := fun _ => False) (k := k) (g' := v k) (m' := n k) (X' := mkRowP k (n k)) (Y' := mkRowP k (n k)) hlt (Fr.refl _ wr) (fun _ h => h.elim) ov ov (fun b hb => .inl (.inl hb))
                      have hex := Ext.self ov
                      rw [at_id (fun j => mkRowP j (n j)) k] at hst
                      rw [← hN] at hvk hnk
                      rw [hvk] at k1
                      rw [hvk, ← hN] at ov
                      have HOV := Lib.hid ov
                      have HVK := Lib.hid hvk
                      have HNK := Lib.hid hN
                      have HST := Lib.hid hst
                      have HEX := Lib.hid hex
                      clear ov hst hex hvk hN
                      go_wp2_with (at_builtin; refine wpList_append_ext B rfl _ _ 22 35 (.agg #[.int .u8 0, .int .i64 0, .int .i64 0]) 3 24 rfl Try.underlying22 infoPiece rfl (by decide) (by decide) (.slice A N c) N (mkRowP k N) rfl HOV.out ⟨gm, 0, none⟩ 64 64 Z rfl (by decide) HOM.out.1 (fun j u hu => by rw [add_plain]; exact (HOM.out.cellAt j (by have := (List.getElem?_eq_some_iff.1 hu).1; rw [HOM.out.1] at this; exact this)).trans hu) HZ.out ss (by omega) ?_)
                      intro x' w' ho' hg'
                      obtain ⟨t1, t2, t3⟩ := HST.out.grow (k := k) (c := 64) (x' := x') (Z := []) (news := Z) hlt (by rw [at_same, at_same]; exact HEX.out) (by rw [at_same, List.append_nil]) (by rw [at_same]; exact Nat.le_refl _)
                        (by rw [at_same, at_same, ← HNK.out]; exact ho') (by rw [at_same, at_same, HVK.out, ← HNK.out]; exact hg')
                      rw [at_at, at_at, at_at, at_same, at_same] at t1
                      rw [at_same] at t3
                      have nl : ¬ (v k).ownBlock = some gl := fun e => HF.out.noArr HL.out (by decide) k hlt (.inl e)
                      have ng : ¬ (v k).ownBlock = some gg := fun e => HF.out.noArr HA.out (by decide) k hlt (.inl e)
                      have hL' := HL.out.fr t3 nl
                      have hA' := HA.out.fr t3 ng
                      have bb' := Bel.then bb t3 ss (fun b hb => own_base (HF.out.ov k hlt) b hb) (fun e => HF.out.noRow bb.2.1 h5 k hlt (.inl e)) HF.out.zl (fun b hb => HF.out.zf k b hlt (.inl hb))
                      have ss' := Nat.le_trans ss t3.size
                      obtain ⟨Ax, cx, rfl⟩ := own_slice ho'
                      have y1 := hA'.frozen k
                      have y2 := hA'.cell hlt
                      have fs : Fr (fun b => b = gg) w' (w'.setCell ⟨gg, k, none⟩ (.slice Ax (N + 64) cx)) := (Fr.refl (fun b => b = gg) w').set (p := ⟨gg, k, none⟩) (.inl rfl) _
                      have hnr := t1.noArr hA' (by decide)
                      have HF7 := Lib.hid (t1.fr fs (fun b hb => by rw [hb]; exact hnr))
                      have HL7 := Lib.hid (hL'.fr fs hne)
                      have HA7 := Lib.hid (hA'.set hlt (.slice Ax (N + 64) cx))
                      have bb7 := Bel.then bb' fs ss' (fun b hb => by rw [hb]; exact hggB) (hA'.ne bb'.2.1 h25) t1.zl (fun b hb => by rw [hb]; exact hggZ)
                      have ss7 := Nat.le_trans ss' fs.size
                      clear t1 t2 t3 hL' hA' fs hnr nl ng ho' hg' k1
                      go_wp2
                      go_roundg (gK - 1)
                      case measure => have := HG.out; omega
                      case rel =>
                        refine ⟨k + 1, _, _, _, by have := HG.out; simp only [Hid]; omega, by go_num, by omega, HF7.out, fun j hj => ?_, HL7.out, HA7.out, bb7, ss7⟩
                        by_cases hjk : j = k
                        · subst hjk
                          rw [at_same, at_same]
                          exact ⟨rfl, Z, rfl⟩
                        · rw [at_other _ _ hjk, at_other _ _ hjk]
                          exact HM.out j hj
                · have t0 : ¬ (k : Int) < (K : Int) := by omega
                  have hke : K = k := by omega
                  subst hke
                  clear HG
                  obtain ⟨w8, hw8⟩ : ∃ w8 : World, w8 = wr := ⟨_, rfl⟩
                  rw [← hw8] at HF HL HA bb ss
                  go_wp2_with fail
                  -- what it grew out of stands as it stood
                  go_loopg [14] K (fun gk v14 wr => ∃ (k : Nat), Hid (gk + k = K) ∧ v14 = .int .i64 (k : Int) ∧ k ≤ K ∧ Hid (Below w8.heap.size w8 wr))
                  case atStart => exact ⟨0, by simp [Hid], rfl, by omega, by rw [hw8]; exact Below.refl _ _⟩
                  case round =>
                    clear hw8
                    obtain ⟨k, HG, rfl, hkK2, HW⟩ := hrel
                    by_cases hlt : k < K
                    · have t0 : (k : Int) < (K : Int) := by omega
                      have hnk := HN.out k hlt
                      obtain ⟨hm1, Z, hm2⟩ := HM.out k hlt
                      have ov := HF.out.ov k hlt
                      have og := HF.out.og k hlt
                      rw [hm1, hm2] at og
                      obtain ⟨N, hN⟩ : ∃ N, N = n k := ⟨_, rfl⟩
                      rw [← hN] at ov og hnk hm1 hm2
                      obtain ⟨A, c, hvk⟩ := own_slice ov
                      obtain ⟨gb, cg, hgk, _, _⟩ := og.form (by omega)
                      have k1 := HL.out.cell hlt
                      have k2 := HA.out.cell hlt
                      rw [hvk] at k1 ov
                      rw [hgk] at k2 og
                      have k1' := pw_cell_below HW.out k1
                      have HOV := Lib.hid ov
                      have HOG := Lib.hid og
                      have HK1 := Lib.hid k1
                      have HK2 := Lib.hid k2
                      clear ov og hm1 hm2 hvk hgk hN k1 k2 k1'
                      go_wp2_with fail
                      obtain ⟨gK, rfl⟩ : ∃ gK : Nat, gK = gk := ⟨_, rfl⟩
                      obtain ⟨wo, rfl⟩ : ∃ wo : World, wo = wr := ⟨_, rfl⟩
                      go_loopg [15] N (fun gj v15 wr => ∃ (i : Nat), Hid (gj + i = N) ∧ v15 = .int .i64 (i : Int) ∧ i ≤ N ∧ Hid (Below w8.heap.size w8 wr))
                      case atStart => exact ⟨0, by simp [Hid], rfl, by omega, HW.out⟩
                      case round =>
                        obtain ⟨i, HJ, rfl, hi, HW2⟩ := hrel
                        have k1 := pw_cell_below HW2.out HK1.out
                        have k2 := pw_cell_below HW2.out HK2.out
                        by_cases hiN : i < N
                        · have z2 : (i : Int) < (N : Int) := by omega
                          have z3 : (i : Int) < (N : Int) + 64 := by omega
                          obtain ⟨ga, c', hgf, _, _⟩ := HOV.out.form (by omega)
                          obtain ⟨rfl, rfl⟩ : A = some ⟨ga, 0, none⟩ ∧ c = c' := by injection hgf with h1 h2 h3; exact ⟨h1, h3⟩
                          have b0 : wr.cell? ⟨gb, i * 3, none⟩ = some (.int .u8 0) := pw_cell_below HW2.out ((HOG.out.cellAt (i * 3) (by omega)).trans ((List.getElem?_append_left (by rw [mkRowP_length]; omega)).trans (mkRowP_at (j := 0) hiN (by decide))))
                          have b1 : wr.cell? ⟨gb, i * 3 + 1, none⟩ = some (.int .i64 (mk (k : Int) (i : Int))) := pw_cell_below HW2.out ((HOG.out.cellAt (i * 3 + 1) (by omega)).trans ((List.getElem?_append_left (by rw [mkRowP_length]; omega)).trans (mkRowP_at (j := 1) hiN (by decide))))
                          have b2 : wr.cell? ⟨gb, i * 3 + 2, none⟩ = some (.int .i64 0) := pw_cell_below HW2.out ((HOG.out.cellAt (i * 3 + 2) (by omega)).trans ((List.getElem?_append_left (by rw [mkRowP_length]; omega)).trans (mkRowP_at (j := 2) hiN (by decide))))
                          have a0 : wr.cell? ⟨ga, i * 3, none⟩ = some (.int .u8 0) := pw_cell_below HW2.out ((HOV.out.cellAt (i * 3) (by omega)).trans (mkRowP_at (j := 0) hiN (by decide)))
                          have a1 : wr.cell? ⟨ga, i * 3 + 1, none⟩ = some (.int .i64 (mk (k : Int) (i : Int))) := pw_cell_below HW2.out ((HOV.out.cellAt (i * 3 + 1) (by omega)).trans (mkRowP_at (j := 1) hiN (by decide)))
                          have a2 : wr.cell? ⟨ga, i * 3 + 2, none⟩ = some (.int .i64 0) := pw_cell_below HW2.out ((HOV.out.cellAt (i * 3 + 2) (by omega)).trans (mkRowP_at (j := 2) hiN (by decide)))
                          have zk : (0 : Int) ≤ (k : Int) := by omega
                          have zi : (0 : Int) ≤ (i : Int) := by omega
                          obtain ⟨q, hq⟩ : ∃ q, q = mk (k : Int) (i : Int) := ⟨_, rfl⟩
                          have HMK := Lib.hid (fun w : World => markPiece_any (k : Int) (i : Int) w (by omega) (by omega) (by omega) (by omega))
                          rw [← hq] at b1 a1 HMK
                          have heq := fun w : World => eqPiece_same ⟨0, q, 0⟩ w
                          dsimp only at heq
                          clear hgf hq
                          go_wp2_with fail
                          refine wp_region_gen (S := fun w' => w'.cell? ⟨gl, k, none⟩ = some (.slice (some ⟨ga, 0, none⟩) N c) ∧ w'.cell? ⟨gg, k, none⟩ = some (.slice (some ⟨gb, 0, none⟩) (N + 64) cg) ∧ w'.cell? ⟨gb, i * 3, none⟩ = some (.int .u8 0) ∧ w'.cell? ⟨gb, i * 3 + 1, none⟩ = some (.int .i64 q) ∧ w'.cell? ⟨gb, i * 3 + 2, none⟩ = some (.int .i64 0) ∧ w'.cell? ⟨ga, i * 3, none⟩ = some (.int .u8 0) ∧ w'.cell? ⟨ga, i * 3 + 1, none⟩ = some (.int .i64 q) ∧ w'.cell? ⟨ga, i * 3 + 2, none⟩ = some (.int .i64 0)) (by kernel_rfl) (fun _ _ _ _ _ h => h) ?_
                          intro Q' HQP HQN
                          change wpAnyH _ _ _ _ _ _ _ _ (wr.drewN 1)
                          have hS : (fun w' : World => w'.cell? ⟨gl, k, none⟩ = some (.slice (some ⟨ga, 0, none⟩) N c) ∧ w'.cell? ⟨gg, k, none⟩ = some (.slice (some ⟨gb, 0, none⟩) (N + 64) cg) ∧ w'.cell? ⟨gb, i * 3, none⟩ = some (.int .u8 0) ∧ w'.cell? ⟨gb, i * 3 + 1, none⟩ = some (.int .i64 q) ∧ w'.cell? ⟨gb, i * 3 + 2, none⟩ = some (.int .i64 0) ∧ w'.cell? ⟨ga, i * 3, none⟩ = some (.int .u8 0) ∧ w'.cell? ⟨ga, i * 3 + 1, none⟩ = some (.int .i64 q) ∧ w'.cell? ⟨ga, i * 3 + 2, none⟩ = some (.int .i64 0)) (wr.drewN 1) := ⟨k1, k2, b0, b1, b2, a0, a1, a2⟩
                          refine wpAnyH_take (i := 0) (oi := ⟨some 167, _, _, _, _, none⟩) (v := ?_) rfl (by kernel_rfl) (by kernel_rfl) (by kernel_rfl) (fun c _ w h => HQP.out c _ _ _ w h) (Or.inl ⟨by rfl, ?v0⟩) hS ?_
                          case v0 => (intro w hSw; (try dsimp only at hSw); obtain ⟨s0, s1, s2, s3, s4, s5, s6, s7⟩ := hSw; go_simp; try with_reducible rfl)
                          try simp only [Act.put, List.setIfInBounds_toArray, List.set_cons_zero, List.set_cons_succ]
                          refine wpAnyH_take (i := 1) (oi := ⟨some 168, _, _, _, _, none⟩) (v := ?_) rfl (by kernel_rfl) (by kernel_rfl) (by kernel_rfl) (fun c _ w h => HQP.out c _ _ _ w h) (Or.inl ⟨by rfl, ?v1⟩) hS ?_
                          case v1 => (intro w hSw; (try dsimp only at hSw); obtain ⟨s0, s1, s2, s3, s4, s5, s6, s7⟩ := hSw; go_simp; try with_reducible rfl)
                          try simp only [Act.put, List.setIfInBounds_toArray, List.set_cons_zero, List.set_cons_succ]
                          refine wpAnyH_take (i := 2) (oi := ⟨some 169, _, _, _, _, none⟩) (v := ?_) rfl (by kernel_rfl) (by kernel_rfl) (by kernel_rfl) (fun c _ w h => HQP.out c _ _ _ w h) (Or.inl ⟨by rfl, ?v2⟩) hS ?_
                          case v2 => (intro w hSw; (try dsimp only at hSw); obtain ⟨s0, s1, s2, s3, s4, s5, s6, s7⟩ := hSw; go_simp; try with_reducible rfl)
                          try simp only [Act.put, List.setIfInBounds_toArray, List.set_cons_zero, List.set_cons_succ]
                          refine wpAnyH_take (i := 3) (oi := ⟨some 170, _, _, _, _, none⟩) (v := ?_) rfl (by kernel_rfl) (by kernel_rfl) (by kernel_rfl) (fun c _ w h => HQP.out c _ _ _ w h) (Or.inl ⟨by rfl, ?v3⟩) hS ?_
                          case v3 => (intro w hSw; (try dsimp only at hSw); obtain ⟨s0, s1, s2, s3, s4, s5, s6, s7⟩ := hSw; go_simp; try with_reducible rfl)
                          try simp only [Act.put, List.setIfInBounds_toArray, List.set_cons_zero, List.set_cons_succ]
                          refine wpAnyH_take (i := 4) (oi := ⟨some 171, _, _, _, _, none⟩) (v := ?_) rfl (by kernel_rfl) (by kernel_rfl) (by kernel_rfl) (fun c _ w h => HQP.out c _ _ _ w h) (Or.inl ⟨by rfl, ?v4⟩) hS ?_
                          case v4 => (intro w hSw; (try dsimp only at hSw); obtain ⟨s0, s1, s2, s3, s4, s5, s6, s7⟩ := hSw; go_simp; try with_reducible rfl)
                          try simp only [Act.put, List.setIfInBounds_toArray, List.set_cons_zero, List.set_cons_succ]
                          refine wpAnyH_take (i := 5) (oi := ⟨some 172, _, _, _, _, none⟩) (v := ?_) rfl (by kernel_rfl) (by kernel_rfl) (by kernel_rfl) (fun c _ w h => HQP.out c _ _ _ w h) (Or.inl ⟨by rfl, ?v5⟩) hS ?_
                          case v5 => (intro w hSw; (try dsimp only at hSw); obtain ⟨s0, s1, s2, s3, s4, s5, s6, s7⟩ := hSw; go_simp; try with_reducible rfl)
                          try simp only [Act.put, List.setIfInBounds_toArray, List.set_cons_zero, List.set_cons_succ]
                          refine wpAnyH_take (i := 6) (oi := ⟨some 173, _, _, _, _, none⟩) (v := ?_) rfl (by kernel_rfl) (by kernel_rfl) (by kernel_rfl) (fun c _ w h => HQP.out c _ _ _ w h) (Or.inl ⟨by rfl, ?v6⟩) hS ?_
                          case v6 => (intro w hSw; (try dsimp only at hSw); obtain ⟨s0, s1, s2, s3, s4, s5, s6, s7⟩ := hSw; go_simp; try with_reducible rfl)
                          try simp only [Act.put, List.setIfInBounds_toArray, List.set_cons_zero, List.set_cons_succ]
                          refine wpAnyH_take (i := 7) (oi := ⟨some 174, _, _, _, _, none⟩) (v := ?_) rfl (by kernel_rfl) (by kernel_rfl) (by kernel_rfl) (fun c _ w h => HQP.out c _ _ _ w h) (Or.inl ⟨by rfl, ?v7⟩) hS ?_
                          case v7 => (intro w hSw; (try dsimp only at hSw); obtain ⟨s0, s1, s2, s3, s4, s5, s6, s7⟩ := hSw; go_simp; try with_reducible rfl)
                          try simp only [Act.put, List.setIfInBounds_toArray, List.set_cons_zero, List.set_cons_succ]
                          refine wpAnyH_take (i := 8) (oi := ⟨some 175, _, _, _, _, none⟩) (v := ?_) rfl (by kernel_rfl) (by kernel_rfl) (by kernel_rfl) (fun c _ w h => HQP.out c _ _ _ w h) (Or.inl ⟨by rfl, ?v8⟩) hS ?_
                          case v8 => (intro w hSw; (try dsimp only at hSw); obtain ⟨s0, s1, s2, s3, s4, s5, s6, s7⟩ := hSw; go_simp; try with_reducible rfl)
                          try simp only [Act.put, List.setIfInBounds_toArray, List.set_cons_zero, List.set_cons_succ]
                          refine wpAnyH_ready (rs := [9]) (by kernel_rfl) (by simp) ?_
                          refine AllReadyH.cons (o := ⟨some 176, _, _, _, _, none⟩) rfl (fun KQ hK => ?_) AllReadyH.nil
                          rw [if_pos (by rfl)]
                          go_wp2_with fail
                          refine (HMK.out _).mono ?_
                          rintro e wa ⟨rfl, hw⟩
                          have BB : Below wr.heap.size wr wa := (by rw [hw]; exact (pw_below_drewN (Below.refl _ _) 1).alloc (Nat.le_refl _) _)
                          have k1wa := pw_cell_below BB k1
                          have k2wa := pw_cell_below BB k2
                          have b0wa := pw_cell_below BB b0
                          have b1wa := pw_cell_below BB b1
                          have b2wa := pw_cell_below BB b2
                          have a0wa := pw_cell_below BB a0
                          have a1wa := pw_cell_below BB a1
                          have a2wa := pw_cell_below BB a2
                          have HBwa := Lib.hid BB
                          clear hw BB
                          go_wp2_with fail
                          clear hS
                          have hS : (fun w' : World => w'.cell? ⟨gl, k, none⟩ = some (.slice (some ⟨ga, 0, none⟩) N c) ∧ w'.cell? ⟨gg, k, none⟩ = some (.slice (some ⟨gb, 0, none⟩) (N + 64) cg) ∧ w'.cell? ⟨gb, i * 3, none⟩ = some (.int .u8 0) ∧ w'.cell? ⟨gb, i * 3 + 1, none⟩ = some (.int .i64 q) ∧ w'.cell? ⟨gb, i * 3 + 2, none⟩ = some (.int .i64 0) ∧ w'.cell? ⟨ga, i * 3, none⟩ = some (.int .u8 0) ∧ w'.cell? ⟨ga, i * 3 + 1, none⟩ = some (.int .i64 q) ∧ w'.cell? ⟨ga, i * 3 + 2, none⟩ = some (.int .i64 0)) (wa) := ⟨k1wa, k2wa, b0wa, b1wa, b2wa, a0wa, a1wa, a2wa⟩
                          refine hK.out _ _ hS (fun _ => ?_)
                          try simp only [Act.put, List.setIfInBounds_toArray, List.set_cons_zero, List.set_cons_succ]
                          refine wpAnyH_take (i := 10) (oi := ⟨some 177, _, _, _, _, none⟩) (v := ?_) rfl (by kernel_rfl) (by kernel_rfl) (by kernel_rfl) (fun c _ w h => HQP.out c _ _ _ w h) (Or.inl ⟨by rfl, ?v10⟩) hS ?_
                          case v10 => (intro w hSw; (try dsimp only at hSw); obtain ⟨s0, s1, s2, s3, s4, s5, s6, s7⟩ := hSw; go_simp; try with_reducible rfl)
                          try simp only [Act.put, List.setIfInBounds_toArray, List.set_cons_zero, List.set_cons_succ]
                          refine wpAnyH_take (i := 11) (oi := ⟨some 178, _, _, _, _, none⟩) (v := ?_) rfl (by kernel_rfl) (by kernel_rfl) (by kernel_rfl) (fun c _ w h => HQP.out c _ _ _ w h) (Or.inl ⟨by rfl, ?v11⟩) hS ?_
                          case v11 => (intro w hSw; (try dsimp only at hSw); obtain ⟨s0, s1, s2, s3, s4, s5, s6, s7⟩ := hSw; go_simp; try with_reducible rfl)
                          try simp only [Act.put, List.setIfInBounds_toArray, List.set_cons_zero, List.set_cons_succ]
                          refine wpAnyH_take (i := 12) (oi := ⟨some 179, _, _, _, _, none⟩) (v := ?_) rfl (by kernel_rfl) (by kernel_rfl) (by kernel_rfl) (fun c _ w h => HQP.out c _ _ _ w h) (Or.inl ⟨by rfl, ?v12⟩) hS ?_
                          case v12 => (intro w hSw; (try dsimp only at hSw); obtain ⟨s0, s1, s2, s3, s4, s5, s6, s7⟩ := hSw; go_simp; try with_reducible rfl)
                          try simp only [Act.put, List.setIfInBounds_toArray, List.set_cons_zero, List.set_cons_succ]
                          refine wpAnyH_take (i := 13) (oi := ⟨some 180, _, _, _, _, some (12, false)⟩) (v := ?_) rfl (by kernel_rfl) (by kernel_rfl) (by kernel_rfl) (fun c _ w h => HQP.out c _ _ _ w h) (Or.inl ⟨by rfl, ?v13⟩) hS ?_
                          case v13 => (intro w hSw; (try dsimp only at hSw); obtain ⟨s0, s1, s2, s3, s4, s5, s6, s7⟩ := hSw; go_simp; try with_reducible rfl)
                          try simp only [Act.put, List.setIfInBounds_toArray, List.set_cons_zero, List.set_cons_succ]
                          refine wpAnyH_take (i := 14) (oi := ⟨some 181, _, _, _, _, some (12, false)⟩) (v := ?_) rfl (by kernel_rfl) (by kernel_rfl) (by kernel_rfl) (fun c _ w h => HQP.out c _ _ _ w h) (Or.inl ⟨by rfl, ?v14⟩) hS ?_
                          case v14 => (intro w hSw; (try dsimp only at hSw); obtain ⟨s0, s1, s2, s3, s4, s5, s6, s7⟩ := hSw; go_simp; try with_reducible rfl)
                          try simp only [Act.put, List.setIfInBounds_toArray, List.set_cons_zero, List.set_cons_succ]
                          refine wpAnyH_take (i := 15) (oi := ⟨some 182, _, _, _, _, some (12, false)⟩) (v := ?_) rfl (by kernel_rfl) (by kernel_rfl) (by kernel_rfl) (fun c _ w h => HQP.out c _ _ _ w h) (Or.inl ⟨by rfl, ?v15⟩) hS ?_
                          case v15 => (intro w hSw; (try dsimp only at hSw); obtain ⟨s0, s1, s2, s3, s4, s5, s6, s7⟩ := hSw; go_simp; try with_reducible rfl)
                          try simp only [Act.put, List.setIfInBounds_toArray, List.set_cons_zero, List.set_cons_succ]
                          refine wpAnyH_take (i := 16) (oi := ⟨some 183, _, _, _, _, some (12, false)⟩) (v := ?_) rfl (by kernel_rfl) (by kernel_rfl) (by kernel_rfl) (fun c _ w h => HQP.out c _ _ _ w h) (Or.inl ⟨by rfl, ?v16⟩) hS ?_
                          case v16 => (intro w hSw; (try dsimp only at hSw); obtain ⟨s0, s1, s2, s3, s4, s5, s6, s7⟩ := hSw; go_simp; try with_reducible rfl)
                          try simp only [Act.put, List.setIfInBounds_toArray, List.set_cons_zero, List.set_cons_succ]
                          refine wpAnyH_take (i := 17) (oi := ⟨some 184, _, _, _, _, some (12, false)⟩) (v := ?_) rfl (by kernel_rfl) (by kernel_rfl) (by kernel_rfl) (fun c _ w h => HQP.out c _ _ _ w h) (Or.inl ⟨by rfl, ?v17⟩) hS ?_
                          case v17 => (intro w hSw; (try dsimp only at hSw); obtain ⟨s0, s1, s2, s3, s4, s5, s6, s7⟩ := hSw; go_simp; try with_reducible rfl)
                          try simp only [Act.put, List.setIfInBounds_toArray, List.set_cons_zero, List.set_cons_succ]
                          refine wpAnyH_take (i := 18) (oi := ⟨some 185, _, _, _, _, some (12, false)⟩) (v := ?_) rfl (by kernel_rfl) (by kernel_rfl) (by kernel_rfl) (fun c _ w h => HQP.out c _ _ _ w h) (Or.inl ⟨by rfl, ?v18⟩) hS ?_
                          case v18 => (intro w hSw; (try dsimp only at hSw); obtain ⟨s0, s1, s2, s3, s4, s5, s6, s7⟩ := hSw; go_simp; try with_reducible rfl)
                          try simp only [Act.put, List.setIfInBounds_toArray, List.set_cons_zero, List.set_cons_succ]
                          refine wpAnyH_take (i := 19) (oi := ⟨some 186, _, _, _, _, some (12, false)⟩) (v := ?_) rfl (by kernel_rfl) (by kernel_rfl) (by kernel_rfl) (fun c _ w h => HQP.out c _ _ _ w h) (Or.inl ⟨by rfl, ?v19⟩) hS ?_
                          case v19 => (intro w hSw; (try dsimp only at hSw); obtain ⟨s0, s1, s2, s3, s4, s5, s6, s7⟩ := hSw; go_simp; try with_reducible rfl)
                          try simp only [Act.put, List.setIfInBounds_toArray, List.set_cons_zero, List.set_cons_succ]
                          refine wpAnyH_take (i := 20) (oi := ⟨some 187, _, _, _, _, some (12, false)⟩) (v := ?_) rfl (by kernel_rfl) (by kernel_rfl) (by kernel_rfl) (fun c _ w h => HQP.out c _ _ _ w h) (Or.inl ⟨by rfl, ?v20⟩) hS ?_
                          case v20 => (intro w hSw; (try dsimp only at hSw); obtain ⟨s0, s1, s2, s3, s4, s5, s6, s7⟩ := hSw; go_simp; try with_reducible rfl)
                          try simp only [Act.put, List.setIfInBounds_toArray, List.set_cons_zero, List.set_cons_succ]
                          refine wpAnyH_take (i := 21) (oi := ⟨some 188, _, _, _, _, some (12, false)⟩) (v := ?_) rfl (by kernel_rfl) (by kernel_rfl) (by kernel_rfl) (fun c _ w h => HQP.out c _ _ _ w h) (Or.inl ⟨by rfl, ?v21⟩) hS ?_
                          case v21 => (intro w hSw; (try dsimp only at hSw); obtain ⟨s0, s1, s2, s3, s4, s5, s6, s7⟩ := hSw; go_simp; try with_reducible rfl)
                          try simp only [Act.put, List.setIfInBounds_toArray, List.set_cons_zero, List.set_cons_succ]
                          refine wpAnyH_ready (rs := [22]) (by kernel_rfl) (by simp) ?_
                          refine AllReadyH.cons (o := ⟨some 189, _, _, _, _, some (12, false)⟩) rfl (fun KQ hK => ?_) AllReadyH.nil
                          rw [if_pos (by rfl)]
                          go_wp2_with fail
                          refine (HMK.out _).mono ?_
                          rintro e wb ⟨rfl, hw⟩
                          have BB : Below wr.heap.size wr wb := (by rw [hw]; exact HBwa.out.alloc HBwa.out.size _)
                          have k1wb := pw_cell_below BB k1
                          have k2wb := pw_cell_below BB k2
                          have b0wb := pw_cell_below BB b0
                          have b1wb := pw_cell_below BB b1
                          have b2wb := pw_cell_below BB b2
                          have a0wb := pw_cell_below BB a0
                          have a1wb := pw_cell_below BB a1
                          have a2wb := pw_cell_below BB a2
                          have HBwb := Lib.hid BB
                          clear hw BB
                          go_wp2_with fail
                          clear hS
                          have hS : (fun w' : World => w'.cell? ⟨gl, k, none⟩ = some (.slice (some ⟨ga, 0, none⟩) N c) ∧ w'.cell? ⟨gg, k, none⟩ = some (.slice (some ⟨gb, 0, none⟩) (N + 64) cg) ∧ w'.cell? ⟨gb, i * 3, none⟩ = some (.int .u8 0) ∧ w'.cell? ⟨gb, i * 3 + 1, none⟩ = some (.int .i64 q) ∧ w'.cell? ⟨gb, i * 3 + 2, none⟩ = some (.int .i64 0) ∧ w'.cell? ⟨ga, i * 3, none⟩ = some (.int .u8 0) ∧ w'.cell? ⟨ga, i * 3 + 1, none⟩ = some (.int .i64 q) ∧ w'.cell? ⟨ga, i * 3 + 2, none⟩ = some (.int .i64 0)) (wb) := ⟨k1wb, k2wb, b0wb, b1wb, b2wb, a0wb, a1wb, a2wb⟩
                          refine hK.out _ _ hS (fun _ => ?_)
                          try simp only [Act.put, List.setIfInBounds_toArray, List.set_cons_zero, List.set_cons_succ]
                          refine wpAnyH_take (i := 23) (oi := ⟨some 190, _, _, _, _, some (12, false)⟩) (v := ?_) rfl (by kernel_rfl) (by kernel_rfl) (by kernel_rfl) (fun c _ w h => HQP.out c _ _ _ w h) (Or.inl ⟨by rfl, ?v23⟩) hS ?_
                          case v23 => (intro w hSw; (try dsimp only at hSw); obtain ⟨s0, s1, s2, s3, s4, s5, s6, s7⟩ := hSw; go_simp; try with_reducible rfl)
                          try simp only [Act.put, List.setIfInBounds_toArray, List.set_cons_zero, List.set_cons_succ]
                          refine wpAnyH_take (i := 24) (oi := ⟨some 191, _, _, _, _, some (12, false)⟩) (v := ?_) rfl (by kernel_rfl) (by kernel_rfl) (by kernel_rfl) (fun c _ w h => HQP.out c _ _ _ w h) (Or.inl ⟨by rfl, ?v24⟩) hS ?_
                          case v24 => (intro w hSw; (try dsimp only at hSw); obtain ⟨s0, s1, s2, s3, s4, s5, s6, s7⟩ := hSw; go_simp; try with_reducible rfl)
                          try simp only [Act.put, List.setIfInBounds_toArray, List.set_cons_zero, List.set_cons_succ]
                          refine wpAnyH_take (i := 25) (oi := ⟨some 192, _, _, _, _, none⟩) (v := ?_) rfl (by kernel_rfl) (by kernel_rfl) (by kernel_rfl) (fun c _ w h => HQP.out c _ _ _ w h) (Or.inl ⟨by rfl, ?v25⟩) hS ?_
                          case v25 => (intro w hSw; (try dsimp only at hSw); obtain ⟨s0, s1, s2, s3, s4, s5, s6, s7⟩ := hSw; go_simp; try with_reducible rfl)
                          try simp only [Act.put, List.setIfInBounds_toArray, List.set_cons_zero, List.set_cons_succ]
                          refine wpAnyH_done (by kernel_rfl) ?_ _
                          refine HQN.out _ _ ?_
                          clear HQP HQN hS
                          go_wp2_with fail
                          go_roundg (gk - 1)
                          case measure => have := HJ.out; omega
                          case rel => exact ⟨i + 1, by have := HJ.out; simp only [Hid]; omega, by go_num, by omega, HW2.out.trans (HBwb.out.mono HW2.out.size)⟩
                        · have z0 : ¬ (i : Int) < (N : Int) := by omega
                          go_wp2
                          go_roundg (gK - 1)
                          case measure => have := HG.out; omega
                          case rel => exact ⟨k + 1, by have := HG.out; simp only [Hid]; omega, by go_num, by omega, HW2.out⟩
                    · have t0 : ¬ (k : Int) < (K : Int) := by omega
                      go_wp2
                      go_ret
                      exact ⟨rfl, Bel.then bb (Fr.of_below HW.out (fun _ => False)) ss (fun _ h => h.elim) (fun h => h) HF.out.zl (fun _ h => h.elim)⟩

end Go.Proofs.Ytpjjiighojkagaa
