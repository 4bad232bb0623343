/- flatBytes: the walk. -/
import Derived.Test.YtlagkfiafelnnaaDoorFlat
import Derived.Test.YtlagkfiafelnnaaDoorLentB
import Derived.Deep.DeepCutAuto
import Derived.StillTailTactics
set_option linter.unusedVariables false
set_option linter.unusedSimpArgs false
namespace Go.Proofs.YtlagkfiafelnnaaDoor
open Go.RowKit Go.Proofs.YtlagkfiafelnnaaDoorW.PrintWords

def cb (k i : Nat) : Value := .int .u8 (mb (k : Int) (i : Int))
def mkRow (k n : Nat) : List Value := (List.range n).map (cb k)
theorem mkRow_length (k n : Nat) : (mkRow k n).length = n := by simp [mkRow]
theorem mkRow_at {k n i : Nat} (h : i < n) : (mkRow k n)[i]? = some (cb k i) := by simp [mkRow, h]
theorem mkRow_succ (k n : Nat) : mkRow k (n + 1) = mkRow k n ++ [cb k n] := by simp [mkRow, List.range_succ]
theorem mkRow_add (k a b : Nat) : mkRow k (a + b) = mkRow k a ++ (List.range b).map (fun j => cb k (a + j)) := by simp [mkRow, List.range_add]
theorem mkRow_of {k n : Nat} {X : List Value} (hl : X.length = n) (h : ∀ i, i < n → X[i]? = some (cb k i)) : X = mkRow k n := by
  apply List.ext_getElem?
  intro i
  rcases Nat.lt_or_ge i n with hi | hi
  · rw [h i hi, mkRow_at hi]
  · rw [List.getElem?_eq_none (by omega), List.getElem?_eq_none (by rw [mkRow_length]; exact hi)]

def nilS : Value := .slice none 0 0
abbrev FlatV (Zo : Nat → Prop) (w : World) (B K : Nat) (v : Nat → Value) (n : Nat → Nat) (X : Nat → List Value) : Prop := Flat Zo w 5 1 B K v (fun _ => nilS) n (fun _ => 0) X (fun _ => [])

/-- Phase 1: one store. -/
theorem FlatV.store {Zo : Nat → Prop} {w : World} {B K : Nat} {v : Nat → Value} {n : Nat → Nat} {X : Nat → List Value} (h : FlatV Zo w B K v n X) {k g c i : Nat} (hk : k < K) (hv : v k = .slice (some ⟨g, 0, none⟩) (n k) c) (u : Value) :
    FlatV Zo (w.setCell ⟨g, i, none⟩ u) B K v n (at_ X k ((X k).set i u)) := by
  have h0 := h.ov k hk
  rw [hv] at h0
  obtain ⟨o1, g1⟩ := h0.stored i u
  have hb : (v k).ownBlock = some g := by rw [hv]; rfl
  have t := h.turn (S := fun b => b = g) (k := k) (g' := nilS) (m' := 0) (X' := (X k).set i u) (Y' := []) hk ((Fr.refl (fun b => b = g) w).set (p := ⟨g, i, none⟩) (.inl rfl) u) (fun b hb' => .inl (.inl (by rw [hb', hb]))) (by rw [hv]; exact o1) (World.ownsRow_nil _ _ _ _) (fun b hb' => by simp [nilS, Value.ownBlock] at hb')
  have e1 : at_ (fun _ : Nat => nilS) k nilS = fun _ => nilS := by funext j; simp [at_]
  have e2 : at_ (fun _ : Nat => (0 : Nat)) k 0 = fun _ => 0 := by funext j; simp [at_]
  have e3 : at_ (fun _ : Nat => ([] : List Value)) k [] = fun _ => [] := by funext j; simp [at_]
  rw [e1, e2, e3] at t
  exact t

/-- What lay below B is as it was, and one block more. -/
def Bel (Zo : Nat → Prop) (B gx : Nat) (cx : Array Value) (tx : TypeId) (W w : World) : Prop := Below B W w ∧ w.heap[gx]? = some (.cells cx tx (0, 0)) ∧ ∀ k, Zo k → w.heap[k]? = W.heap[k]?
theorem Bel.then {Zo : Nat → Prop} {B gx : Nat} {cx : Array Value} {tx : TypeId} {W w w' : World} {S : Nat → Prop} (h : Bel Zo B gx cx tx W w) (f : Fr S w w') (ss : B ≤ w.heap.size) (hS : ∀ b, S b → B ≤ b) (hn : ¬ S gx) (hl : ∀ b, Zo b → b < w.heap.size) (hz : ∀ b, S b → ¬ Zo b) : Bel Zo B gx cx tx W w' :=
  ⟨Fr.then_below h.1 f ss hS, f.heap h.2.1 hn, fun k hk => (f.block k (hl k hk) (fun hs => hz k hs hk)).trans (h.2.2 k hk)⟩
/-- What lay below B is as it was, and so are the old blocks of Zo. -/
structure KeptZ (Zo : Nat → Prop) (B : Nat) (W w : World) : Prop where
  bel : Below B W w
  old : ∀ k, Zo k → k < W.heap.size
  z : ∀ k, Zo k → w.heap[k]? = W.heap[k]?
theorem KeptZ.below {Zo : Nat → Prop} {B : Nat} {W w w' : World} (h : KeptZ Zo B W w) (hb : Below w.heap.size w w') (s : B ≤ w.heap.size) : KeptZ Zo B W w' :=
  ⟨h.bel.trans (hb.mono s), h.old, fun k hk => (hb.block k (Nat.lt_of_lt_of_le (h.old k hk) h.bel.size)).trans (h.z k hk)⟩
theorem KeptZ.bel' {Zo : Nat → Prop} {B gx : Nat} {cx : Array Value} {tx : TypeId} {W w w' : World} (h : KeptZ Zo B W w) (b : Bel Zo B gx cx tx w w') : KeptZ Zo B W w' :=
  ⟨h.bel.trans b.1, h.old, fun k hk => (b.2.2 k hk).trans (h.z k hk)⟩
theorem KeptZ.fr {Zo : Nat → Prop} {B : Nat} {W w w' : World} {S : Nat → Prop} (h : KeptZ Zo B W w) (f : Fr S w w') (ss : B ≤ w.heap.size) (hS : ∀ b, S b → B ≤ b) (hz : ∀ b, S b → ¬ Zo b) : KeptZ Zo B W w' :=
  ⟨Fr.then_below h.bel f ss hS, h.old, fun k hk => (f.block k (Nat.lt_of_lt_of_le (h.old k hk) h.bel.size) (fun hs => hz k hs hk)).trans (h.z k hk)⟩
theorem Arr.ne {w : World} {t tx : TypeId} {b K gx : Nat} {f : Nat → Value} {cx : Array Value} (h : Arr w t b K f) (hx : w.heap[gx]? = some (.cells cx tx (0, 0))) (hne : t ≠ tx) : ¬ gx = b := by
  obtain ⟨cs, h1, _⟩ := h
  intro e
  rw [e, h1] at hx
  simp at hx
  exact hne hx.2

theorem infoRow : (Tryd.prog.info? 30).map (fun i => (i.zero, i.size, i.bytes)) = some (some (.slice none 0 0), 1, 24) := by kernel_rfl

set_option maxHeartbeats 4000000 in
set_option maxRecDepth 100000 in
theorem flatBytes_any (Zo : Nat → Prop) (B K gl cl : Nat) (cs : Array Value) (v : Nat → Value) (n : Nat → Nat) (X : Nat → List Value) (W : World) (hgl : W.heap[gl]? = some (.cells cs 30 (0, 0))) (hcs : ∀ k, k < K → cs[k]? = some (v k))
    (h : FlatV Zo W B K v n X) (hK : K ≤ 1000) (hn : ∀ k, k < K → n k ≤ 1000000000) (hB : B ≤ W.heap.size) (gx : Nat) (cx : Array Value) (tx : TypeId) (hx : W.heap[gx]? = some (.cells cx tx (0, 0))) (h5 : 5 ≠ tx) (h25 : 30 ≠ tx) :
    Calls Tryd.prog 66 #[.slice (some ⟨gl, 0, none⟩) K cl] W fun e W' => e = .returned (.bool true) ∧ Bel Zo B gx cx tx W W' := by
  have HCS := Lib.hid hcs
  have HN := Lib.hid hn
  have HGL := Lib.hid hgl
  have HF := Lib.hid h
  clear hcs hn hgl h
  go_enter Tryd.func66, Tryd.ntmps66
  go_wp2_with fail
  -- each place is marked
  go_loopg [3] K (fun gk v3 wr => ∃ (k : Nat) (X' : Nat → List Value), Hid (gk + k = K) ∧ v3 = .int .i64 (k : Int) ∧ k ≤ K ∧ Hid (FlatV Zo wr B K v n X') ∧ Hid (∀ j, j < k → X' j = mkRow j (n j)) ∧ Hid (wr.heap[gl]? = some (.cells cs 30 (0, 0))) ∧ Bel Zo B gx cx tx W wr ∧ B ≤ wr.heap.size)
  case atStart => exact ⟨0, X, by simp [Hid], rfl, by omega, HF.out, fun j h => absurd h (by omega), HGL.out, ⟨Below.refl _ _, hx, fun _ _ => rfl⟩, hB⟩
  case round =>
    clear HF HGL hB
    obtain ⟨k, X', HG, rfl, hkK, HF, HM, HGL, bb, ss⟩ := hrel
    by_cases hlt : k < K
    · have t0 : (k : Int) < (K : Int) := by omega
      have hnk := HN.out k hlt
      obtain ⟨N, hN⟩ : ∃ N, N = n k := ⟨_, rfl⟩
      obtain ⟨A, c, hvk⟩ := own_slice (HF.out.ov k hlt)
      rw [← hN] at hnk hvk
      have HNK := Lib.hid hN
      have HVK := Lib.hid hvk
      clear hN hvk
      go_wp2_with fail
      obtain ⟨gK, rfl⟩ : ∃ gK : Nat, gK = gk := ⟨_, rfl⟩
      obtain ⟨wo, rfl⟩ : ∃ wo : World, wo = wr := ⟨_, rfl⟩
      go_loopg [4] N (fun gj v4 wr => ∃ (i : Nat) (X2 : Nat → List Value), Hid (gj + i = N) ∧ v4 = .int .i64 (i : Int) ∧ i ≤ N ∧ Hid (FlatV Zo wr B K v n X2) ∧ Hid (∀ j, j < k → X2 j = mkRow j (n j)) ∧ Hid (∀ j, j < i → (X2 k)[j]? = some (cb k j)) ∧ Hid (wr.heap[gl]? = some (.cells cs 30 (0, 0))) ∧ Bel Zo B gx cx tx W wr ∧ B ≤ wr.heap.size)
      case atStart => exact ⟨0, X', by simp [Hid], rfl, by omega, HF.out, HM.out, fun j h => absurd h (by omega), HGL.out, bb, ss⟩
      case round =>
        clear HF HM HGL bb ss
        obtain ⟨i, X2, HJ, rfl, hiN, HF, HM, HI, HGL, bb, ss⟩ := hrel
        have k1 : wr.cell? ⟨gl, k, none⟩ = some (.slice A N c) := by rw [blk_cell HGL.out k, HCS.out k hlt, HVK.out]
        by_cases hil : i < N
        · have z0 : (i : Int) < (N : Int) := by omega
          obtain ⟨g, c', hgf, _, _⟩ := (HF.out.ov k hlt).form (by rw [← HNK.out]; omega)
          rw [HVK.out] at hgf
          obtain ⟨rfl, rfl⟩ : A = some ⟨g, 0, none⟩ ∧ c = c' := by injection hgf with h1 h2 h3; exact ⟨h1, h3⟩
          clear hgf
          have ho := HF.out.ov k hlt
          rw [HVK.out, ← HNK.out] at ho
          have z1 := ho.frozenAt i
          obtain ⟨u, hu⟩ : ∃ u, wr.cell? ⟨g, i, none⟩ = some u := by
            rw [ho.cellAt i (by omega)]
            exact ⟨_, List.getElem?_eq_getElem (by rw [ho.1]; omega)⟩
          have hM := fun q : Nat => (markByte_any (k : Int) (i : Int) (wr.drewN q) (by omega) (by omega) (by omega) (by omega)).mono (fun _ _ h => (⟨h.1, h.2.symm⟩ : _ ∧ _))
          have HMB := Lib.hid hM
          clear hM ho
          go_upto_region 7 with fail
          go_still_tail 9, (by kernel_rfl)
          still_call (HMB.out 1)
          repeat still_step
          refine wpStill_nil ?_
          change wpList _ _ _ _ _ (wr.drewN 1)
          have HFD : Hid (FlatV Zo (wr.drewN 1) B K v n X2) := ⟨HF.out.ov, HF.out.og, HF.out.ap, HF.out.zf, HF.out.zl⟩
          have HGD : Hid ((wr.drewN 1).heap[gl]? = some (.cells cs 30 (0, 0))) := HGL.out
          have bd : Bel Zo B gx cx tx W (wr.drewN 1) := ⟨pw_below_drewN bb.1 1, bb.2⟩
          have sd : B ≤ (wr.drewN 1).heap.size := ss
          have z1 : (wr.drewN 1).frozen? ⟨g, i, none⟩ = false := z1
          have hu : (wr.drewN 1).cell? ⟨g, i, none⟩ = some u := hu
          generalize wr.drewN 1 = wd at *
          have hgB : B ≤ g := HFD.out.ge hlt (.inl (by rw [HVK.out]; rfl))
          have hngl : gl ≠ g := fun e => HFD.out.noRow HGD.out (by decide) k hlt (.inl (by rw [HVK.out, e]; rfl))
          go_wp2
          go_roundg (gk - 1)
          case measure => have := HJ.out; omega
          case rel =>
            refine ⟨i + 1, at_ X2 k ((X2 k).set i (cb k i)), by have := HJ.out; simp only [Hid]; omega, by go_num, by omega, HFD.out.store (c := c) hlt (by rw [HVK.out, HNK.out]) (cb k i), fun j hj => ?_, fun j hj => ?_, blk_far HGD.out hngl _, ⟨bd.1.setCell hgB _, blk_far bd.2.1 (fun e => HFD.out.noRow bd.2.1 h5 k hlt (.inl (by rw [HVK.out, e]; rfl))) _, fun q hq => (Below.heap_setCell _ _ _ q (fun e => HFD.out.zf k q hlt (.inl (by rw [HVK.out, e]; rfl)) hq)).trans (bd.2.2 q hq)⟩, by simpa using sd⟩
            · rw [at_other _ _ (by omega)]; exact HM.out j hj
            · rw [at_same]
              by_cases hji : j = i
              · subst hji
                rw [List.getElem?_set_self (by rw [(HFD.out.ov k hlt).1, ← HNK.out]; omega)]
              · rw [List.getElem?_set_ne (fun e => hji e.symm)]; exact HI.out j (by omega)
        · have z0 : ¬ (i : Int) < (N : Int) := by omega
          have hiN' : i = N := by omega
          have hX : X2 k = mkRow k (n k) := mkRow_of (by have := (HF.out.ov k hlt).1; omega) (fun j hj => HI.out j (by rw [hiN', HNK.out]; exact hj))
          have HX := Lib.hid hX
          clear hX hiN'
          go_wp2
          go_roundg (gK - 1)
          case measure => have := HG.out; omega
          case rel =>
            refine ⟨k + 1, X2, by have := HG.out; simp only [Hid]; omega, by go_num, by omega, HF.out, fun j hj => ?_, HGL.out, bb, ss⟩
            by_cases hjk : j = k
            · rw [hjk]; exact HX.out
            · exact HM.out j (by omega)
    · have hkK' : K = k := by omega
      subst hkK'
      have t0 : ¬ (K : Int) < (K : Int) := by omega
      have hF2 := HF.out.congr (X2 := fun j => mkRow j (n j)) (fun j hj => HM.out j (by omega))
      have HF2 := Lib.hid hF2
      have HA : Hid (Arr wr 30 gl K v) := ⟨cs, HGL.out, HCS.out⟩
      clear hF2 HF HM HGL HG
      have hmk := run_make_row' (P := Tryd.prog) 38 30 (.slice none 0 0) 24 Tryd.underlying38 infoRow rfl .i64 .i64 K (by omega) (by omega)
      go_upto_region 9 with fail
      clear hmk t0
      obtain ⟨gg, hgg⟩ : ∃ gg, gg = wr.heap.size := ⟨_, rfl⟩
      rw [← hgg]
      generalize hW2 : wr.alloc _ = w2
      have f2 : Fr (fun _ => False) wr w2 := by rw [← hW2]; exact (Fr.refl _ wr).alloc _
      have A2 : Arr w2 30 gg K (fun _ => nilS) := by
        refine ⟨_, by rw [← hW2, hgg]; exact heap_alloc_new wr _, fun j hj => ?_⟩
        rw [← Array.getElem?_toList, toList_madeCells_one, List.getElem?_replicate, if_pos hj]
        rfl
      have HA2 := Lib.hid A2
      have HL2 := Lib.hid (HA.out.fr f2 (fun h => h))
      have HF3 := Lib.hid (HF2.out.fr f2 (fun _ h => h.elim))
      have hne : gl ≠ gg := by have := HA.out.lt; omega
      have hggB : B ≤ gg := by omega
      have bb2 : Bel Zo B gx cx tx W w2 := Bel.then bb f2 ss (fun _ h => h.elim) (fun h => h) HF2.out.zl (fun _ h => h.elim)
      have hggZ : ¬ Zo gg := fun h => by have := HF2.out.zl gg h; omega
      have ss2 : B ≤ w2.heap.size := Nat.le_trans ss f2.size
      clear f2 hW2 A2 HF2 HA bb ss hgg
      go_wp2_with fail
      -- each grows by 64
      go_loopg [6] K (fun gk v6 wr => ∃ (k : Nat) (g : Nat → Value) (m : Nat → Nat) (Y : Nat → List Value), Hid (gk + k = K) ∧ v6 = .int .i64 (k : Int) ∧ k ≤ K ∧ Hid (Flat Zo wr 5 1 B K v g n m (fun j => mkRow j (n j)) Y) ∧ Hid (∀ j, j < k → m j = n j + 64 ∧ Y j = mkRow j (n j + 64)) ∧ Hid (Arr wr 30 gl K v) ∧ Hid (Arr wr 30 gg K g) ∧ Bel Zo B gx cx tx W wr ∧ B ≤ wr.heap.size)
      case atStart => exact ⟨0, _, _, _, by simp [Hid], rfl, by omega, HF3.out, fun j h => absurd h (by omega), HL2.out, HA2.out, bb2, ss2⟩
      case round =>
        clear HF3 HL2 HA2 bb2 ss2
        obtain ⟨k, g, m, Y, HG, rfl, hkK, HF, HM, HL, HA, bb, ss⟩ := hrel
        by_cases hlt : k < K
        · have t0 : (k : Int) < (K : Int) := by omega
          have hnk := HN.out k hlt
          obtain ⟨N, hN⟩ : ∃ N, N = n k := ⟨_, rfl⟩
          obtain ⟨A, c, hvk⟩ := own_slice (HF.out.ov k hlt)
          have k1 := HL.out.cell hlt
          rw [← hN] at hnk hvk
          rw [hvk] at k1
          have HNK := Lib.hid hN
          have HVK := Lib.hid hvk
          have hst := HF.out.turn (S := fun _ => False) (k := k) (g' := v k) (m' := n k) (X' := mkRow k (n k)) (Y' := mkRow k (n k)) hlt (Fr.refl _ wr) (fun _ h => h.elim) (HF.out.ov k hlt) (HF.out.ov k hlt) (fun b hb => .inl (.inl hb))
          have hex := Ext.self (HF.out.ov k hlt)
          rw [at_id (fun j => mkRow j (n j)) k, ← hN, hvk] at hst
          rw [← hN, hvk] at hex
          have HST := Lib.hid hst
          have HEX := Lib.hid hex
          clear hN hvk hst hex
          go_wp2_with fail
          obtain ⟨gK, rfl⟩ : ∃ gK : Nat, gK = gk := ⟨_, rfl⟩
          obtain ⟨wo, rfl⟩ : ∃ wo : World, wo = wr := ⟨_, rfl⟩
          go_loopg [7, 8] 64 (fun gj v7 v8 wr => ∃ i : Nat, Hid (gj + i = 64) ∧ v8 = .int .i64 (i : Int) ∧ i ≤ 64 ∧ Hid (Flat Zo wr 5 1 B K v (at_ g k v7) n (at_ m k (N + i)) (fun j => mkRow j (n j)) (at_ Y k (mkRow k (N + i)))) ∧ Hid (Ext (.slice A N c) N v7 (N + i)) ∧ Hid (Arr wr 30 gl K v) ∧ Hid (Arr wr 30 gg K g) ∧ Bel Zo B gx cx tx W wr ∧ B ≤ wr.heap.size)
          case atStart => exact ⟨0, by simp [Hid], rfl, by omega, HST.out, HEX.out, HL.out, HA.out, bb, ss⟩
          case round =>
            clear HST HEX HL HA bb ss k1
            obtain ⟨i, HJ, rfl, hi64, HF2, HE, HL, HA, bb, ss⟩ := hrel
            have k1 := HL.out.cell hlt
            rw [HVK.out] at k1
            by_cases hil : i < 64
            · have z0 : (i : Int) < 64 := by omega
              go_wp2_with fail
              refine (markByte_any (k : Int) ((N : Int) + (i : Int)) wr (by omega) (by omega) (by omega) (by omega)).mono ?_
              rintro e w' ⟨rfl, hw⟩
              subst hw
              obtain ⟨q, hq⟩ : ∃ q, q = mb (k : Int) ((N : Int) + (i : Int)) := ⟨_, rfl⟩
              have hcb : cb k (N + i) = .int .u8 q := by rw [hq]; unfold cb; congr 2
              rw [← hq]
              have HCB := Lib.hid hcb
              clear hcb hq
              have ox := HF2.out.og k hlt
              rw [at_same, at_same, at_same] at ox
              have HOX := Lib.hid ox
              clear ox
              go_wp2_with (at_builtin; refine wpList_append_ext B rfl _ _ 30 5 (.int .u8 0) 1 1 rfl Tryd.underlying30 Tryd.infoB rfl (by decide) (by decide) u7 (N + i) (mkRow k (N + i)) rfl (HOX.out.alloc _) ⟨wr.heap.size, 0, none⟩ 1 1 [.int .u8 q] rfl (by decide) rfl (cell_one_new _ _ _) (by simp [Value.oneCell']) (by simp; omega) (by omega) ?_)
              intro x' w' ho' hg'
              have fa : Fr (fun _ => False) wr (wr.alloc (.cells #[.int .u8 q] 5)) := (Fr.refl _ wr).alloc _
              have FA := HF2.out.fr fa (fun _ h => h.elim)
              have hAL := HL.out.fr fa (fun h => h)
              have hAA := HA.out.fr fa (fun h => h)
              have ba := Bel.then bb fa ss (fun _ h => h.elim) (fun h => h) HF2.out.zl (fun _ h => h.elim)
              have sa : B ≤ (wr.alloc (.cells #[.int .u8 q] 5)).heap.size := Nat.le_trans ss fa.size
              obtain ⟨t1, t2, t3⟩ := FA.grow (k := k) (c := 1) (x' := x') (Z := (List.range i).map (fun j => cb k (N + j))) (news := [.int .u8 q]) hlt (by rw [at_same, at_same, HVK.out, ← HNK.out]; exact HE.out)
                (by rw [at_same, ← HNK.out]; simp [mkRow, List.range_add]) (by rw [at_same, ← HNK.out]; omega) (by rw [at_same, at_same]; exact ho') (by rw [at_same, at_same]; exact hg')
              rw [at_at, at_at, at_at, at_same, at_same, ← HCB.out, ← mkRow_succ, Nat.add_assoc] at t1
              rw [at_same, HVK.out, ← HNK.out, Nat.add_assoc] at t2
              rw [at_same] at t3
              have nl : ¬ (u7).ownBlock = some gl := fun e => FA.noArr hAL (by decide) k hlt (.inr (by rw [at_same]; exact e))
              have ng : ¬ (u7).ownBlock = some gg := fun e => FA.noArr hAA (by decide) k hlt (.inr (by rw [at_same]; exact e))
              have hAL' := hAL.fr t3 nl
              have hAA' := hAA.fr t3 ng
              have bb' := Bel.then ba t3 sa (fun b hb => own_base HOX.out b hb) (fun e => FA.noRow ba.2.1 h5 k hlt (.inr (by rw [at_same]; exact e))) FA.zl (fun b hb => FA.zf k b hlt (.inr (by rw [at_same]; exact hb)))
              have ss' := Nat.le_trans sa t3.size
              have HT1 := Lib.hid t1
              have HT2 := Lib.hid t2
              have HAL' := Lib.hid hAL'
              have HAA' := Lib.hid hAA'
              clear t1 t2 t3 hAL' hAA' nl ng hAL hAA FA fa ba sa ho' hg' k1
              go_wp2
              go_roundg (gk - 1)
              case measure => have := HJ.out; omega
              case rel => exact ⟨i + 1, by have := HJ.out; simp only [Hid]; omega, by go_num, by omega, HT1.out, HT2.out, HAL'.out, HAA'.out, bb', ss'⟩
            · have hi : i = 64 := by omega
              have z0 : ¬ (i : Int) < 64 := by omega
              subst hi
              have ox := HF2.out.og k hlt
              rw [at_same, at_same, at_same] at ox
              obtain ⟨Ax, cx, hx7⟩ := own_slice ox
              clear ox
              subst hx7
              have z1 := HA.out.frozen k
              have k2 := HA.out.cell hlt
              have hs := HA.out.set hlt (.slice Ax (N + 64) cx)
              have fs : Fr (fun b => b = gg) wr (wr.setCell ⟨gg, k, none⟩ (.slice Ax (N + 64) cx)) := (Fr.refl (fun b => b = gg) wr).set (p := ⟨gg, k, none⟩) (.inl rfl) _
              have hnr := HF2.out.noArr HA.out (by decide)
              have hfl := HF2.out.fr fs (fun b hb => by rw [hb]; exact hnr)
              have hll := HL.out.fr fs hne
              have bb' := Bel.then bb fs ss (fun b hb => by rw [hb]; exact hggB) (HA.out.ne bb.2.1 h25) HF2.out.zl (fun b hb => by rw [hb]; exact hggZ)
              have ss' := Nat.le_trans ss fs.size
              have HS := Lib.hid hs
              have HFL := Lib.hid hfl
              have HLL := Lib.hid hll
              clear hs hfl hll fs hnr k1
              go_wp2
              go_roundg (gK - 1)
              case measure => have := HG.out; omega
              case rel =>
                refine ⟨k + 1, at_ g k (.slice Ax (N + 64) cx), at_ m k (N + 64), at_ Y k (mkRow k (N + 64)), by have := HG.out; simp only [Hid]; omega, by go_num, by omega, HFL.out, fun j hj => ?_, HLL.out, HS.out, bb', ss'⟩
                by_cases hjk : j = k
                · subst hjk
                  rw [at_same, at_same, HNK.out]
                  exact ⟨rfl, rfl⟩
                · rw [at_other _ _ hjk, at_other _ _ hjk]
                  exact HM.out j (by omega)
        · have t0 : ¬ (k : Int) < (K : Int) := by omega
          have hke : K = k := by omega
          subst hke
          clear HG
          obtain ⟨w3, hw3⟩ : ∃ w3 : World, w3 = wr := ⟨_, rfl⟩
          rw [← hw3] at HF HL HA bb ss
          go_wp2_with fail
          -- all is as it was marked
          go_loopg [9] K (fun gk v9 wr => ∃ (k d : Nat), Hid (gk + k = K) ∧ v9 = .int .i64 (k : Int) ∧ k ≤ K ∧ Hid (wr = w3.drewN d))
          case atStart => exact ⟨0, 0, by simp [Hid], rfl, by omega, by rw [hw3]; rfl⟩
          case round =>
            clear hw3
            obtain ⟨k, d, HG, rfl, hkK2, HW⟩ := hrel
            by_cases hlt : k < K
            · have t0 : (k : Int) < (K : Int) := by omega
              have hnk := HN.out k hlt
              obtain ⟨hm1, hm2⟩ := HM.out k hlt
              have ov := HF.out.ov k hlt
              have og := HF.out.og k hlt
              rw [hm1, hm2] at og
              obtain ⟨N, hN⟩ : ∃ N, N = n k := ⟨_, rfl⟩
              rw [← hN] at ov og hnk hm1 hm2
              obtain ⟨A, c, hvk⟩ := own_slice ov
              obtain ⟨gb, cg, hgk, _, _⟩ := og.form (by omega)
              have k1 := HL.out.cell hlt
              have k2 := HA.out.cell hlt
              rw [hvk] at k1 ov
              rw [hgk] at k2 og
              have k1' := cell_dr HW k1
              have k2' := cell_dr HW k2
              have HOV := Lib.hid ov
              have HOG := Lib.hid og
              have HK1 := Lib.hid k1
              have HK2 := Lib.hid k2
              clear ov og hm1 hm2 hvk hgk hN k1 k2 k1' k2'
              go_wp2_with fail
              obtain ⟨gK, rfl⟩ : ∃ gK : Nat, gK = gk := ⟨_, rfl⟩
              obtain ⟨wo, rfl⟩ : ∃ wo : World, wo = wr := ⟨_, rfl⟩
              go_loopg [10] (N + 64) (fun gj v10 wr => ∃ (i d : Nat), Hid (gj + i = N + 64) ∧ v10 = .int .i64 (i : Int) ∧ i ≤ N + 64 ∧ Hid (wr = w3.drewN d))
              case atStart => exact ⟨0, d, by simp [Hid], rfl, by omega, HW.out⟩
              case round =>
                obtain ⟨i, d2, HJ, rfl, hi, HW2⟩ := hrel
                have k1 := cell_dr HW2 HK1.out
                have k2 := cell_dr HW2 HK2.out
                by_cases hil : i < N + 64
                · have z0 : (i : Int) < (N : Int) + 64 := by omega
                  have hM := fun q : Nat => (markByte_any (k : Int) (i : Int) (wr.drewN q) (by omega) (by omega) (by omega) (by omega)).mono (fun _ _ h => (⟨h.1, h.2.symm⟩ : _ ∧ _))
                  have hb := cell_dr HW2 ((HOG.out.cellAt i (by omega)).trans (mkRow_at hil))
                  unfold cb at hb
                  have d3 : (mb (k : Int) (i : Int) == mb (k : Int) (i : Int)) = true := by simp
                  obtain ⟨q, hq⟩ : ∃ q, q = mb (k : Int) (i : Int) := ⟨_, rfl⟩
                  rw [← hq] at hM hb d3
                  have HMB := Lib.hid hM
                  clear hM
                  by_cases hiN : i < N
                  · have d1 : decide (i < N) = true := decide_eq_true hiN
                    obtain ⟨ga, c', hgf, _, _⟩ := HOV.out.form (by omega)
                    obtain ⟨rfl, rfl⟩ : A = some ⟨ga, 0, none⟩ ∧ c = c' := by injection hgf with h1 h2 h3; exact ⟨h1, h3⟩
                    have ha := cell_dr HW2 ((HOV.out.cellAt i (by omega)).trans (mkRow_at hiN))
                    unfold cb at ha
                    rw [← hq] at ha
                    have z2 : (i : Int) < (N : Int) := by omega
                    clear hgf hq
                    go_wp2_with fail
                    go_quiet ((go_at_call 43; exact Calls.quiet_of_same (HMB.out _)))
                    go_wp2
                    go_roundg (gk - 1)
                    case measure => have := HJ.out; omega
                    case rel => exact ⟨i + 1, d2 + nq, by have := HJ.out; simp only [Hid]; omega, by go_num, by omega, by simp only [Hid]; rw [HW2.out, World.drewN_drewN]⟩
                  · have d1 : decide (i < N) = false := decide_eq_false hiN
                    clear hq
                    go_wp2_with fail
                    go_quiet ((go_at_call 43; exact Calls.quiet_of_same (HMB.out _)))
                    go_wp2
                    go_roundg (gk - 1)
                    case measure => have := HJ.out; omega
                    case rel => exact ⟨i + 1, d2 + nq, by have := HJ.out; simp only [Hid]; omega, by go_num, by omega, by simp only [Hid]; rw [HW2.out, World.drewN_drewN]⟩
                · have z0 : ¬ (i : Int) < (N : Int) + 64 := by omega
                  go_wp2
                  go_roundg (gK - 1)
                  case measure => have := HG.out; omega
                  case rel => exact ⟨k + 1, d2, by have := HG.out; simp only [Hid]; omega, by go_num, by omega, HW2.out⟩
            · have t0 : ¬ (k : Int) < (K : Int) := by omega
              have hke : K = k := by omega
              subst hke
              clear HG
              have hF4 : Flat Zo wr 5 1 B K v g n m (fun j => mkRow j (n j)) Y := by rw [HW.out]; exact ⟨HF.out.ov, HF.out.og, HF.out.ap, HF.out.zf, HF.out.zl⟩
              have hL4 : Arr wr 30 gl K v := by rw [HW.out]; exact HL.out
              have hA4 : Arr wr 30 gg K g := by rw [HW.out]; exact HA.out
              have bb4 : Bel Zo B gx cx tx W wr := by rw [HW.out]; exact ⟨pw_below_drewN bb.1 d, bb.2⟩
              have ss4 : B ≤ wr.heap.size := by rw [HW.out]; exact ss
              have hM4 : ∀ j, j < K → m j = n j + 64 ∧ ∃ Z, Y j = mkRow j (n j) ++ Z := fun j hj => ⟨(HM.out j hj).1, _, by rw [(HM.out j hj).2, mkRow_add]⟩
              have HF4 := Lib.hid hF4
              have HL4 := Lib.hid hL4
              have HA4 := Lib.hid hA4
              have HM4 := Lib.hid hM4
              clear hF4 hL4 hA4 hM4 HF HL HA HM HW bb ss
              go_wp2_with fail
              -- each grows once more, out of what it was
              go_loopg [11] K (fun gk v11 wr => ∃ (k : Nat) (g : Nat → Value) (m : Nat → Nat) (Y : Nat → List Value), Hid (gk + k = K) ∧ v11 = .int .i64 (k : Int) ∧ k ≤ K ∧ Hid (Flat Zo wr 5 1 B K v g n m (fun j => mkRow j (n j)) Y) ∧ Hid (∀ j, j < K → m j = n j + 64 ∧ ∃ Z, Y j = mkRow j (n j) ++ Z) ∧ Hid (Arr wr 30 gl K v) ∧ Hid (Arr wr 30 gg K g) ∧ Bel Zo B gx cx tx W wr ∧ B ≤ wr.heap.size)
              case atStart => exact ⟨0, _, _, _, by simp [Hid], rfl, by omega, HF4.out, HM4.out, HL4.out, HA4.out, bb4, ss4⟩
              case round =>
                clear HF4 HL4 HA4 HM4 bb4 ss4
                obtain ⟨k, g, m, Y, HG, rfl, hkK, HF, HM, HL, HA, bb, ss⟩ := hrel
                by_cases hlt : k < K
                · have t0 : (k : Int) < (K : Int) := by omega
                  have hmk : ∀ W : World, (Instr.makeSlice 30 (.int .i64 64) (.int .i64 64)).run Tryd.prog W = .ok (.slice (some ⟨W.heap.size, 0, none⟩) 64 64) (W.alloc (.cells (madeCells #[.int .u8 0] 64) 5)) := fun W => print_make (P := Tryd.prog) 30 5 .u8 1 Tryd.underlying30 Tryd.infoB (by decide) 64 (by decide) W
                  have om := own_made wr B 5 .u8 64 ss (by decide)
                  go_upto_region 30 with fail
                  clear hmk
                  obtain ⟨gm, hgm⟩ : ∃ gm, gm = wr.heap.size := ⟨_, rfl⟩
                  rw [← hgm] at om ⊢
                  generalize hW5 : wr.alloc (.cells (madeCells #[.int .u8 0] 64) 5) = w5 at *
                  have f5 : Fr (fun _ => False) wr w5 := by rw [← hW5]; exact (Fr.refl _ wr).alloc _
                  have hnr := HF.out.noRow_new (b := gm) (by omega)
                  have HF5 := Lib.hid (HF.out.fr f5 (fun _ h => h.elim))
                  have HL5 := Lib.hid (HL.out.fr f5 (fun h => h))
                  have HA5 := Lib.hid (HA.out.fr f5 (fun h => h))
                  have ngl : gl ≠ gm := by have := HL.out.lt; omega
                  have ngg : gg ≠ gm := by have := HA.out.lt; omega
                  have hgmB : B ≤ gm := by omega
                  have bb5 : Bel Zo B gx cx tx W w5 := Bel.then bb f5 ss (fun _ h => h.elim) (fun h => h) HF.out.zl (fun _ h => h.elim)
                  have hgmZ : ¬ Zo gm := fun h => by have := HF.out.zl gm h; omega
                  have ngx : gx ≠ gm := by have := blk_lt bb.2.1; omega
                  have ss5 : B ≤ w5.heap.size := Nat.le_trans ss f5.size
                  have HOM := Lib.hid om
                  have HNR := Lib.hid hnr
                  clear hW5 f5 om hnr bb ss HF HL HA hgm
                  go_wp2_with fail
                  obtain ⟨gK, rfl⟩ : ∃ gK : Nat, gK = gk := ⟨_, rfl⟩
                  obtain ⟨wo, rfl⟩ : ∃ wo : World, wo = wr := ⟨_, rfl⟩
                  go_loopg [13] 64 (fun gj v13 wr => ∃ (i : Nat) (Z : List Value), Hid (gj + i = 64) ∧ v13 = .int .i64 (i : Int) ∧ i ≤ 64 ∧ Hid (wr.ownsRow B 5 1 (.slice (some ⟨gm, 0, none⟩) 64 64) 64 Z) ∧ Hid (∀ u ∈ Z, u.oneCell' = true) ∧ Hid (Flat Zo wr 5 1 B K v g n m (fun j => mkRow j (n j)) Y) ∧ Hid (Arr wr 30 gl K v) ∧ Hid (Arr wr 30 gg K g) ∧ Bel Zo B gx cx tx W wr ∧ B ≤ wr.heap.size)
                  case atStart => exact ⟨0, _, by simp [Hid], rfl, by omega, HOM.out, fun u hu => by simp only [nums, List.mem_map] at hu; obtain ⟨q, _, rfl⟩ := hu; rfl, HF5.out, HL5.out, HA5.out, bb5, ss5⟩
                  case round =>
                    clear HOM HF5 HL5 HA5 bb5 ss5
                    obtain ⟨i, Z, HJ, rfl, hi64, HOM, HZ, HF, HL, HA, bb, ss⟩ := hrel
                    by_cases hil : i < 64
                    · have z0 : (i : Int) < 64 := by omega
                      have z1 := HOM.out.frozenAt i
                      obtain ⟨u, hu⟩ : ∃ u, wr.cell? ⟨gm, i, none⟩ = some u := by
                        rw [HOM.out.cellAt i (by omega)]
                        exact ⟨_, List.getElem?_eq_getElem (by rw [HOM.out.1]; omega)⟩
                      go_wp2_with fail
                      refine (markByte_any ((k : Int) + (K : Int)) (i : Int) wr (by omega) (by omega) (by omega) (by omega)).mono ?_
                      rintro e w' ⟨rfl, hw⟩
                      subst hw
                      generalize mb ((k : Int) + (K : Int)) (i : Int) = q
                      have fs : Fr (fun b => b = gm) wr (wr.setCell ⟨gm, i, none⟩ (.int .u8 q)) := (Fr.refl (fun b => b = gm) wr).set (p := ⟨gm, i, none⟩) (.inl rfl) _
                      have HO6 := Lib.hid (HOM.out.stored i (.int .u8 q)).1
                      have HF6 := Lib.hid (HF.out.fr fs (fun b hb => by rw [hb]; exact HNR.out))
                      have HL6 := Lib.hid (HL.out.fr fs ngl)
                      have HA6 := Lib.hid (HA.out.fr fs ngg)
                      have bb6 := Bel.then bb fs ss (fun b hb => by rw [hb]; exact hgmB) ngx HF.out.zl (fun b hb => by rw [hb]; exact hgmZ)
                      have ss6 := Nat.le_trans ss fs.size
                      have hz6 : ∀ u ∈ Z.set i (.int .u8 q), u.oneCell' = true := fun u hu => (List.mem_or_eq_of_mem_set hu).elim (HZ.out u) (fun e => by rw [e]; rfl)
                      have HZ6 := Lib.hid hz6
                      clear fs hz6
                      go_wp2
                      go_roundg (gk - 1)
                      case measure => have := HJ.out; omega
                      case rel => exact ⟨i + 1, _, by have := HJ.out; simp only [Hid]; omega, by go_num, by omega, HO6.out, HZ6.out, HF6.out, HL6.out, HA6.out, bb6, ss6⟩
                    · have z0 : ¬ (i : Int) < 64 := by omega
                      have hnk := HN.out k hlt
                      obtain ⟨N, hN⟩ : ∃ N, N = n k := ⟨_, rfl⟩
                      obtain ⟨A, c, hvk⟩ := own_slice (HF.out.ov k hlt)
                      have k1 := HL.out.cell hlt
                      have ov := HF.out.ov k hlt
                      have hst := HF.out.turn (S := fun _ => False) (k := k) (g' := v k) (m' := n k) (X' := mkRow k (n k)) (Y' := mkRow k (n k)) hlt (Fr.refl _ wr) (fun _ h => h.elim) ov ov (fun b hb => .inl (.inl hb))
                      have hex := Ext.self ov
                      rw [at_id (fun j => mkRow j (n j)) k] at hst
                      rw [← hN] at hvk hnk
                      rw [hvk] at k1
                      rw [hvk, ← hN] at ov
                      have HOV := Lib.hid ov
                      have HVK := Lib.hid hvk
                      have HNK := Lib.hid hN
                      have HST := Lib.hid hst
                      have HEX := Lib.hid hex
                      clear ov hst hex hvk hN
                      go_wp2_with (at_builtin; refine wpList_append_ext B rfl _ _ 30 5 (.int .u8 0) 1 1 rfl Tryd.underlying30 Tryd.infoB rfl (by decide) (by decide) (.slice A N c) N (mkRow k N) rfl HOV.out ⟨gm, 0, none⟩ 64 64 Z rfl (by decide) HOM.out.1 (fun j u hu => by rw [add_plain]; exact (HOM.out.cellAt j (by have := (List.getElem?_eq_some_iff.1 hu).1; rw [HOM.out.1] at this; exact this)).trans hu) HZ.out ss (by omega) ?_)
                      intro x' w' ho' hg'
                      obtain ⟨t1, t2, t3⟩ := HST.out.grow (k := k) (c := 64) (x' := x') (Z := []) (news := Z) hlt (by rw [at_same, at_same]; exact HEX.out) (by rw [at_same, List.append_nil]) (by rw [at_same]; exact Nat.le_refl _)
                        (by rw [at_same, at_same, ← HNK.out]; exact ho') (by rw [at_same, at_same, HVK.out, ← HNK.out]; exact hg')
                      rw [at_at, at_at, at_at, at_same, at_same] at t1
                      rw [at_same] at t3
                      have nl : ¬ (v k).ownBlock = some gl := fun e => HF.out.noArr HL.out (by decide) k hlt (.inl e)
                      have ng : ¬ (v k).ownBlock = some gg := fun e => HF.out.noArr HA.out (by decide) k hlt (.inl e)
                      have hL' := HL.out.fr t3 nl
                      have hA' := HA.out.fr t3 ng
                      have bb' := Bel.then bb t3 ss (fun b hb => own_base (HF.out.ov k hlt) b hb) (fun e => HF.out.noRow bb.2.1 h5 k hlt (.inl e)) HF.out.zl (fun b hb => HF.out.zf k b hlt (.inl hb))
                      have ss' := Nat.le_trans ss t3.size
                      obtain ⟨Ax, cx, rfl⟩ := own_slice ho'
                      have y1 := hA'.frozen k
                      have y2 := hA'.cell hlt
                      have fs : Fr (fun b => b = gg) w' (w'.setCell ⟨gg, k, none⟩ (.slice Ax (N + 64) cx)) := (Fr.refl (fun b => b = gg) w').set (p := ⟨gg, k, none⟩) (.inl rfl) _
                      have hnr := t1.noArr hA' (by decide)
                      have HF7 := Lib.hid (t1.fr fs (fun b hb => by rw [hb]; exact hnr))
                      have HL7 := Lib.hid (hL'.fr fs hne)
                      have HA7 := Lib.hid (hA'.set hlt (.slice Ax (N + 64) cx))
                      have bb7 := Bel.then bb' fs ss' (fun b hb => by rw [hb]; exact hggB) (hA'.ne bb'.2.1 h25) t1.zl (fun b hb => by rw [hb]; exact hggZ)
                      have ss7 := Nat.le_trans ss' fs.size
                      clear t1 t2 t3 hL' hA' fs hnr nl ng ho' hg' k1
                      go_wp2
                      go_roundg (gK - 1)
                      case measure => have := HG.out; omega
                      case rel =>
                        refine ⟨k + 1, _, _, _, by have := HG.out; simp only [Hid]; omega, by go_num, by omega, HF7.out, fun j hj => ?_, HL7.out, HA7.out, bb7, ss7⟩
                        by_cases hjk : j = k
                        · subst hjk
                          rw [at_same, at_same]
                          exact ⟨rfl, Z, rfl⟩
                        · rw [at_other _ _ hjk, at_other _ _ hjk]
                          exact HM.out j hj
                · have t0 : ¬ (k : Int) < (K : Int) := by omega
                  have hke : K = k := by omega
                  subst hke
                  clear HG
                  obtain ⟨w8, hw8⟩ : ∃ w8 : World, w8 = wr := ⟨_, rfl⟩
                  rw [← hw8] at HF HL HA bb ss
                  go_wp2_with fail
                  -- what it grew out of stands as it stood
                  go_loopg [14] K (fun gk v14 wr => ∃ (k d : Nat), Hid (gk + k = K) ∧ v14 = .int .i64 (k : Int) ∧ k ≤ K ∧ Hid (wr = w8.drewN d))
                  case atStart => exact ⟨0, 0, by simp [Hid], rfl, by omega, by rw [hw8]; rfl⟩
                  case round =>
                    clear hw8
                    obtain ⟨k, d, HG, rfl, hkK2, HW⟩ := hrel
                    by_cases hlt : k < K
                    · have t0 : (k : Int) < (K : Int) := by omega
                      have hnk := HN.out k hlt
                      obtain ⟨hm1, Z, hm2⟩ := HM.out k hlt
                      have ov := HF.out.ov k hlt
                      have og := HF.out.og k hlt
                      rw [hm1, hm2] at og
                      obtain ⟨N, hN⟩ : ∃ N, N = n k := ⟨_, rfl⟩
                      rw [← hN] at ov og hnk hm1 hm2
                      obtain ⟨A, c, hvk⟩ := own_slice ov
                      obtain ⟨gb, cg, hgk, _, _⟩ := og.form (by omega)
                      have k1 := HL.out.cell hlt
                      have k2 := HA.out.cell hlt
                      rw [hvk] at k1 ov
                      rw [hgk] at k2 og
                      have k1' := cell_dr HW k1
                      have HOV := Lib.hid ov
                      have HOG := Lib.hid og
                      have HK1 := Lib.hid k1
                      have HK2 := Lib.hid k2
                      clear ov og hm1 hm2 hvk hgk hN k1 k2 k1'
                      go_wp2_with fail
                      obtain ⟨gK, rfl⟩ : ∃ gK : Nat, gK = gk := ⟨_, rfl⟩
                      obtain ⟨wo, rfl⟩ : ∃ wo : World, wo = wr := ⟨_, rfl⟩
                      go_loopg [15] N (fun gj v15 wr => ∃ (i d : Nat), Hid (gj + i = N) ∧ v15 = .int .i64 (i : Int) ∧ i ≤ N ∧ Hid (wr = w8.drewN d))
                      case atStart => exact ⟨0, d, by simp [Hid], rfl, by omega, HW.out⟩
                      case round =>
                        obtain ⟨i, d2, HJ, rfl, hi, HW2⟩ := hrel
                        have k1 := cell_dr HW2 HK1.out
                        have k2 := cell_dr HW2 HK2.out
                        by_cases hiN : i < N
                        · have z2 : (i : Int) < (N : Int) := by omega
                          have z3 : (i : Int) < (N : Int) + 64 := by omega
                          have hM := fun q : Nat => (markByte_any (k : Int) (i : Int) (wr.drewN q) (by omega) (by omega) (by omega) (by omega)).mono (fun _ _ h => (⟨h.1, h.2.symm⟩ : _ ∧ _))
                          have hb := cell_dr HW2 ((HOG.out.cellAt i (by omega)).trans ((List.getElem?_append_left (by rw [mkRow_length]; exact hiN)).trans (mkRow_at hiN)))
                          unfold cb at hb
                          have d3 : (mb (k : Int) (i : Int) == mb (k : Int) (i : Int)) = true := by simp
                          obtain ⟨q, hq⟩ : ∃ q, q = mb (k : Int) (i : Int) := ⟨_, rfl⟩
                          obtain ⟨ga, c', hgf, _, _⟩ := HOV.out.form (by omega)
                          obtain ⟨rfl, rfl⟩ : A = some ⟨ga, 0, none⟩ ∧ c = c' := by injection hgf with h1 h2 h3; exact ⟨h1, h3⟩
                          have ha := cell_dr HW2 ((HOV.out.cellAt i (by omega)).trans (mkRow_at hiN))
                          unfold cb at ha
                          rw [← hq] at hM hb d3 ha
                          have HMB := Lib.hid hM
                          clear hM hgf hq
                          go_wp2_with fail
                          go_quiet ((go_at_call 43; exact Calls.quiet_of_same (HMB.out _)))
                          go_wp2
                          go_roundg (gk - 1)
                          case measure => have := HJ.out; omega
                          case rel => exact ⟨i + 1, d2 + nq, by have := HJ.out; simp only [Hid]; omega, by go_num, by omega, by simp only [Hid]; rw [HW2.out, World.drewN_drewN]⟩
                        · have z0 : ¬ (i : Int) < (N : Int) := by omega
                          go_wp2
                          go_roundg (gK - 1)
                          case measure => have := HG.out; omega
                          case rel => exact ⟨k + 1, d2, by have := HG.out; simp only [Hid]; omega, by go_num, by omega, HW2.out⟩
                    · have t0 : ¬ (k : Int) < (K : Int) := by omega
                      go_wp2
                      go_ret
                      exact ⟨rfl, by rw [HW.out]; exact ⟨pw_below_drewN bb.1 d, bb.2⟩⟩

end Go.Proofs.YtlagkfiafelnnaaDoor
