/- BitioParts: the walk. However a row of bits is parted into pieces, it is the same bytes. -/
import Derived.Test.YtbpckacgdkikdaaAwake
set_option linter.unusedVariables false
set_option linter.unusedSimpArgs false
namespace Go.Proofs.Ytbpckacgdkikdaa
open Go.RowKit Go.Proofs.YtbpckacgdkikdaaW.PrintWords Bits

theorem puts_got (M L m : Nat) : puts (M % 2 ^ L) L (((got M L m : Nat) : Int).toNat) m = M % 2 ^ (L + m) := by
  unfold puts got
  rw [Int.toNat_natCast, Nat.mod_mod, Nat.pow_add, Nat.mod_mul, Nat.mul_comm]

theorem byts_all (xs : List Int) (h : ∀ x ∈ xs, 0 ≤ x ∧ x < 256) : byts (ofb xs % 2 ^ (8 * xs.length)) (8 * xs.length) = xs := by
  have hl := ofb_lt xs h
  rw [pow8] at hl
  rw [Nat.mod_eq_of_lt hl]
  unfold byts
  rw [show (8 * xs.length + 7) / 8 = xs.length from by omega, leb_ofb xs h]

theorem Rds.reads {W : World} {k : IntKind} {A : Option Addr} {n c : Nat} {xs : List Int} (h : Rds W k (.slice A n c) xs) : ReadsInt W k A xs.length xs := by
  obtain ⟨A', c', e, _, _, hr⟩ := h
  injection e with e1 e2 e3
  subst e1
  exact hr

/-- The loop: L bits of M have been handed over. -/
def PartsRel (W : World) (B g gr : Nat) (xs : List Int) (gk : Nat) (v7 : Value) (wr : World) : Prop :=
  ∃ (i L : Nat) (vw vr : Value), Hid (gk + L = 8 * xs.length) ∧ Hid (i ≤ L) ∧ v7 = .int .i64 (i : Int) ∧ IsWr wr B g vw (ofb xs % 2 ^ L) L ∧ IsRd wr B gr vr xs L ∧ Below B W wr ∧ B ≤ wr.heap.size ∧ (∀ k, vw.ownBlock = some k → vr.ownBlock ≠ some k)

theorem wr_rd_ne {W : World} {B g gr : Nat} {vw vr : Value} {N L p : Nat} {xs : List Int} (h : IsWr W B g vw N L) (h' : IsRd W B gr vr xs p) : g ≠ gr ∧ vw.ownBlock ≠ some gr ∧ vr.ownBlock ≠ some g := by
  refine ⟨?_, ?_, ?_⟩
  · rintro rfl
    have := h.1
    rw [h'.1] at this
    simp at this
  · intro e
    obtain ⟨cells, hc⟩ := own_typed h.2.2.2 gr e
    rw [h'.1] at hc
    simp at hc
  · intro e
    obtain ⟨cells, hc⟩ := own_typed h'.2.2.1 g e
    rw [h.1] at hc
    simp at hc

set_option maxHeartbeats 3000000 in
set_option maxRecDepth 100000 in
theorem parts_walk (vb vs : Value) (xs zs : List Int) (W : World) (hb : Rds W .u8 vb xs) (hs : Rds W .i64 vs zs) (hx : ∀ x ∈ xs, 0 ≤ x ∧ x < 256) :
    Calls Try.prog 3 #[vb, vs] W fun e W' => e = .returned (.bool true) ∧ Below W.heap.size W W' := by
  obtain ⟨B, hB⟩ : ∃ B, B = W.heap.size := ⟨_, rfl⟩
  rw [← hB]
  have HBW := Lib.hid hB
  clear hB
  have HX := Lib.hid hx
  clear hx
  have hbm : xs.length ≤ 9223372036854775807 := by obtain ⟨_, _, _, _, _, h⟩ := hb; exact h.2.1
  have hsm : zs.length ≤ 9223372036854775807 := by obtain ⟨_, _, _, _, _, h⟩ := hs; exact h.2.1
  have hb0 := hb
  have hs0 := hs
  obtain ⟨Ab, cb, rfl, _⟩ := hb
  obtain ⟨As, cs, rfl, _⟩ := hs
  have HB0 := Lib.hid hb0
  have HS0 := Lib.hid hs0
  clear hb0 hs0
  go_enter Try.func3, Try.ntmps3
  go_wp2_with fail
  refine (awake_any _).mono ?_
  rintro e w1 ⟨rfl, b1⟩
  rw [← HBW.out] at b1
  have s1 : B ≤ w1.heap.size := by have := b1.size; rw [← HBW.out] at this; exact this
  by_cases h200 : (200 : Int) < xs.length
  · have d1 : decide ((200 : Int) < xs.length) = true := decide_eq_true h200
    go_wp2
    go_ret
    exact ⟨rfl, b1⟩
  have d1 : decide ((200 : Int) < xs.length) = false := decide_eq_false h200
  by_cases h300 : (300 : Int) < zs.length
  · have d2 : decide ((300 : Int) < zs.length) = true := decide_eq_true h300
    go_wp2
    go_ret
    exact ⟨rfl, b1⟩
  have d2 : decide ((300 : Int) < zs.length) = false := decide_eq_false h300
  have hx200 : xs.length ≤ 200 := by omega
  have hz300 : zs.length ≤ 300 := by omega
  clear h200 h300
  go_wp2_with fail
  refine (newWriter_any _ B s1).mono ?_
  rintro e w2 ⟨g, rfl, h2, b2, g2⟩
  have bb2 : Below B W w2 := b1.trans (b2.mono s1)
  have s2 : B ≤ w2.heap.size := Nat.le_trans s1 b2.size
  clear b1 s1 b2
  go_wp2_with fail
  refine (newReader_any _ xs w2 (HB0.out.below (by rw [← HBW.out]; exact bb2)) (by omega) HX.out).mono ?_
  rintro e w3 ⟨gr, vr, rfl, h3, b3⟩
  have bb3 : Below B W w3 := bb2.trans (b3.mono s2)
  have s3 : B ≤ w3.heap.size := Nat.le_trans s2 b3.size
  have h2' := h2.below b3
  have h3' := h3.weaken s2
  clear bb2 s2 b3 h2 h3 g2
  go_wp2_with fail
  go_loopg [7] (8 * xs.length) (fun gk v7 wr => PartsRel W B g gr xs gk v7 wr)
  case atStart => exact ⟨0, 0, _, vr, by simp [Hid], by simp [Hid], rfl, by simpa [Nat.mod_one] using h2', h3', bb3, s3, by simp [Value.ownBlock]⟩
  case round =>
    clear bb3 s3 h2' h3'
    obtain ⟨i, L, vw, vr, HG, HI, rfl, hw, hr, bb, ss, hdis⟩ := hrel
    have hL8 : L ≤ 1600 := by have := HG.out; omega
    have hiL : i ≤ 1600 := by have := HI.out; omega
    have hLx : (L : Int) ≤ 8 * (xs.length : Int) := by have := HG.out; omega
    go_wp2_with fail
    refine (left_any B gr vr xs L _ hr).mono ?_
    rintro e w' ⟨rfl, d, rfl⟩
    by_cases hlt : L < 8 * xs.length
    · have d3 : decide ((L : Int) < 8 * (xs.length : Int)) = true := decide_eq_true (by omega)
      by_cases hz : 0 < zs.length
      · have hs' := (HS0.out.below (by rw [← HBW.out]; exact bb)).reads
        have hil : i % zs.length < zs.length := Nat.mod_lt _ hz
        obtain ⟨ad, e1, hxz⟩ := hs'.at_ ((i % zs.length : Nat) : Int) (by omega) (by omega)
        obtain rfl := e1
        rw [Int.toNat_natCast] at hxz
        obtain ⟨z, hzz⟩ : ∃ z, z = rd zs ((i % zs.length : Nat) : Int) := ⟨_, rfl⟩
        rw [← hzz] at hxz
        clear hzz
        have t1 : (0 : Int) < (zs.length : Int) := by omega
        have t2 : (i : Int) % (zs.length : Int) < (zs.length : Int) := Int.emod_lt_of_pos _ t1
        have t3 : (0 : Int) ≤ (i : Int) % (zs.length : Int) := Int.emod_nonneg _ (by omega)
        go_wp2_with fail
        refine (pick_any z 32 _ (by decide) (by decide)).mono ?_
        rintro e w' ⟨rfl, rfl⟩
        have q1 := Int.emod_nonneg z (show (32 : Int) ≠ 0 by decide)
        have q2 := Int.emod_lt_of_pos z (show (0 : Int) < 32 by decide)
        go_wp2_with fail
        generalize hnn : 1 + z % 32 = nn
        have hn1 : 1 ≤ nn := by omega
        have hn2 : nn ≤ 32 := by omega
        clear hnn q1 q2 hxz t1 t2 t3
        refine (left_any B gr vr xs L _ (by exact hr)).mono ?_
        rintro e w' ⟨rfl, dd, rfl⟩
        rcases Int.lt_or_le (8 * (xs.length : Int) - (L : Int)) nn with hmn | hmn
        · go_wp2_with fail
          have hm1 : 1 ≤ (8 * (xs.length : Int) - (L : Int)) := by omega
          have hm2 : (8 * (xs.length : Int) - (L : Int)) ≤ 32 := by omega
          have hm3 : (L : Int) + (8 * (xs.length : Int) - (L : Int)) ≤ 8 * (xs.length : Int) := by omega
          refine (get_any B gr vr xs L (8 * (xs.length : Int) - (L : Int)) _ (by exact hr) (by omega) hm2 hm3).mono ?_
          rintro e w4 ⟨rfl, h4, f4⟩
          have ss' : B ≤ w4.heap.size := Nat.le_trans ss f4.size
          have bb' : Below B W w4 := (f4.one (Below.trans bb (pw_below_drewN (Below.refl _ _) _)) ss hr.2.1).1
          obtain ⟨ne1, ne2, ne3⟩ := wr_rd_ne hw hr
          have hw4 : IsWr w4 B g vw (ofb xs % 2 ^ L) L := IsWr.fr (W := wr.drewN (d + dd)) hw f4 ne1 (fun k hk he => ne2 (he ▸ hk))
          obtain ⟨G, hG⟩ : ∃ G, G = got (ofb xs) L ((8 * (xs.length : Int) - (L : Int))).toNat := ⟨_, rfl⟩
          rw [← hG]
          have hG2 : G < 2 ^ 32 := by rw [hG]; exact Nat.lt_of_lt_of_le (got_lt _ _ _) (Nat.pow_le_pow_right (by decide) (by omega))
          have HGG := Lib.hid hG
          clear hG
          go_wp2_with fail
          refine (len_any B g vw _ L w4 (by omega) hw4).mono ?_
          rintro e w' ⟨rfl, d5, rfl⟩
          go_wp2_with fail
          refine (put_any B g vw _ L (G : Int) (8 * (xs.length : Int) - (L : Int)) (w4.drewN d5) (by omega) hm2 (by omega) (by omega) (by omega) hw4 ss').mono ?_
          rintro e w6 ⟨rfl, hp6⟩
          obtain ⟨v6, h6, f6, l6⟩ := hp6
          have bb6 : Below B W w6 := Fr.then_below (Below.trans bb' (pw_below_drewN (Below.refl _ _) d5)) f6 ss' (fun k hk => by rcases hk with rfl | hk; exact hw4.2.1; exact own_base hw4.2.2.2 k hk)
          have ss6 : B ≤ w6.heap.size := Nat.le_trans ss' f6.size
          have h6r : IsRd w6 B gr vr xs (L + ((8 * (xs.length : Int) - (L : Int))).toNat) := IsRd.fr (W := w4.drewN d5) h4 f6 (fun hk => by rcases hk with hk | hk; exact ne1 hk.symm; exact ne2 hk) (fun k hk he => by rcases he with he | he; exact ne3 (he ▸ hk); exact hdis k he hk)
          have hd6 : ∀ k, v6.ownBlock = some k → vr.ownBlock ≠ some k := by
            intro k hk he
            rcases l6 with l6 | l6
            · exact hdis k (by rw [← l6, hk]) he
            · have h1 := l6 k hk
              have h2 := own_lt h4.2.2.1 k he
              exact absurd h2 (Nat.not_lt.2 h1)
          rw [HGG.out, puts_got] at h6
          go_wp2
          go_roundg (gk - ((8 * (xs.length : Int) - (L : Int))).toNat)
          case measure => have := HG.out; omega
          case rel => exact ⟨i + 1, L + ((8 * (xs.length : Int) - (L : Int))).toNat, v6, vr, by have := HG.out; simp only [Hid]; omega, by have := HI.out; simp only [Hid]; omega, by go_num, h6, h6r, bb6, ss6, hd6⟩
        · go_wp2_with fail
          have hm1 : 1 ≤ nn := by omega
          have hm2 : nn ≤ 32 := by omega
          have hm3 : (L : Int) + nn ≤ 8 * (xs.length : Int) := by omega
          refine (get_any B gr vr xs L nn _ (by exact hr) (by omega) hm2 hm3).mono ?_
          rintro e w4 ⟨rfl, h4, f4⟩
          have ss' : B ≤ w4.heap.size := Nat.le_trans ss f4.size
          have bb' : Below B W w4 := (f4.one (Below.trans bb (pw_below_drewN (Below.refl _ _) _)) ss hr.2.1).1
          obtain ⟨ne1, ne2, ne3⟩ := wr_rd_ne hw hr
          have hw4 : IsWr w4 B g vw (ofb xs % 2 ^ L) L := IsWr.fr (W := wr.drewN (d + dd)) hw f4 ne1 (fun k hk he => ne2 (he ▸ hk))
          obtain ⟨G, hG⟩ : ∃ G, G = got (ofb xs) L (nn).toNat := ⟨_, rfl⟩
          rw [← hG]
          have hG2 : G < 2 ^ 32 := by rw [hG]; exact Nat.lt_of_lt_of_le (got_lt _ _ _) (Nat.pow_le_pow_right (by decide) (by omega))
          have HGG := Lib.hid hG
          clear hG
          go_wp2_with fail
          refine (len_any B g vw _ L w4 (by omega) hw4).mono ?_
          rintro e w' ⟨rfl, d5, rfl⟩
          go_wp2_with fail
          refine (put_any B g vw _ L (G : Int) nn (w4.drewN d5) (by omega) hm2 (by omega) (by omega) (by omega) hw4 ss').mono ?_
          rintro e w6 ⟨rfl, hp6⟩
          obtain ⟨v6, h6, f6, l6⟩ := hp6
          have bb6 : Below B W w6 := Fr.then_below (Below.trans bb' (pw_below_drewN (Below.refl _ _) d5)) f6 ss' (fun k hk => by rcases hk with rfl | hk; exact hw4.2.1; exact own_base hw4.2.2.2 k hk)
          have ss6 : B ≤ w6.heap.size := Nat.le_trans ss' f6.size
          have h6r : IsRd w6 B gr vr xs (L + (nn).toNat) := IsRd.fr (W := w4.drewN d5) h4 f6 (fun hk => by rcases hk with hk | hk; exact ne1 hk.symm; exact ne2 hk) (fun k hk he => by rcases he with he | he; exact ne3 (he ▸ hk); exact hdis k he hk)
          have hd6 : ∀ k, v6.ownBlock = some k → vr.ownBlock ≠ some k := by
            intro k hk he
            rcases l6 with l6 | l6
            · exact hdis k (by rw [← l6, hk]) he
            · have h1 := l6 k hk
              have h2 := own_lt h4.2.2.1 k he
              exact absurd h2 (Nat.not_lt.2 h1)
          rw [HGG.out, puts_got] at h6
          go_wp2
          go_roundg (gk - (nn).toNat)
          case measure => have := HG.out; omega
          case rel => exact ⟨i + 1, L + (nn).toNat, v6, vr, by have := HG.out; simp only [Hid]; omega, by have := HI.out; simp only [Hid]; omega, by go_num, h6, h6r, bb6, ss6, hd6⟩
      · have hz0 : ¬ (0 : Int) < (zs.length : Int) := by omega
        go_wp2_with fail
        generalize hnn : 1 + (i : Int) % 7 = nn
        have hn1 : 1 ≤ nn := by omega
        have hn2 : nn ≤ 32 := by omega
        clear hnn
        refine (left_any B gr vr xs L _ (by exact hr)).mono ?_
        rintro e w' ⟨rfl, dd, rfl⟩
        rcases Int.lt_or_le (8 * (xs.length : Int) - (L : Int)) nn with hmn | hmn
        · go_wp2_with fail
          have hm1 : 1 ≤ (8 * (xs.length : Int) - (L : Int)) := by omega
          have hm2 : (8 * (xs.length : Int) - (L : Int)) ≤ 32 := by omega
          have hm3 : (L : Int) + (8 * (xs.length : Int) - (L : Int)) ≤ 8 * (xs.length : Int) := by omega
          refine (get_any B gr vr xs L (8 * (xs.length : Int) - (L : Int)) _ (by exact hr) (by omega) hm2 hm3).mono ?_
          rintro e w4 ⟨rfl, h4, f4⟩
          have ss' : B ≤ w4.heap.size := Nat.le_trans ss f4.size
          have bb' : Below B W w4 := (f4.one (Below.trans bb (pw_below_drewN (Below.refl _ _) _)) ss hr.2.1).1
          obtain ⟨ne1, ne2, ne3⟩ := wr_rd_ne hw hr
          have hw4 : IsWr w4 B g vw (ofb xs % 2 ^ L) L := IsWr.fr (W := wr.drewN (d + dd)) hw f4 ne1 (fun k hk he => ne2 (he ▸ hk))
          obtain ⟨G, hG⟩ : ∃ G, G = got (ofb xs) L ((8 * (xs.length : Int) - (L : Int))).toNat := ⟨_, rfl⟩
          rw [← hG]
          have hG2 : G < 2 ^ 32 := by rw [hG]; exact Nat.lt_of_lt_of_le (got_lt _ _ _) (Nat.pow_le_pow_right (by decide) (by omega))
          have HGG := Lib.hid hG
          clear hG
          go_wp2_with fail
          refine (len_any B g vw _ L w4 (by omega) hw4).mono ?_
          rintro e w' ⟨rfl, d5, rfl⟩
          go_wp2_with fail
          refine (put_any B g vw _ L (G : Int) (8 * (xs.length : Int) - (L : Int)) (w4.drewN d5) (by omega) hm2 (by omega) (by omega) (by omega) hw4 ss').mono ?_
          rintro e w6 ⟨rfl, hp6⟩
          obtain ⟨v6, h6, f6, l6⟩ := hp6
          have bb6 : Below B W w6 := Fr.then_below (Below.trans bb' (pw_below_drewN (Below.refl _ _) d5)) f6 ss' (fun k hk => by rcases hk with rfl | hk; exact hw4.2.1; exact own_base hw4.2.2.2 k hk)
          have ss6 : B ≤ w6.heap.size := Nat.le_trans ss' f6.size
          have h6r : IsRd w6 B gr vr xs (L + ((8 * (xs.length : Int) - (L : Int))).toNat) := IsRd.fr (W := w4.drewN d5) h4 f6 (fun hk => by rcases hk with hk | hk; exact ne1 hk.symm; exact ne2 hk) (fun k hk he => by rcases he with he | he; exact ne3 (he ▸ hk); exact hdis k he hk)
          have hd6 : ∀ k, v6.ownBlock = some k → vr.ownBlock ≠ some k := by
            intro k hk he
            rcases l6 with l6 | l6
            · exact hdis k (by rw [← l6, hk]) he
            · have h1 := l6 k hk
              have h2 := own_lt h4.2.2.1 k he
              exact absurd h2 (Nat.not_lt.2 h1)
          rw [HGG.out, puts_got] at h6
          go_wp2
          go_roundg (gk - ((8 * (xs.length : Int) - (L : Int))).toNat)
          case measure => have := HG.out; omega
          case rel => exact ⟨i + 1, L + ((8 * (xs.length : Int) - (L : Int))).toNat, v6, vr, by have := HG.out; simp only [Hid]; omega, by have := HI.out; simp only [Hid]; omega, by go_num, h6, h6r, bb6, ss6, hd6⟩
        · go_wp2_with fail
          have hm1 : 1 ≤ nn := by omega
          have hm2 : nn ≤ 32 := by omega
          have hm3 : (L : Int) + nn ≤ 8 * (xs.length : Int) := by omega
          refine (get_any B gr vr xs L nn _ (by exact hr) (by omega) hm2 hm3).mono ?_
          rintro e w4 ⟨rfl, h4, f4⟩
          have ss' : B ≤ w4.heap.size := Nat.le_trans ss f4.size
          have bb' : Below B W w4 := (f4.one (Below.trans bb (pw_below_drewN (Below.refl _ _) _)) ss hr.2.1).1
          obtain ⟨ne1, ne2, ne3⟩ := wr_rd_ne hw hr
          have hw4 : IsWr w4 B g vw (ofb xs % 2 ^ L) L := IsWr.fr (W := wr.drewN (d + dd)) hw f4 ne1 (fun k hk he => ne2 (he ▸ hk))
          obtain ⟨G, hG⟩ : ∃ G, G = got (ofb xs) L (nn).toNat := ⟨_, rfl⟩
          rw [← hG]
          have hG2 : G < 2 ^ 32 := by rw [hG]; exact Nat.lt_of_lt_of_le (got_lt _ _ _) (Nat.pow_le_pow_right (by decide) (by omega))
          have HGG := Lib.hid hG
          clear hG
          go_wp2_with fail
          refine (len_any B g vw _ L w4 (by omega) hw4).mono ?_
          rintro e w' ⟨rfl, d5, rfl⟩
          go_wp2_with fail
          refine (put_any B g vw _ L (G : Int) nn (w4.drewN d5) (by omega) hm2 (by omega) (by omega) (by omega) hw4 ss').mono ?_
          rintro e w6 ⟨rfl, hp6⟩
          obtain ⟨v6, h6, f6, l6⟩ := hp6
          have bb6 : Below B W w6 := Fr.then_below (Below.trans bb' (pw_below_drewN (Below.refl _ _) d5)) f6 ss' (fun k hk => by rcases hk with rfl | hk; exact hw4.2.1; exact own_base hw4.2.2.2 k hk)
          have ss6 : B ≤ w6.heap.size := Nat.le_trans ss' f6.size
          have h6r : IsRd w6 B gr vr xs (L + (nn).toNat) := IsRd.fr (W := w4.drewN d5) h4 f6 (fun hk => by rcases hk with hk | hk; exact ne1 hk.symm; exact ne2 hk) (fun k hk he => by rcases he with he | he; exact ne3 (he ▸ hk); exact hdis k he hk)
          have hd6 : ∀ k, v6.ownBlock = some k → vr.ownBlock ≠ some k := by
            intro k hk he
            rcases l6 with l6 | l6
            · exact hdis k (by rw [← l6, hk]) he
            · have h1 := l6 k hk
              have h2 := own_lt h4.2.2.1 k he
              exact absurd h2 (Nat.not_lt.2 h1)
          rw [HGG.out, puts_got] at h6
          go_wp2
          go_roundg (gk - (nn).toNat)
          case measure => have := HG.out; omega
          case rel => exact ⟨i + 1, L + (nn).toNat, v6, vr, by have := HG.out; simp only [Hid]; omega, by have := HI.out; simp only [Hid]; omega, by go_num, h6, h6r, bb6, ss6, hd6⟩
    · have d3 : decide ((L : Int) < 8 * (xs.length : Int)) = false := decide_eq_false (by omega)
      have hLe : L = 8 * xs.length := by omega
      have HLe := Lib.hid hLe
      clear hLe hlt
      go_wp2_with fail
      refine (len_any B g vw _ L _ (by omega) (by exact hw)).mono ?_
      rintro e w' ⟨rfl, d', rfl⟩
      have d4 : ((L : Int) == 8 * (xs.length : Int)) = true := by rw [beq_iff_eq]; have := HLe.out; omega
      go_wp2_with fail
      refine (bytes_any B g vw _ L _ (by omega) (by exact hw)).mono ?_
      rintro e w5 ⟨v5, rfl, h5, b5⟩
      rw [HLe.out, byts_all xs HX.out] at h5
      go_wp2_with fail
      refine (same_yes v5 _ xs w5 (own_rds h5) ((HB0.out.below (by rw [← HBW.out]; exact pw_below_drewN bb _)).below b5)).mono ?_
      rintro e w' ⟨rfl, d5, rfl⟩
      go_wp2
      go_ret
      exact ⟨rfl, pw_below_drewN ((pw_below_drewN bb (d + d')).trans (Below.mono b5 ss)) _⟩

end Go.Proofs.Ytbpckacgdkikdaa
