/- lz.Parse's closure 'length': how far two places of a row agree. -/
import Derived.Test.YtpjjiighojkagaaPut
set_option linter.unusedVariables false
set_option linter.unusedSimpArgs false
namespace Go.Proofs.Ytpjjiighojkagaa
open Go.RowKit Go.Maps Go.WideMaps Go.Proofs.YtpjjiighojkagaaW.PrintWords

structure LenIs (bs : List Int) (q p m : Nat) : Prop where
  top : m ≤ 258
  fits : p + m ≤ bs.length
  same : ∀ j, j < m → bs.getD (q + j) 0 = bs.getD (p + j) 0
  ends : m < 258 → p + m < bs.length → bs.getD (q + m) 0 ≠ bs.getD (p + m) 0

set_option maxHeartbeats 2000000 in
set_option maxRecDepth 100000 in
theorem len_any (q p gb : Nat) (v : Value) (bs : List Int) (W : World) (hb : W.heap[gb]? = some (.cells #[v] 25 (0, 0))) (hv : Rds W .u8 v bs) (hqp : q < p) (hp : p ≤ bs.length) (h64 : bs.length ≤ 65536) :
    Calls Try.prog 31 #[.int .i64 (q : Int), .int .i64 (p : Int), .pointer (some ⟨gb, 0, none⟩)] W (fun e W' => ∃ m d, LenIs bs q p m ∧ e = .returned (.int .i64 ((m : Nat) : Int)) ∧ W' = W.drewN d) := by
  have hbl : 0 < bs.length := by omega
  obtain ⟨A, c1, rfl, hc1, hc2, hr⟩ := hv
  obtain ⟨b, off, rfl, hblt, hcells⟩ := Rds.at_old (W := W) (A := A) (n := bs.length) (c := c1) (k := .u8) (bs := bs) ⟨A, c1, rfl, hc1, hc2, hr⟩ hbl
  have k1 := cell_of_one hb
  have HC := Lib.hid hcells
  clear hr hb hcells hc2
  go_enter Try.func31, Try.ntmps31
  go_wp2
  go_loopw [6] (fun v6 wr => ∃ (m d : Nat), m ≤ 258 ∧ p + m ≤ bs.length ∧ Hid (∀ j, j < m → bs.getD (q + j) 0 = bs.getD (p + j) 0) ∧ v6 = .int .i64 (m : Int) ∧ wr = W.drewN d) (fun v6 _ => 258 - (intOf v6).toNat)
  case atStart => exact ⟨0, 0, by omega, by omega, fun j h => absurd h (by omega), rfl, rfl⟩
  case round =>
    obtain ⟨m, d, h1, h2, h3, rfl, rfl⟩ := hrel
    have k2 : (W.drewN d).cell? ⟨gb, 0, none⟩ = some (.slice (some ⟨b, off, none⟩) bs.length c1) := k1
    generalize hWD : W.drewN d = wd at *
    have HWD := Lib.hid hWD
    clear hWD
    by_cases hA : m < 258
    · have s1 : decide ((m : Int) < 258) = true := decide_eq_true (by omega)
      by_cases hB : p + m < bs.length
      · have s2 : decide ((p : Int) + (m : Int) < (bs.length : Int)) = true := decide_eq_true (by omega)
        have x0 : wd.cell? ⟨b, off + (q + m), none⟩ = some (.int .u8 (bs.getD (q + m) 0)) := by rw [← HWD.out]; exact HC.out (q + m) (by omega)
        have x1 : wd.cell? ⟨b, off + (p + m), none⟩ = some (.int .u8 (bs.getD (p + m) 0)) := by rw [← HWD.out]; exact HC.out (p + m) (by omega)
        have y0 : (0 : Int) ≤ (q : Int) + (m : Int) := by omega
        have y1 : (q : Int) + (m : Int) < (bs.length : Int) := by omega
        have y2 : (0 : Int) ≤ (p : Int) + (m : Int) := by omega
        have y3 : (p : Int) + (m : Int) < (bs.length : Int) := by omega
        have y4 : ((q : Int) + (m : Int)).toNat = q + m := by omega
        have y5 : ((p : Int) + (m : Int)).toNat = p + m := by omega
        by_cases hE : bs.getD (q + m) 0 = bs.getD (p + m) 0
        · have hE' : (bs.getD (q + m) 0 == bs.getD (p + m) 0) = true := by rw [hE]; simp
          have HE := Lib.hid hE
          clear hE
          generalize hX : bs.getD (q + m) 0 = X at *
          generalize hY : bs.getD (p + m) 0 = Y at *
          have HX := Lib.hid hX
          have HY := Lib.hid hY
          clear hX hY
          go_wp2
          go_quiet (fail)
          go_wp2
          go_roundw
          case measure => simp [intOf]; omega
          case rel =>
            refine ⟨m + 1, _, by omega, by omega, ?_, by go_num, by rw [← HWD.out, World.drewN_drewN]⟩
            intro j hj
            by_cases h : j < m
            · exact h3 j h
            · rw [show j = m from by omega, HX.out, HY.out]; exact HE.out
        · have hE' : (bs.getD (q + m) 0 == bs.getD (p + m) 0) = false := beq_eq_false_iff_ne.2 hE
          have HE := Lib.hid hE
          clear hE
          generalize hX : bs.getD (q + m) 0 = X at *
          generalize hY : bs.getD (p + m) 0 = Y at *
          have HX := Lib.hid hX
          have HY := Lib.hid hY
          clear hX hY
          go_wp2
          go_quiet (fail)
          go_wp2
          go_ret
          exact ⟨m, _, ⟨h1, h2, h3, fun _ _ => by rw [HX.out, HY.out]; exact HE.out⟩, rfl, by rw [← HWD.out, World.drewN_drewN]⟩
      · have s2 : decide ((p : Int) + (m : Int) < (bs.length : Int)) = false := decide_eq_false (by omega)
        go_wp2
        go_quiet (fail)
        go_wp2
        go_ret
        exact ⟨m, _, ⟨h1, h2, h3, fun _ h => absurd h (by omega)⟩, rfl, by rw [← HWD.out, World.drewN_drewN]⟩
    · have s1 : decide ((m : Int) < 258) = false := decide_eq_false (by omega)
      go_wp2
      go_quiet (fail)
      go_wp2
      go_ret
      exact ⟨m, _, ⟨h1, h2, h3, fun h => absurd h hA⟩, rfl, by rw [← HWD.out, World.drewN_drewN]⟩

end Go.Proofs.Ytpjjiighojkagaa
