/- The document's number. -/
import Derived.Test.YtlagkfiafelnnaaDoorRefR
import Derived.Test.YtlagkfiafelnnaaDoorNum
import Derived.Test.YtlagkfiafelnnaaDoorSame
set_option linter.unusedVariables false
set_option linter.unusedSimpArgs false
namespace Go.Proofs.YtlagkfiafelnnaaDoor
open Go.RowKit Go.Proofs.YtlagkfiafelnnaaDoorW.PrintWords

set_option maxHeartbeats 2000000 in
set_option maxRecDepth 100000 in
theorem rnum_any (n : Int) (k : Nat) (W : World) (hk0 : 1 ≤ k) (hk : k ≤ 8) :
    Calls Tryd.prog 40 #[.int .i64 n, .int .i64 (k : Int)] W fun e W' => ∃ v, e = .returned v ∧ W'.ownsRow W.heap.size 5 1 v k (nums .u8 (num k n)) ∧ Below W.heap.size W W' := by
  obtain ⟨B, hB⟩ : ∃ B, B = W.heap.size := ⟨_, rfl⟩
  rw [← hB]
  have HB := Lib.hid hB
  clear hB
  have b0 : Hid (Below B W W) := Below.refl _ _
  go_enter Tryd.func40, Tryd.ntmps40
  go_wp2
  go_loopw [6, 5] (fun v6 v5 wr => ∃ j : Nat, v6 = .int .i64 ((k : Int) - 1 - (j : Int)) ∧ j ≤ k ∧ Hid (wr.ownsRow B 5 1 v5 j (nums .u8 ((num k n).take j))) ∧ Hid (Below B W wr)) (fun v6 _ _ => ((intOf v6) + 1).toNat)
  case atStart => exact ⟨0, by simp, by omega, World.ownsRow_nil _ _ _ _, b0⟩
  case round =>
    obtain ⟨j, rfl, hj, HO, HBE⟩ := hrel
    obtain ⟨A5, n5, c5, hv5⟩ : ∃ A5 n5 c5, u5 = .slice A5 n5 c5 := by obtain ⟨A, c, e⟩ := own_slice HO.out; exact ⟨A, _, c, e⟩
    subst hv5
    by_cases hlt2 : j < k
    · obtain ⟨q, hq⟩ : ∃ q : Nat, k = q + 1 + j := ⟨k - 1 - j, by omega⟩
      have eq1 : (k : Int) - 1 - (j : Int) = (q : Int) := by omega
      rw [eq1]
      have z2 : (0 : Int) ≤ (q : Int) := by omega
      have z3 : (q : Int) < 8 := by omega
      have HQ := Lib.hid hq
      have ws : IntKind.i64.wrap (8 * (q : Int)) = 8 * (q : Int) := IntWalk.i64_in _ (by omega)
      have ws0 : (0 : Int) ≤ 8 * (q : Int) := by omega
      clear eq1 hq
      obtain ⟨c, hc2⟩ : ∃ c, c = n / 2 ^ (8 * q) % 256 := ⟨_, rfl⟩
      obtain ⟨xs, hxs⟩ : ∃ xs, xs = (num k n).take j := ⟨_, rfl⟩
      have hcn : (num k n).take (j + 1) = xs ++ [c] := by
        rw [hxs, List.take_succ_eq_append_getElem (by rw [num_length]; exact hlt2)]
        congr 2
        simp only [num, List.getElem_map, List.getElem_range]
        rw [hc2, Int.pow_mul, show k - 1 - j = q from by have := HQ.out; omega]
        rfl
      have hxl : xs.length = j := by rw [hxs, List.length_take, num_length]; omega
      have HCN := Lib.hid hcn
      rw [← hxs] at HO
      clear hcn hxs
      have HO2 : Hid ((wr.alloc (.cells #[.int .u8 c] 5)).ownsRow B 5 1 (.slice A5 n5 c5) xs.length (nums .u8 xs)) := by simp only [Hid]; rw [hxl]; exact HO.out.alloc _
      have HR2 : Hid (ReadsInt (wr.alloc (.cells #[.int .u8 c] 5)) .u8 (some ⟨wr.heap.size, 0, none⟩) 1 [c]) := by
        have := own_lit wr 0 5 .u8 [c] (Nat.zero_le _) (by simp)
        obtain ⟨A, c', e, h⟩ := own_reads this
        injection e with e1
        rw [e1]
        exact h
      have HB2 : Hid (Below B W (wr.alloc (.cells #[.int .u8 c] 5))) := HBE.out.alloc (by rw [HB.out]; exact Nat.le_trans (Nat.le_of_eq rfl) (by have := HBE.out.size; omega)) _
      have hs2 : Hid (B ≤ (wr.alloc (.cells #[.int .u8 c] 5)).heap.size) := by simp only [Hid]; rw [HB.out]; exact HB2.out.size
      have HXL := Lib.hid hxl
      rw [hc2] at HO2 HR2 HB2 hs2
      have HC2 := Lib.hid hc2
      clear hc2 hxl HO HBE
      go_wp2_with (at_builtin; refine print_append_row (w0 := W) B rfl _ _ 30 5 .u8 1 rfl Tryd.underlying30 infoByte (by decide) (.slice A5 n5 c5) xs [n / 2 ^ (8 * q) % 256] (some ⟨wr.heap.size, 0, none⟩) 1 1 rfl rfl HO2.out HR2.out HB2.out hs2.out (by simp; have := HXL.out; omega) ?_)
      intro v1 w1 ho1 hb1 _ _
      have HO1 : Hid (w1.ownsRow B 5 1 v1 (j + 1) (nums .u8 ((num k n).take (j + 1)))) := by
        simp only [Hid]; rw [HCN.out, HC2.out, ← HXL.out]; exact ho1
      have HB1 := Lib.hid hb1
      clear ho1 hb1
      go_wp2
      go_roundw
      case rel => exact ⟨j + 1, by have := HQ.out; congr 1; omega, by omega, HO1.out, HB1.out⟩
      case measure => simp [intOf]
    · obtain rfl : j = k := by omega
      have HO1 : Hid (wr.ownsRow B 5 1 (.slice A5 n5 c5) j (nums .u8 (num j n))) := by have := HO.out; rwa [List.take_of_length_le (by rw [num_length]; omega)] at this
      have eq1 : (j : Int) - 1 - (j : Int) = -1 := by omega
      rw [eq1]
      clear eq1
      go_wp2
      go_ret
      exact ⟨_, rfl, HO1.out, HBE.out⟩
end Go.Proofs.YtlagkfiafelnnaaDoor
