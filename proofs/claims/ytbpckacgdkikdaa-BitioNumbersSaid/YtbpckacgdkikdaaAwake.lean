/- The chapter's example ('awake'): it answers true, and leaves all memory that was there as it was. -/
import Derived.Test.YtbpckacgdkikdaaKit
set_option linter.unusedVariables false
set_option linter.unusedSimpArgs false
namespace Go.Proofs.Ytbpckacgdkikdaa
open Go.RowKit Go.Proofs.YtbpckacgdkikdaaW.PrintWords Bits

theorem bytes_8189 : byts 8189 13 = [253, 31] := by decide
theorem ofb_253 : ofb [253, 31] = 8189 := by decide

set_option maxHeartbeats 4000000 in
set_option maxRecDepth 100000 in
theorem awake_any (W : World) : Calls Try.prog 9 #[] W fun e W' => e = .returned (.bool true) ∧ Below W.heap.size W W' := by
  obtain ⟨B, hB⟩ : ∃ B, B = W.heap.size := ⟨_, rfl⟩
  rw [← hB]
  have HBW := Lib.hid hB
  clear hB
  go_enter Try.func9, Try.ntmps9
  go_wp2_with fail
  refine (newWriter_any _ B (by rw [HBW.out]; exact Nat.le_refl _)).mono ?_
  rintro e w1 ⟨g, rfl, h1, b1, _⟩
  have s1 : B ≤ w1.heap.size := by rw [HBW.out]; exact b1.size
  rw [← HBW.out] at b1
  go_wp2_with fail
  refine (put_any B g _ 0 0 5 3 _ (by decide) (by decide) (by decide) (by decide) (by decide) h1 s1).mono ?_
  rintro e w2 ⟨rfl, hp⟩
  obtain ⟨v2, h2, b2, s2⟩ := hp.next b1 s1 h1
  rw [show puts 0 0 (5 : Int).toNat (3 : Int).toNat = 5 from by decide, show 0 + (3 : Int).toNat = 3 from by decide] at h2
  clear hp
  go_wp2_with fail
  refine (put_any B g _ 5 3 1 1 _ (by decide) (by decide) (by decide) (by decide) (by decide) h2 s2).mono ?_
  rintro e w3 ⟨rfl, hp⟩
  obtain ⟨v3, h3, b3, s3⟩ := hp.next b2 s2 h2
  rw [show puts 5 3 (1 : Int).toNat (1 : Int).toNat = 13 from by decide, show 3 + (1 : Int).toNat = 4 from by decide] at h3
  clear hp
  go_wp2_with fail
  refine (put_any B g _ 13 4 511 9 _ (by decide) (by decide) (by decide) (by decide) (by decide) h3 s3).mono ?_
  rintro e w4 ⟨rfl, hp⟩
  obtain ⟨v4, h4, b4, s4⟩ := hp.next b3 s3 h3
  rw [show puts 13 4 (511 : Int).toNat (9 : Int).toNat = 8189 from by decide, show 4 + (9 : Int).toNat = 13 from by decide] at h4
  clear hp h1 h2 h3 b1 b2 b3 s1 s2 s3
  go_wp2_with fail
  refine (put_no g true 0 33 _ (by decide) ((blk_cell h4.1 0).trans rfl)).mono ?_
  rintro e w' ⟨rfl, rfl⟩
  go_wp2_with fail
  refine (put_no g true 0 (-1) _ (by decide) ((blk_cell h4.1 0).trans rfl)).mono ?_
  rintro e w' ⟨rfl, rfl⟩
  go_wp2_with fail
  refine (len_any B g v4 8189 13 _ (by decide) h4).mono ?_
  rintro e w' ⟨rfl, d, rfl⟩
  go_wp2_with fail
  refine (bytes_any B g v4 8189 13 (w4.drewN d) (by decide) h4).mono ?_
  rintro e w5 ⟨v5, rfl, h5, b5⟩
  rw [bytes_8189] at h5
  have b5' : Below w4.heap.size w4 w5 := ⟨b5.os, b5.tape, b5.output, b5.size, b5.block⟩
  have bb : Below B W w5 := b4.trans (b5'.mono s4)
  have s5 : B ≤ w5.heap.size := Nat.le_trans s4 b5'.size
  obtain ⟨gb, cap, rfl, _, _⟩ := h5.form (by decide)
  have r5 := own_rds (xs := [253, 31]) h5
  have k0 : w5.cell? ⟨gb, 0, none⟩ = some (.int .u8 253) := by
    have := h5.cells (g := gb) rfl 0 (.int .u8 253) rfl
    rwa [add_plain] at this
  have k1 : w5.cell? ⟨gb, 1, none⟩ = some (.int .u8 31) := by
    have := h5.cells (g := gb) rfl 1 (.int .u8 31) rfl
    rwa [add_plain] at this
  clear b5 b5' b4 s4 h4 h5
  go_wp2_with fail
  refine (newReader_any _ [253, 31] w5 r5 (by decide) (by decide)).mono ?_
  rintro e w6 ⟨gr, vr, rfl, h6, b6⟩
  have bb6 : Below B W w6 := bb.trans (b6.mono s5)
  have s6 : B ≤ w6.heap.size := Nat.le_trans s5 b6.size
  have h6 := h6.weaken s5
  clear bb b6 r5 k0 k1
  go_wp2_with fail
  refine (get_any B gr vr [253, 31] 0 3 w6 h6 (by decide) (by decide) (by decide)).mono ?_
  rintro e w7 ⟨rfl, h7, f7⟩
  obtain ⟨bb7, s7⟩ := f7.one bb6 s6 h6.2.1
  rw [show got (ofb [253, 31]) 0 (3 : Int).toNat = 5 from by decide]
  rw [show 0 + (3 : Int).toNat = 3 from by decide] at h7
  clear bb6 s6 h6 f7
  go_wp2_with fail
  refine (get_any B gr vr [253, 31] 3 1 w7 h7 (by decide) (by decide) (by decide)).mono ?_
  rintro e w8 ⟨rfl, h8, f8⟩
  obtain ⟨bb8, s8⟩ := f8.one bb7 s7 h7.2.1
  rw [show got (ofb [253, 31]) 3 (1 : Int).toNat = 1 from by decide]
  rw [show 3 + (1 : Int).toNat = 4 from by decide] at h8
  clear bb7 s7 h7 f8
  go_wp2_with fail
  refine (get_any B gr vr [253, 31] 4 9 w8 h8 (by decide) (by decide) (by decide)).mono ?_
  rintro e w9 ⟨rfl, h9, f9⟩
  obtain ⟨bb9, s9⟩ := f9.one bb8 s8 h8.2.1
  rw [show got (ofb [253, 31]) 4 (9 : Int).toNat = 511 from by decide]
  rw [show 4 + (9 : Int).toNat = 13 from by decide] at h9
  clear bb8 s8 h8 f9
  go_wp2_with fail
  refine (get_no B gr vr [253, 31] 13 4 w9 h9 (by decide)).mono ?_
  rintro e w' ⟨rfl, d9, rfl⟩
  go_wp2_with fail
  refine (get_any B gr vr [253, 31] 13 3 (w9.drewN d9) h9 (by decide) (by decide) (by decide)).mono ?_
  rintro e w10 ⟨rfl, h10, f10⟩
  obtain ⟨bb10, s10⟩ := f10.one (Below.trans bb9 (pw_below_drewN (Below.refl _ _) d9)) s9 h9.2.1
  rw [show got (ofb [253, 31]) 13 (3 : Int).toNat = 0 from by decide]
  rw [show 13 + (3 : Int).toNat = 16 from by decide] at h10
  clear bb9 s9 h9 f10
  go_wp2_with fail
  refine (left_any B gr vr [253, 31] 16 w10 h10).mono ?_
  rintro e w' ⟨rfl, d10, rfl⟩
  go_wp2_with fail
  refine (at_any gr 16 (w10.drewN d10) ((blk_cell h10.1 2).trans rfl)).mono ?_
  rintro e w' ⟨rfl, rfl⟩
  go_wp2
  go_ret
  refine ⟨rfl, ?_⟩
  exact pw_below_drewN bb10 _

end Go.Proofs.Ytbpckacgdkikdaa
