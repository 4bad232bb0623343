/- BitioNil: the walk. Writers and readers that are not, and such as nobody made, do and tell nothing. -/
import Derived.Test.YtbpckacgdkikdaaAwake
set_option linter.unusedVariables false
set_option linter.unusedSimpArgs false
namespace Go.Proofs.Ytbpckacgdkikdaa
open Go.RowKit Go.Proofs.YtbpckacgdkikdaaW.PrintWords Bits

def NilRel (W : World) (B G : Nat) (gk : Nat) (v7 : Value) (wr : World) : Prop :=
  ∃ i : Nat, Hid (gk + i = 2) ∧ v7 = .int .i64 (i : Int) ∧ wr.heap[G]? = some (.cells #[.bool false, .slice none 0 0, .int .u64 ((0 : Nat) : Int), .int .i64 ((0 : Nat) : Int)] 56 (0, 0)) ∧
    wr.heap[G + 1]? = some (.cells #[.pointer none, .pointer (some ⟨G, 0, none⟩)] 25 (0, 0)) ∧ wr.heap[G + 2]? = some (.cells #[.bool false, .slice none 0 0, .int .i64 0] 59 (0, 0)) ∧
    wr.heap[G + 3]? = some (.cells #[.pointer none, .pointer (some ⟨G + 2, 0, none⟩)] 27 (0, 0)) ∧ B ≤ G ∧ Below B W wr

set_option maxHeartbeats 3000000 in
set_option maxRecDepth 100000 in
theorem nil_walk (v n : Int) (W : World) : Calls Try.prog 6 #[.int .u32 v, .int .i64 n] W fun e W' => e = .returned (.bool true) ∧ Below W.heap.size W W' := by
  obtain ⟨B, hB⟩ : ∃ B, B = W.heap.size := ⟨_, rfl⟩
  rw [← hB]
  have HBW := Lib.hid hB
  clear hB
  go_enter Try.func6, Try.ntmps6
  go_wp2_with fail
  refine (awake_any _).mono ?_
  rintro e w1 ⟨rfl, b1⟩
  rw [← HBW.out] at b1
  have s1 : B ≤ w1.heap.size := by have := b1.size; rw [← HBW.out] at this; exact this
  go_wp2_with fail
  go_loopg [7] 2 (fun gk v7 wr => NilRel W B w1.heap.size gk v7 wr)
  case atStart =>
    refine ⟨0, rfl, rfl, ?_, ?_, ?_, ?_, s1, ?_⟩
    · simpa using blk_alloc (blk_alloc (blk_alloc (heap_alloc_new w1 _) _) _) _
    · have := blk_alloc (blk_alloc (heap_alloc_new (w1.alloc (.cells #[.bool false, .slice none 0 0, .int .u64 0, .int .i64 0] 56)) (.cells #[.pointer none, .pointer (some ⟨w1.heap.size, 0, none⟩)] 25)) (.cells #[.bool false, .slice none 0 0, .int .i64 0] 59)) (.cells #[.pointer none, .pointer (some ⟨w1.heap.size + 2, 0, none⟩)] 27)
      simpa using this
    · have := blk_alloc (heap_alloc_new ((w1.alloc (.cells #[.bool false, .slice none 0 0, .int .u64 0, .int .i64 0] 56)).alloc (.cells #[.pointer none, .pointer (some ⟨w1.heap.size, 0, none⟩)] 25)) (.cells #[.bool false, .slice none 0 0, .int .i64 0] 59)) (.cells #[.pointer none, .pointer (some ⟨w1.heap.size + 2, 0, none⟩)] 27)
      simpa using this
    · have := heap_alloc_new (((w1.alloc (.cells #[.bool false, .slice none 0 0, .int .u64 0, .int .i64 0] 56)).alloc (.cells #[.pointer none, .pointer (some ⟨w1.heap.size, 0, none⟩)] 25)).alloc (.cells #[.bool false, .slice none 0 0, .int .i64 0] 59)) (.cells #[.pointer none, .pointer (some ⟨w1.heap.size + 2, 0, none⟩)] 27)
      simpa using this
    · exact (((b1.alloc s1 _).alloc (by simp; omega) _).alloc (by simp; omega) _).alloc (by simp; omega) _
  case round =>
    clear b1
    obtain ⟨i, HI, rfl, h1, h2, h3, h4, hG, bb⟩ := hrel
    generalize w1.heap.size = G at *
    have hi : i = 0 ∨ i = 1 ∨ i = 2 := by have := HI.out; omega
    have k20 : wr.cell? ⟨G + 1, 0, none⟩ = some (.pointer none) := (blk_cell h2 0).trans rfl
    have k21 : wr.cell? ⟨G + 1, 1, none⟩ = some (.pointer (some ⟨G, 0, none⟩)) := (blk_cell h2 1).trans rfl
    have k40 : wr.cell? ⟨G + 3, 0, none⟩ = some (.pointer none) := (blk_cell h4 0).trans rfl
    have k41 : wr.cell? ⟨G + 3, 1, none⟩ = some (.pointer (some ⟨G + 2, 0, none⟩)) := (blk_cell h4 1).trans rfl
    have ss : B ≤ wr.heap.size := Nat.le_trans hG (Nat.le_of_lt (blk_lt h1))
    have H1 := Lib.hid h1
    have H2 := Lib.hid h2
    have H3 := Lib.hid h3
    have H4 := Lib.hid h4
    clear h1 h2 h3 h4
    rcases hi with rfl | rfl | rfl
    · go_wp2_with fail
      refine (align_nil _).mono ?_
      rintro e w' ⟨rfl, rfl⟩
      go_wp2_with fail
      refine (ralign_nil _).mono ?_
      rintro e w' ⟨rfl, rfl⟩
      go_wp2_with fail
      refine (get_nil n _).mono ?_
      rintro e w' ⟨rfl, rfl⟩
      go_wp2_with fail
      refine (put_nil v n _).mono ?_
      rintro e w' ⟨rfl, rfl⟩
      go_wp2_with fail
      refine (len_nil _).mono ?_
      rintro e w' ⟨rfl, rfl⟩
      go_wp2_with fail
      refine (bytes_nil _).mono ?_
      rintro e w' ⟨rfl, rfl⟩
      go_wp2_with fail
      refine (at_nil _).mono ?_
      rintro e w' ⟨rfl, rfl⟩
      go_wp2_with fail
      refine (left_nil _).mono ?_
      rintro e w' ⟨rfl, rfl⟩
      go_wp2
      go_roundg (gk - 1)
      case measure => have := HI.out; omega
      case rel => exact ⟨1, by have := HI.out; simp only [Hid]; omega, by go_num, H1.out, H2.out, H3.out, H4.out, hG, bb⟩
    · go_wp2_with fail
      refine (align_unmade G _ ((blk_cell H1.out 3).trans rfl)).mono ?_
      rintro e w' ⟨rfl, rfl⟩
      go_wp2_with fail
      refine (ralign_zero (G + 2) _ ((blk_cell H3.out 2).trans rfl) (blk_frozen H3.out 2)).mono ?_
      rintro e w2 ⟨rfl, hw2⟩
      have F2 : Fr (fun k => k = G + 2) wr w2 := by rw [hw2]; exact Fr.set (S := fun k => k = G + 2) (Fr.refl _ _) (.inl rfl) _
      have H3' : Hid (w2.heap[G + 2]? = some (.cells #[.bool false, .slice none 0 0, .int .i64 0] 59 (0, 0))) := by rw [hw2]; exact (blk_set H3.out 2 _).trans rfl
      have H1' := Lib.hid (F2.heap H1.out (by simp))
      have H2' := Lib.hid (F2.heap H2.out (by simp))
      have H4' := Lib.hid (F2.heap H4.out (by simp))
      have bb2 := (F2.one bb ss (by omega)).1
      have ss2 := (F2.one bb ss (by omega)).2
      have k21 : w2.cell? ⟨G + 1, 1, none⟩ = some (.pointer (some ⟨G, 0, none⟩)) := (blk_cell H2'.out 1).trans rfl
      have k41 : w2.cell? ⟨G + 3, 1, none⟩ = some (.pointer (some ⟨G + 2, 0, none⟩)) := (blk_cell H4'.out 1).trans rfl
      clear hw2 F2 H1 H2 H3 H4 k20 k40 ss bb
      go_wp2_with fail
      refine (get_unmade (G + 2) n _ ((blk_cell H3'.out 0).trans rfl)).mono ?_
      rintro e w' ⟨rfl, rfl⟩
      go_wp2_with fail
      refine (put_unmade G v n _ ((blk_cell H1'.out 0).trans rfl)).mono ?_
      rintro e w' ⟨rfl, rfl⟩
      go_wp2_with fail
      refine (len_cells G false none 0 0 0 0 w2 (by omega) (by omega) H1'.out).mono ?_
      rintro e w' ⟨rfl, d1, rfl⟩
      go_wp2_with fail
      refine (bytes_cells G false (.slice none 0 0) 0 0 [] (w2.drewN d1) (by decide) (by decide) (Rds.nil _ _) H1'.out).mono ?_
      rintro e w3 ⟨v3, rfl, h5, b3⟩
      obtain ⟨A3, c3, rfl⟩ := own_len h5
      have b3' : Below w2.heap.size w2 w3 := ⟨b3.os, b3.tape, b3.output, b3.size, b3.block⟩
      have H1'' := Lib.hid (blk_below H1'.out b3')
      have H2'' := Lib.hid (blk_below H2'.out b3')
      have H3'' := Lib.hid (blk_below H3'.out b3')
      have H4'' := Lib.hid (blk_below H4'.out b3')
      have bb3 : Below B W w3 := bb2.trans (b3'.mono ss2)
      have k41 : w3.cell? ⟨G + 3, 1, none⟩ = some (.pointer (some ⟨G + 2, 0, none⟩)) := (blk_cell H4''.out 1).trans rfl
      clear h5 b3 b3' bb2 ss2 k21
      go_wp2_with fail
      refine (at_any (G + 2) 0 _ ((blk_cell H3''.out 2).trans rfl)).mono ?_
      rintro e w' ⟨rfl, rfl⟩
      go_wp2_with fail
      refine (left_cells (G + 2) false none 0 0 0 w3 (by omega) (by omega) H3''.out).mono ?_
      rintro e w' ⟨rfl, d2, rfl⟩
      go_wp2
      go_roundg (gk - 1)
      case measure => have := HI.out; omega
      case rel => exact ⟨2, by have := HI.out; simp only [Hid]; omega, by go_num, H1''.out, H2''.out, H3''.out, H4''.out, hG, pw_below_drewN bb3 _⟩
    · go_wp2
      go_ret
      exact ⟨rfl, bb⟩

end Go.Proofs.Ytbpckacgdkikdaa
