/- The chapter's example of lz ('awake'): it answers true, and leaves all memory that was there as it was. -/
import Derived.Test.YtpjjiighojkagaaParse
import Derived.Test.YtpjjiighojkagaaSame
set_option linter.unusedVariables false
set_option linter.unusedSimpArgs false
namespace Go.Proofs.Ytpjjiighojkagaa
open Go.RowKit Go.Proofs.YtpjjiighojkagaaW.PrintWords

theorem pies_lit (W : World) (ps : List Pie) (hok : ∀ p ∈ ps, p.ok) (h64 : ps.length ≤ 65536) : RdsQ (W.alloc (.cells (cellsQ ps).toArray 35)) (.slice (some ⟨W.heap.size, 0, none⟩) ps.length ps.length) ps := by
  have h := World.ownsRow_lit (base := 0) (e := 35) (size := 3) W (cellsQ ps).toArray ps.length (Nat.zero_le _) (by simp only [maxLen]; omega) (by simp [cellsQ_length])
  exact own_rdsQ (B := 0) (by simpa using h) hok rfl

set_option maxHeartbeats 400000 in
theorem one_any (c : Int) (W : World) : Calls Try.prog 15 #[.int .u8 c] W fun e W' => e = .returned (.agg #[.int .u8 c, .int .i64 0, .int .i64 0]) ∧ W' = W.alloc (.cells #[.int .u8 c, .int .i64 0, .int .i64 0] 35) := by
  go_enter Try.func15, Try.ntmps15
  go_wp2
  exact bodyPost_ret_by (results_cell_row (p := 2) (ty := 35) rfl _ _ W.heap.size 35 #[.int .u8 c, .int .i64 0, .int .i64 0] (0, 0) _ rfl (heap_alloc_new W _) Try.underlying35 rfl (by kernel_rfl)) rfl ⟨rfl, rfl⟩

set_option maxHeartbeats 400000 in
theorem match_any (n d : Int) (W : World) : Calls Try.prog 16 #[.int .i64 n, .int .i64 d] W fun e W' => e = .returned (.agg #[.int .u8 0, .int .i64 n, .int .i64 d]) ∧ W' = W.alloc (.cells #[.int .u8 0, .int .i64 n, .int .i64 d] 35) := by
  go_enter Try.func16, Try.ntmps16
  go_wp2
  exact bodyPost_ret_by (results_cell_row (p := 4) (ty := 35) rfl _ _ W.heap.size 35 #[.int .u8 0, .int .i64 n, .int .i64 d] (0, 0) _ rfl (heap_alloc_new W _) Try.underlying35 rfl (by kernel_rfl)) rfl ⟨rfl, rfl⟩

set_option maxHeartbeats 400000 in
theorem refused_any (v : Value) (ps : List Pie) (W : World) (h : RdsQ W v ps) (hn : expFold [] ps = none) : Calls Try.prog 25 #[v] W fun e W' => e = .returned (.bool true) ∧ Below W.heap.size W W' := by
  go_enter Try.func25, Try.ntmps25
  go_wp2_with fail
  refine (expand_any v ps W h).mono ?_
  rw [hn]
  rintro e w1 ⟨v1, rfl, ho, bb⟩
  have e0 : v1 = .slice none 0 0 ∨ ∃ A c, v1 = .slice A 0 c := .inr (own_slice ho)
  obtain ⟨A, c, rfl⟩ := own_slice ho
  simp only [Option.getD_none, List.length_nil, Option.isSome_none]
  clear e0 ho
  go_wp2
  go_ret
  exact ⟨rfl, bb⟩

theorem run_convert_mark (W : World) (g n c : Nat) (cs : Array Value) (fr : Nat × Nat) (h : W.heap[g]? = some (.cells cs 5 fr)) :
    (convert 25 25 (.slice (some ⟨g, 0, none⟩) n c)).run Try.prog W = .ok (.slice (some ⟨g, 0, none⟩) n c) (W.freeze ⟨g, cs.size, none⟩ 1) := by
  have hs : W.shape? g = some (5, cs.size) := by simp [World.shape?, h]
  simp [convert, run_underlying Try.underlying25, run_underlying Try.underlying5, markStringish, hs, Result.andThen]
theorem cell_freeze (W : World) (p a : Addr) (n : Nat) : (W.freeze p n).cell? a = W.cell? a := by
  by_cases hn : n = 0
  · simp [World.freeze, hn]
  simp only [World.freeze, if_neg hn, World.cell?, Array.getElem?_modify]
  by_cases hb : p.block = a.block
  · rw [if_pos hb]
    cases hx : W.heap[a.block]? with
    | none => rfl
    | some o => cases o <;> rfl
  · rw [if_neg hb]
theorem frz_below {B : Nat} {w W : World} (h : Below B w W) {p : Addr} (hp : B ≤ p.block) (hB : B ≤ W.heap.size) (n : Nat) : Below B w (W.freeze p n) := by
  by_cases hn : n = 0
  · simpa [World.freeze, hn] using h
  · refine h.trans ⟨?_, ?_, ?_, ?_, fun k hk => ?_⟩
    · simp [World.freeze, hn]
    · simp [World.freeze, hn]
    · simp [World.freeze, hn]
    · simp [World.freeze, hn]
    · simp only [World.freeze, if_neg hn, Array.getElem?_modify]
      rw [if_neg (by omega)]
theorem Rds.freeze {W : World} {k : IntKind} {v : Value} {xs : List Int} (h : Rds W k v xs) (p : Addr) (n : Nat) : Rds (W.freeze p n) k v xs := by
  obtain ⟨A, c, rfl, hc, h0, h1, h2, h3⟩ := h
  exact ⟨A, c, rfl, hc, h0, h1, h2, fun hp => by
    obtain ⟨ad, e, h4⟩ := h3 hp
    exact ⟨ad, e, fun j hj => (cell_freeze _ _ _ _).trans (h4 j hj)⟩⟩

def peat : List Int := [112, 101, 97, 116, 32, 112, 101, 97, 116, 32, 112, 101, 97, 116]

set_option maxHeartbeats 4000000 in
set_option maxRecDepth 100000 in
theorem awake_any (W : World) : Calls Try.prog 8 #[] W fun e W' => e = .returned (.bool true) ∧ Below W.heap.size W W' := by
  obtain ⟨B, hB⟩ : ∃ B, B = W.heap.size := ⟨_, rfl⟩
  rw [← hB]
  have HBW := Lib.hid hB
  have b0 : Below B W W := Below.refl _ _
  have s0 : B ≤ W.heap.size := by omega
  clear hB
  go_enter Try.func8, Try.ntmps8
  go_wp2_with fail
  refine (one_any 97 W).mono ?_
  rintro e w1 ⟨rfl, hw⟩
  obtain ⟨b1, s1⟩ : Below B W w1 ∧ B ≤ w1.heap.size := by rw [hw]; exact ⟨b0.alloc s0 _, by simp; omega⟩
  clear hw b0 s0
  go_wp2_with fail
  refine (one_any 98 w1).mono ?_
  rintro e w2 ⟨rfl, hw⟩
  obtain ⟨b2, s2⟩ : Below B W w2 ∧ B ≤ w2.heap.size := by rw [hw]; exact ⟨b1.alloc s1 _, by simp; omega⟩
  clear hw b1 s1
  go_wp2_with fail
  refine (match_any 5 2 w2).mono ?_
  rintro e w3 ⟨rfl, hw⟩
  obtain ⟨b3, s3⟩ : Below B W w3 ∧ B ≤ w3.heap.size := by rw [hw]; exact ⟨b2.alloc s2 _, by simp; omega⟩
  clear hw b2 s2
  have r4 : RdsQ (w3.alloc (.cells #[.int .u8 97, .int .i64 0, .int .i64 0, .int .u8 98, .int .i64 0, .int .i64 0, .int .u8 0, .int .i64 5, .int .i64 2] 35)) (.slice (some ⟨w3.heap.size, 0, none⟩) 3 3) [⟨97, 0, 0⟩, ⟨98, 0, 0⟩, ⟨0, 5, 2⟩] := pies_lit w3 [⟨97, 0, 0⟩, ⟨98, 0, 0⟩, ⟨0, 5, 2⟩] (by simp [Pie.ok]) (by decide)
  go_wp2_with fail
  obtain ⟨gs, hgs⟩ : ∃ gs, gs = w3.heap.size := ⟨_, rfl⟩
  rw [← hgs] at r4 ⊢
  generalize hW4 : w3.alloc _ = w4 at *
  obtain ⟨b4, s4⟩ : Below B W w4 ∧ B ≤ w4.heap.size := by rw [← hW4]; exact ⟨b3.alloc s3 _, by simp; omega⟩
  clear hW4 b3 s3 hgs
  refine (expand_any _ _ w4 r4).mono ?_
  rw [show expFold [] [⟨97, 0, 0⟩, ⟨98, 0, 0⟩, ⟨0, 5, 2⟩] = some [97, 98, 97, 98, 97, 98, 97] from by decide]
  rintro e w5 ⟨v5, rfl, ho5, bb5⟩
  have b5 : Below B W w5 := b4.trans (bb5.mono s4)
  have s5 : B ≤ w5.heap.size := Nat.le_trans s4 bb5.size
  have o5 : w5.ownsRow w4.heap.size 5 1 v5 7 (nums .u8 [97, 98, 97, 98, 97, 98, 97]) := ho5
  obtain ⟨A5, c5, rfl⟩ := own_slice o5
  simp only [Option.isSome_some]
  clear b4 s4 bb5 ho5 r4
  obtain ⟨cs, hcs⟩ : ∃ cs : Array Value, cs = #[.int .u8 112, .int .u8 101, .int .u8 97, .int .u8 116, .int .u8 32, .int .u8 112, .int .u8 101, .int .u8 97, .int .u8 116, .int .u8 32, .int .u8 112, .int .u8 101, .int .u8 97, .int .u8 116] := ⟨_, rfl⟩
  have hcz : cs.size = 14 := by rw [hcs]; rfl
  have r6 : Rds (w5.alloc (.cells cs 5)) .u8 (.slice (some ⟨w5.heap.size, 0, none⟩) 14 14) peat := by
    rw [hcs]
    exact own_rds (xs := peat) (own_lit w5 0 5 .u8 peat (Nat.zero_le _) (by decide))
  have hcv := run_convert_mark (w5.alloc (.cells cs 5)) w5.heap.size 14 14 cs (0, 0) (heap_alloc_new w5 _)
  rw [hcz] at hcv
  have r7 := r6.freeze ⟨w5.heap.size, 14, none⟩ 1
  rw [hcs] at hcv
  go_wp2_with fail
  generalize hW6 : (w5.alloc _).freeze _ 1 = w6
  have hw6 : w6 = (w5.alloc (.cells cs 5)).freeze ⟨w5.heap.size, 14, none⟩ 1 := by rw [hcs]; exact hW6.symm
  have q6 : Below w5.heap.size w5 w6 := by rw [hw6]; exact frz_below ((Below.refl _ _).alloc (Nat.le_refl _) _) (Nat.le_refl _) (by simp) 1
  rw [← hw6] at r7
  obtain ⟨g5, hg5⟩ : ∃ g5, g5 = w5.heap.size := ⟨_, rfl⟩
  rw [← hg5] at r7 q6 ⊢
  clear hW6 hw6 hcv r6 hcz hcs
  refine (parse_any _ peat w6 r7 (by unfold Byte peat; decide) (by decide)).mono ?_
  rintro e w7 ⟨v7, out, rfl, HO7, bb7, hPS⟩
  have s6 : g5 ≤ w6.heap.size := by rw [hg5]; rw [hg5] at q6; exact q6.size
  have q7 : Below g5 w5 w7 := q6.trans (bb7.mono s6)
  have s7 : g5 ≤ w7.heap.size := Nat.le_trans s6 bb7.size
  have hsay := hPS.says (base := []) (by decide)
  rw [List.take_length, List.nil_append] at hsay
  have hok := hPS.ok (by unfold Byte peat; decide) (by decide)
  have r8 := own_rdsQ HO7.out hok rfl
  obtain ⟨A7, c7, rfl⟩ := own_slice HO7.out
  have HR8 := Lib.hid r8
  clear r8 HO7 bb7 q6 s6 r7 hPS hok
  go_wp2_with fail
  refine (expand_any _ out w7 HR8.out).mono ?_
  rw [hsay]
  rintro e w8 ⟨v8, rfl, ho8, bb8⟩
  have q8 : Below g5 w5 w8 := q7.trans (bb8.mono s7)
  have s8 : g5 ≤ w8.heap.size := Nat.le_trans s7 bb8.size
  have o8 : w8.ownsRow w7.heap.size 5 1 v8 14 (nums .u8 peat) := ho8
  rw [hg5] at q8
  have o9 : w8.ownsRow w4.heap.size 5 1 (.slice A5 7 c5) 7 (nums .u8 [97, 98, 97, 98, 97, 98, 97]) := pw_own_below o5 q8
  have b8 : Below B W w8 := b5.trans (q8.mono s5)
  have s9 : B ≤ w8.heap.size := Nat.le_trans s5 q8.size
  obtain ⟨A8, c8, rfl⟩ := own_slice o8
  simp only [Option.isSome_some]
  have cv1 := own_string (P := Try.prog) (src := 25) (dst := 9) (e := 5) Try.underlying25 Try.underlying5 Try.underlying9 o9
  have cv2 := own_string (P := Try.prog) (src := 25) (dst := 9) (e := 5) Try.underlying25 Try.underlying5 Try.underlying9 o8
  rw [show strOfNums [97, 98, 97, 98, 97, 98, 97] = ⟨#[97, 98, 97, 98, 97, 98, 97]⟩ from by decide] at cv1
  rw [show strOfNums peat = ⟨#[112, 101, 97, 116, 32, 112, 101, 97, 116, 32, 112, 101, 97, 116]⟩ from by decide] at cv2
  clear o5 o8 o9 ho8 bb8 q7 s7 q8 s8 b5 s5 hsay hg5 HR8
  go_wp2_with fail
  refine (match_any 3 1 w8).mono ?_
  rintro e w11 ⟨rfl, hw⟩
  obtain ⟨b11, s11⟩ : Below B W w11 ∧ B ≤ w11.heap.size := by rw [hw]; exact ⟨b8.alloc s9 _, by simp; omega⟩
  clear hw b8 s9
  have r12 : RdsQ (w11.alloc (.cells #[.int .u8 0, .int .i64 3, .int .i64 1] 35)) (.slice (some ⟨w11.heap.size, 0, none⟩) 1 1) [⟨0, 3, 1⟩] := pies_lit w11 [⟨0, 3, 1⟩] (by simp [Pie.ok]) (by decide)
  go_wp2_with fail
  refine (refused_any _ _ _ r12 (by decide)).mono ?_
  rintro e w12 ⟨rfl, bb12⟩
  have b12 : Below B W w12 := (b11.alloc s11 _).trans (bb12.mono (by simp; omega))
  have s12 : B ≤ w12.heap.size := Nat.le_trans s11 (Nat.le_trans (by simp) bb12.size)
  clear bb12 r12 b11 s11
  go_wp2_with fail
  refine (one_any 97 w12).mono ?_
  rintro e w13 ⟨rfl, hw⟩
  obtain ⟨b13, s13⟩ : Below B W w13 ∧ B ≤ w13.heap.size := by rw [hw]; exact ⟨b12.alloc s12 _, by simp; omega⟩
  clear hw b12 s12
  go_wp2_with fail
  refine (match_any 2 1 w13).mono ?_
  rintro e w14 ⟨rfl, hw⟩
  obtain ⟨b14, s14⟩ : Below B W w14 ∧ B ≤ w14.heap.size := by rw [hw]; exact ⟨b13.alloc s13 _, by simp; omega⟩
  clear hw b13 s13
  have r15 : RdsQ (w14.alloc (.cells #[.int .u8 97, .int .i64 0, .int .i64 0, .int .u8 0, .int .i64 2, .int .i64 1] 35)) (.slice (some ⟨w14.heap.size, 0, none⟩) 2 2) [⟨97, 0, 0⟩, ⟨0, 2, 1⟩] := pies_lit w14 [⟨97, 0, 0⟩, ⟨0, 2, 1⟩] (by simp [Pie.ok]) (by decide)
  go_wp2_with fail
  refine (refused_any _ _ _ r15 (by decide)).mono ?_
  rintro e w15 ⟨rfl, bb15⟩
  have b15 : Below B W w15 := (b14.alloc s14 _).trans (bb15.mono (by simp; omega))
  have s15 : B ≤ w15.heap.size := Nat.le_trans s14 (Nat.le_trans (by simp) bb15.size)
  clear bb15 r15 b14 s14
  go_wp2_with fail
  refine (one_any 97 w15).mono ?_
  rintro e w16 ⟨rfl, hw⟩
  obtain ⟨b16, s16⟩ : Below B W w16 ∧ B ≤ w16.heap.size := by rw [hw]; exact ⟨b15.alloc s15 _, by simp; omega⟩
  clear hw b15 s15
  have r17 : RdsQ (w16.alloc (.cells #[.int .u8 97, .int .i64 0, .int .i64 0, .int .u8 1, .int .i64 3, .int .i64 1] 35)) (.slice (some ⟨w16.heap.size, 0, none⟩) 2 2) [⟨97, 0, 0⟩, ⟨1, 3, 1⟩] := pies_lit w16 [⟨97, 0, 0⟩, ⟨1, 3, 1⟩] (by simp [Pie.ok]) (by decide)
  go_wp2_with fail
  refine (refused_any _ _ _ r17 (by decide)).mono ?_
  rintro e w17 ⟨rfl, bb17⟩
  have b17 : Below B W w17 := (b16.alloc s16 _).trans (bb17.mono (by simp; omega))
  have s17 : B ≤ w17.heap.size := Nat.le_trans s16 (Nat.le_trans (by simp) bb17.size)
  clear bb17 r17 b16 s16
  go_wp2
  go_ret
  exact ⟨rfl, b17⟩

end Go.Proofs.Ytpjjiighojkagaa
