/- The writer of bits: what each of its functions does, over the memory. 'IsWr' says that a writer lies in a block and holds so many bits of a number. -/
import Derived.Test.YtbpckacgdkikdaaProg
import Derived.Test.YtbpckacgdkikdaaFr
import Derived.Test.YtbpckacgdkikdaaBits
import Derived.WalkKit
import Derived.KernelRfl
import Derived.RowKit3
import Derived.Deep.LoopGhost
import Derived.Deep.QuietTactic
import Derived.BigQuiet
import Derived.WideLaws
import Derived.Deep.RegionHeld3
import Derived.Deep.RegionLaw
import Derived.Deep.AppendLies
import Derived.RegionTactic
import Derived.BigRegion
import Derived.WalkSpells
import Derived.Outline
import Derived.Lib.Hide
import Derived.Laws.BitsAllLaws
set_option linter.unusedVariables false
set_option linter.unusedSimpArgs false
namespace Go.Proofs.Ytbpckacgdkikdaa
open Go.RowKit Go.Proofs.YtbpckacgdkikdaaW.PrintWords Bits

theorem Try.info5 : (Try.prog.info? 5).map (fun i => (i.zero, i.size, i.bytes)) = some (some (.int .u8 0), 1, 1) := by kernel_rfl

/-- A writer at block g: L bits, the number N; v: its whole bytes. -/
def IsWr (W : World) (base g : Nat) (v : Value) (N L : Nat) : Prop :=
  W.heap[g]? = some (.cells #[.bool true, v, .int .u64 (rs N L : Int), .int .i64 ((L % 8 : Nat) : Int)] 56 (0, 0)) ∧ base ≤ g ∧ N < 2 ^ L ∧ W.ownsRow base 5 1 v (L / 8) ((wh N L).map (Value.int .u8))

theorem IsWr.ne {W : World} {base g : Nat} {v : Value} {N L : Nat} (h : IsWr W base g v N L) : v.ownBlock ≠ some g := by
  intro e
  obtain ⟨cells, hc⟩ := own_typed h.2.2.2 g e
  rw [h.1] at hc
  simp at hc
theorem IsWr.lt {W : World} {base g : Nat} {v : Value} {N L : Nat} (h : IsWr W base g v N L) : g < W.heap.size := blk_lt h.1
theorem IsWr.fr {S : Nat → Prop} {W W1 : World} {base g : Nat} {v : Value} {N L : Nat} (h : IsWr W base g v N L) (hf : Fr S W W1) (hg : ¬ S g) (hv : ∀ k, v.ownBlock = some k → ¬ S k) : IsWr W1 base g v N L :=
  ⟨hf.heap h.1 hg, h.2.1, h.2.2.1, hf.own h.2.2.2 hv⟩
theorem IsWr.below {W W1 : World} {base g : Nat} {v : Value} {N L : Nat} (h : IsWr W base g v N L) (hf : Below W.heap.size W W1) : IsWr W1 base g v N L := h.fr (Fr.of_below hf (fun _ => False)) (fun h => h) (fun _ _ h => h)

/-! ### NewWriter -/
set_option maxHeartbeats 400000 in
theorem newWriter_any (W : World) (base : Nat) (hb : base ≤ W.heap.size) :
    Calls Try.prog 10 #[] W fun e W' => ∃ g, e = .returned (.pointer (some ⟨g, 0, none⟩)) ∧ IsWr W' base g (.slice none 0 0) 0 0 ∧ Below W.heap.size W W' ∧ W.heap.size ≤ g := by
  go_enter Try.func10, Try.ntmps10
  go_wp2
  go_ret
  exact ⟨W.heap.size, rfl, ⟨by simpa [rs] using heap_alloc_new W _, hb, by decide, World.ownsRow_nil _ _ _ _⟩, (Below.refl _ _).alloc (Nat.le_refl _) _, Nat.le_refl _⟩

/-! ### Put -/
set_option maxHeartbeats 400000 in
set_option maxRecDepth 100000 in
/-- A length that may not be: nothing is done. -/
theorem put_no (g : Nat) (b : Bool) (x n : Int) (W : World) (hn : n < 0 ∨ 32 < n) (c0 : W.cell? ⟨g, 0, none⟩ = some (.bool b)) :
    Calls Try.prog 15 #[.pointer (some ⟨g, 0, none⟩), .int .u32 x, .int .i64 n] W fun e W' => e = .returned (.bool false) ∧ W = W' := by
  cases b
  · go_enter Try.func15, Try.ntmps15
    go_wp2
    go_ret
    exact ⟨rfl, rfl⟩
  · rcases hn with hn | hn
    · have h1 : decide (n < 0) = true := decide_eq_true hn
      go_enter Try.func15, Try.ntmps15
      go_wp2
      go_ret
      exact ⟨rfl, rfl⟩
    · have h1 : decide (n < 0) = false := decide_eq_false (by omega)
      have h2 : decide (32 < n) = true := decide_eq_true hn
      go_enter Try.func15, Try.ntmps15
      go_wp2
      go_ret
      exact ⟨rfl, rfl⟩

set_option maxHeartbeats 400000 in
/-- A writer that nobody made. -/
theorem put_unmade (g : Nat) (x n : Int) (W : World) (c0 : W.cell? ⟨g, 0, none⟩ = some (.bool false)) :
    Calls Try.prog 15 #[.pointer (some ⟨g, 0, none⟩), .int .u32 x, .int .i64 n] W fun e W' => e = .returned (.bool false) ∧ W = W' := by
  go_enter Try.func15, Try.ntmps15
  go_wp2
  go_ret
  exact ⟨rfl, rfl⟩

set_option maxHeartbeats 400000 in
/-- A writer that is not. -/
theorem put_nil (x n : Int) (W : World) :
    Calls Try.prog 15 #[.pointer none, .int .u32 x, .int .i64 n] W fun e W' => e = .returned (.bool false) ∧ W = W' := by
  go_enter Try.func15, Try.ntmps15
  go_wp2
  go_ret
  exact ⟨rfl, rfl⟩

/-- The loop of Put: j whole bytes have been taken off. -/
def PutRel (base g : Nat) (ws : List Int) (L8 R T : Nat) (v : Value) (W : World) (t : Nat) (w' : World) : Prop :=
  ∃ j v' q, Hid (8 * j + t = T ∧ q = R / 256 ^ j) ∧ w'.heap[g]? = some (.cells #[.bool true, v', .int .u64 (q : Int), .int .i64 (t : Int)] 56 (0, 0)) ∧
    w'.ownsRow base 5 1 v' (L8 + j) ((ws ++ leb R j).map (Value.int .u8)) ∧ Fr (fun k => k = g ∨ v.ownBlock = some k) W w' ∧ (v'.ownBlock = v.ownBlock ∨ ∀ k, v'.ownBlock = some k → W.heap.size ≤ k)

/-- What is put, as the walk spells it. -/
theorem put_or {r m n : Nat} {x : Int} (h1 : n ≤ 32) (hm : m < 8) (hr : r < 2 ^ m) (hx0 : 0 ≤ x) (hx : x < 4294967296) :
    bits BinOp.or IntKind.u64 (r : Int) (IntKind.u64.wrap (bits BinOp.and IntKind.u64 x (IntKind.u64.wrap (IntKind.u64.wrap (2 ^ n) - 1)) * 2 ^ m)) = ((r + x.toNat % 2 ^ n * 2 ^ m : Nat) : Int) := by
  obtain ⟨y, rfl⟩ := Int.eq_ofNat_of_zero_le hx0
  have hn : (2 : Nat) ^ n ≤ 2 ^ 32 := Nat.pow_le_pow_right (by decide) h1
  have hn0 : 0 < (2 : Nat) ^ n := Nat.two_pow_pos n
  have hm2 : (2 : Nat) ^ m ≤ 2 ^ 7 := Nat.pow_le_pow_right (by decide) (by omega)
  have hm0 : 0 < (2 : Nat) ^ m := Nat.two_pow_pos m
  have e1 : IntKind.u64.wrap (IntKind.u64.wrap (2 ^ n) - 1) = ((2 ^ n - 1 : Nat) : Int) := by
    have e0 : ((2 : Int) ^ n) = ((2 ^ n : Nat) : Int) := by simp
    rw [e0, IntKind.wrap_u64, IntKind.wrap_u64]
    omega
  rw [e1, u64_and_nat y _ (by omega) (by omega), Nat.and_two_pow_sub_one_eq_mod]
  have hy : y % 2 ^ n < 2 ^ n := Nat.mod_lt _ hn0
  have e2 : IntKind.u64.wrap (((y % 2 ^ n : Nat) : Int) * 2 ^ m) = ((y % 2 ^ n * 2 ^ m : Nat) : Int) := by
    have e0 : ((y % 2 ^ n : Nat) : Int) * 2 ^ m = ((y % 2 ^ n * 2 ^ m : Nat) : Int) := by simp
    have hb : y % 2 ^ n * 2 ^ m ≤ 2 ^ 32 * 2 ^ 7 := Nat.mul_le_mul (by omega) hm2
    rw [e0, IntKind.wrap_u64]
    omega
  have hb : y % 2 ^ n * 2 ^ m ≤ 2 ^ 32 * 2 ^ 7 := Nat.mul_le_mul (by omega) hm2
  rw [e2, u64_or_nat r _ (by omega) (by omega), Nat.or_comm, nat_join m _ _ (Nat.mul_mod_left _ _) hr, Nat.add_comm]
  simp

theorem put_step {base g : Nat} {ws : List Int} {L8 R T : Nat} {v : Value} {W wr w1 : World} {j gk q gg cap : Nat} {v' : Value} {q' t' : Int}
    (HJ : Hid (8 * j + gk = T ∧ q = R / 256 ^ j)) (hbr : wr.heap[g]? = some (.cells #[.bool true, v', .int .u64 (q : Int), .int .i64 (gk : Int)] 56 (0, 0)))
    (hfr : Fr (fun k => k = g ∨ v.ownBlock = some k) W wr) (hv : v'.ownBlock = v.ownBlock ∨ ∀ k, v'.ownBlock = some k → W.heap.size ≤ k) (hne : v'.ownBlock ≠ some g)
    (hown1 : w1.ownsRow base 5 1 (.slice (some ⟨gg, 0, none⟩) (L8 + j + 1) cap) (L8 + j + 1) ((ws ++ leb R j).map (Value.int .u8) ++ [.int .u8 (IntKind.u8.wrap (q : Int))]))
    (F1 : Fr (fun k => v'.ownBlock = some k) wr w1) (hat : v'.ownBlock = some gg ∨ gg = wr.heap.size + 1) (h8 : 8 ≤ gk) (hq' : q' = (q : Int) / 256) (ht' : t' = (gk : Int) - 8) :
    PutRel base g ws L8 R T v W (gk - 8) (((w1.setCell ⟨g, 1, none⟩ (.slice (some ⟨gg, 0, none⟩) (L8 + j + 1) cap)).setCell ⟨g, 2, none⟩ (.int .u64 q')).setCell ⟨g, 3, none⟩ (.int .i64 t')) := by
  obtain ⟨HJ1, HJ2⟩ := HJ.out
  have lg := blk_lt hbr
  have hb1 := F1.heap hbr hne
  have hgg : gg ≠ g := by
    rcases hat with h | h
    · intro e; exact hne (by rw [h, e])
    · omega
  have hW : W.heap.size ≤ wr.heap.size := hfr.size
  refine ⟨j + 1, .slice (some ⟨gg, 0, none⟩) (L8 + j + 1) cap, q / 256, ⟨by omega, by rw [HJ2, Nat.div_div_eq_div_mul, Nat.pow_succ]⟩, ?_, ?_, ?_, ?_⟩
  · have := blk_set (blk_set (blk_set hb1 1 (.slice (some ⟨gg, 0, none⟩) (L8 + j + 1) cap)) 2 (.int .u64 q')) 3 (.int .i64 t')
    rw [this]
    simp [hq', ht']
    omega
  · have e : (ws ++ leb R (j + 1)).map (Value.int .u8) = (ws ++ leb R j).map (Value.int .u8) ++ [.int .u8 (IntKind.u8.wrap (q : Int))] := by
      simp only [leb, List.map_append, List.map_cons, List.map_nil, List.append_assoc, IntKind.wrap_u8, HJ2]
      simp
    rw [e]
    refine own_move hown1 (fun k hk => ?_)
    have hk' : gg = k := by simpa [Value.ownBlock] using hk
    subst hk'
    exact (Below.heap_setCell _ _ _ _ hgg).trans ((Below.heap_setCell _ _ _ _ hgg).trans (Below.heap_setCell _ _ _ _ hgg))
  · refine Fr.set (Fr.set (Fr.set (hfr.trans F1 ?_) (.inl (.inl rfl)) _) (.inl (.inl rfl)) _) (.inl (.inl rfl)) _
    intro i hi
    rcases hv with h | h
    · exact .inl (.inr (h ▸ hi))
    · exact .inr (h i hi)
  · rcases hat with h | h
    · rcases hv with h2 | h2
      · exact .inl (by rw [← h2, h]; rfl)
      · refine .inr fun k hk => ?_
        have hk' : gg = k := by simpa [Value.ownBlock] using hk
        exact h2 k (by rw [h, hk'])
    · refine .inr fun k hk => ?_
      have hk' : gg = k := by simpa [Value.ownBlock] using hk
      omega

/-- What Put leaves. -/
def PutPost (base g : Nat) (v : Value) (N L : Nat) (W W' : World) : Prop :=
  ∃ v', IsWr W' base g v' N L ∧ Fr (fun k => k = g ∨ v.ownBlock = some k) W W' ∧ (v'.ownBlock = v.ownBlock ∨ ∀ k, v'.ownBlock = some k → W.heap.size ≤ k)

theorem put_end {base g : Nat} {v : Value} {N L n : Nat} {x : Int} {W wr : World} {t : Nat} (hN : N < 2 ^ L) (hg : base ≤ g) (h : PutRel base g (wh N L) (L / 8) (rs N L + x.toNat % 2 ^ n * 2 ^ (L % 8)) (L % 8 + n) v W t wr) (ht : t < 8) :
    PutPost base g v (puts N L x.toNat n) (L + n) W wr := by
  obtain ⟨j, v', q, HJ, hbr, hor, hfr, hv⟩ := h
  obtain ⟨HJ1, HJ2⟩ := HJ.out
  have hj : j = (L % 8 + n) / 8 := by omega
  refine ⟨v', ⟨?_, hg, puts_lt hN _ _, ?_⟩, hfr, hv⟩
  · rw [hbr, rs_puts_end hN, HJ2, hj, show t = (L + n) % 8 from by omega]
  · rw [wh_puts hN, ← hj, show (L + n) / 8 = L / 8 + j from by omega]
    exact hor

set_option maxHeartbeats 1600000 in
set_option maxRecDepth 100000 in
theorem put_nat (base g : Nat) (v : Value) (N L n : Nat) (x : Int) (W : World) (h1 : n ≤ 32) (hx0 : 0 ≤ x) (hx : x < 4294967296) (hL : L ≤ 8000000)
    (h : IsWr W base g v N L) (hbase : base ≤ W.heap.size) :
    Calls Try.prog 15 #[.pointer (some ⟨g, 0, none⟩), .int .u32 x, .int .i64 n] W fun e W' => e = .returned (.bool true) ∧ PutPost base g v (puts N L x.toNat n) (L + n) W W' := by
  obtain ⟨i0, hi, hz0, hz1, hz2⟩ := info_parts Try.info5
  have hne0 := h.ne
  obtain ⟨hb, hg, hN, ho⟩ := h
  have hr := rs_lt hN
  have hm : L % 8 < 8 := Nat.mod_lt _ (by decide)
  have hL8 : L / 8 ≤ 1000000 := by omega
  have HEnd : ∀ (t : Nat) (wr : World), PutRel base g (wh N L) (L / 8) (rs N L + x.toNat % 2 ^ n * 2 ^ (L % 8)) (L % 8 + n) v W t wr → t < 8 → PutPost base g v (puts N L x.toNat n) (L + n) W wr := fun t wr hh ht => put_end hN hg hh ht
  have HE := Lib.hid HEnd
  clear HEnd
  have HN := Lib.hid hN
  have HL := Lib.hid hL
  clear hN hL
  generalize hP : PutPost base g v (puts N L x.toNat n) (L + n) W = P at HE ⊢
  clear hP
  generalize wh N L = ws at *
  generalize rs N L = r at *
  generalize L / 8 = L8 at *
  generalize L % 8 = m at *
  have c0 : W.cell? ⟨g, 0, none⟩ = some (.bool true) := (blk_cell hb 0).trans rfl
  have c2 : W.cell? ⟨g, 2, none⟩ = some (.int .u64 (r : Int)) := (blk_cell hb 2).trans rfl
  have c3 : W.cell? ⟨g, 3, none⟩ = some (.int .i64 (m : Int)) := (blk_cell hb 3).trans rfl
  have f2 := blk_frozen hb 2
  have f3 := blk_frozen hb 3
  have HB := Lib.hid hb
  have HR := Lib.hid hr
  clear hb hr
  have t1 : decide ((n : Int) < 0) = false := decide_eq_false (by omega)
  have t2 : decide (32 < (n : Int)) = false := decide_eq_false (by omega)
  go_enter Try.func15, Try.ntmps15
  go_wp2
  go_region
  go_wp2
  clear c0 c2 c3 f2 f3
  go_loopg [54] (m + n) (fun t s w' => PutRel base g ws L8 (r + x.toNat % 2 ^ n * 2 ^ m) (m + n) v W t w')
  case atStart =>
    refine ⟨0, v, r + x.toNat % 2 ^ n * 2 ^ m, ⟨by omega, by simp⟩, ?_, ?_, ?_, .inl rfl⟩
    · refine (blk_drew (blk_set (blk_set HB.out 2 _) 3 _)).trans ?_
      rw [put_or h1 hm HR.out hx0 hx]
      rfl
    · simp only [leb, List.append_nil, Nat.add_zero]
      refine own_move ho (fun k hk => ?_)
      have hgk : k ≠ g := fun e => hne0 (by rw [hk, e])
      exact (Below.heap_setCell _ _ _ _ hgk).trans (Below.heap_setCell _ _ _ _ hgk)
    · exact Fr.drew (Fr.set (Fr.set (Fr.refl _ _) (.inl (.inl rfl)) _) (.inl (.inl rfl)) _)
  case round =>
    have hrel0 := Lib.hid hrel
    obtain ⟨j, v', q, HJ, hbr, hor, hfr, hv⟩ := hrel
    have c1 : wr.cell? ⟨g, 1, none⟩ = some v' := (blk_cell hbr 1).trans rfl
    have c2 : wr.cell? ⟨g, 2, none⟩ = some (.int .u64 (q : Int)) := (blk_cell hbr 2).trans rfl
    have c3 : wr.cell? ⟨g, 3, none⟩ = some (.int .i64 (gk : Int)) := (blk_cell hbr 3).trans rfl
    have f1 := blk_frozen hbr 1
    have f2 := blk_frozen hbr 2
    have f3 := blk_frozen hbr 3
    have HBR := Lib.hid hbr
    clear hbr
    have hgk : gk ≤ 39 := by have := HJ.out.1; omega
    have hjL : j ≤ 39 := by have := HJ.out.1; omega
    by_cases h8 : 8 ≤ gk
    · have d1 : decide (8 ≤ (gk : Int)) = true := decide_eq_true (by omega)
      have lg : g < wr.heap.size := blk_lt HBR.out
      have hbw : base ≤ wr.heap.size := Nat.le_trans hbase hfr.size
      have hne : v'.ownBlock ≠ some g := by
        intro e
        obtain ⟨cells, hc⟩ := own_typed hor g e
        have := HBR.out
        rw [hc] at this
        simp at this
      go_wp2
      go_region_law ((refine step_append_lies _ (by rfl) _ _ _ (by rfl) base 5 i0 _ 1 1 Try.underlying22 hi hz0 hz1 hz2 rfl (by omega) v' (L8 + j) _ (by rfl) ((hor.alloc _).drew) ⟨wr.heap.size, 0, none⟩ 1 1 [.int .u8 (IntKind.u8.wrap (q : Int))] (by rfl) (by rfl) (World.news_of_block (cs := #[.int .u8 (IntKind.u8.wrap (q : Int))]) (t := 5) (fr := (0, 0)) (heap_alloc_new wr _)) (by simp [Value.oneCell']) (by omega) (by unfold maxLen; omega) (by omega) (by simp; omega) (wr.heap.size + 1) (by simp) ?_; intro gg cap w1 hown1 hgrow hat hlt; have F1 : Fr (fun k => v'.ownBlock = some k) wr w1 := Fr.grown (Fr.drew (Fr.alloc (Fr.refl _ wr) _)) hgrow (fun k hk => Or.inl hk); have k1 := F1.cell c1 hne; have k2 := F1.cell c2 hne; have k3 := F1.cell c3 hne; have g1 := F1.frozen lg f1 hne; have g2 := F1.frozen lg f2 hne; have g3 := F1.frozen lg f3 hne))
      all_goals
        go_wp2
        go_roundg (gk - 8)
        case measure => omega
        case rel => exact put_step HJ HBR.out hfr hv hne hown1 F1 hat h8 (by first | rfl | omega | simp) (by first | rfl | omega | simp)
    · have d1 : decide (8 ≤ (gk : Int)) = false := decide_eq_false (by omega)
      go_wp2
      go_ret
      exact ⟨rfl, HE.out gk wr hrel0.out (by omega)⟩

theorem put_any (base g : Nat) (v : Value) (N L : Nat) (x n : Int) (W : World) (h0 : 0 ≤ n) (h1 : n ≤ 32) (hx0 : 0 ≤ x) (hx : x < 4294967296) (hL : L ≤ 8000000)
    (h : IsWr W base g v N L) (hbase : base ≤ W.heap.size) :
    Calls Try.prog 15 #[.pointer (some ⟨g, 0, none⟩), .int .u32 x, .int .i64 n] W fun e W' => e = .returned (.bool true) ∧ PutPost base g v (puts N L x.toNat n.toNat) (L + n.toNat) W W' := by
  obtain ⟨n, rfl⟩ := Int.eq_ofNat_of_zero_le h0
  exact put_nat base g v N L n x W (by omega) hx0 hx hL h hbase

end Go.Proofs.Ytbpckacgdkikdaa
