/- BitioNumbers: the walk. It is a closed statement: loops over the two laws' own contracts. -/
import Derived.Test.YtbpckacgdkikdaaWrites
import Derived.Test.YtbpckacgdkikdaaReads
import Derived.IntWalk
set_option linter.unusedVariables false
set_option linter.unusedSimpArgs false
namespace Go.Proofs.Ytbpckacgdkikdaa
open Go.RowKit Go.Proofs.YtbpckacgdkikdaaW.PrintWords Bits

def cellsP (ps : List Pc) : List Value := ps.flatMap (fun p => [.int .u32 p.v, .int .i64 p.n, .bool p.al])
theorem cellsP_at : ∀ (ps : List Pc) (j : Nat) (h : j < ps.length), (cellsP ps)[j * 3]? = some (.int .u32 ps[j].v) ∧ (cellsP ps)[j * 3 + 1]? = some (.int .i64 ps[j].n) ∧ (cellsP ps)[j * 3 + 2]? = some (.bool ps[j].al)
  | p :: ps, 0, _ => ⟨rfl, rfl, rfl⟩
  | p :: ps, j + 1, h => by
    have ih := cellsP_at ps j (by simpa using h)
    have e : cellsP (p :: ps) = [.int .u32 p.v, .int .i64 p.n, .bool p.al] ++ cellsP ps := rfl
    rw [e]
    refine ⟨?_, ?_, ?_⟩
    · rw [List.getElem?_append_right (by simp; omega), show (j + 1) * 3 - ([.int .u32 p.v, .int .i64 p.n, .bool p.al] : List Value).length = j * 3 from by simp; omega]; exact ih.1
    · rw [List.getElem?_append_right (by simp; omega), show (j + 1) * 3 + 1 - ([.int .u32 p.v, .int .i64 p.n, .bool p.al] : List Value).length = j * 3 + 1 from by simp; omega]; exact ih.2.1
    · rw [List.getElem?_append_right (by simp; omega), show (j + 1) * 3 + 2 - ([.int .u32 p.v, .int .i64 p.n, .bool p.al] : List Value).length = j * 3 + 2 from by simp; omega]; exact ih.2.2
theorem pcs_lit (W : World) (ps : List Pc) (hok : ∀ p ∈ ps, p.ok) (h64 : ps.length ≤ 65536) : RdsP (W.alloc (.cells (cellsP ps).toArray 44)) (.slice (some ⟨W.heap.size, 0, none⟩) ps.length ps.length) ps := by
  refine ⟨_, _, rfl, Nat.le_refl _, fun h => by simp at h, by omega, hok, fun hp => ⟨_, rfl, fun j hj => ?_⟩⟩
  have hb := heap_alloc_new W (.cells (cellsP ps).toArray 44)
  obtain ⟨c0, c1, c2⟩ := cellsP_at ps j hj
  rw [add_plain, add_plain, add_plain]
  exact ⟨(blk_cell hb _).trans (by simpa using c0), (blk_cell hb _).trans (by simpa using c1), (blk_cell hb _).trans (by simpa using c2)⟩
theorem bytes_lit (W : World) (xs : List Int) (h64 : xs.length ≤ 65536) : Rds (W.alloc (.cells (nums .u8 xs).toArray 5)) .u8 (.slice (some ⟨W.heap.size, 0, none⟩) xs.length xs.length) xs :=
  own_rds (xs := xs) (own_lit W 0 5 .u8 xs (Nat.zero_le _) (by omega))

def wds : List Int := [0, 1, 4294967295, 2147483648, 2779096485]
def wdA : Array Value := #[.int .u32 0, .int .u32 1, .int .u32 4294967295, .int .u32 2147483648, .int .u32 2779096485]
theorem wdA_at (k : Nat) (h : k < 5) : wdA[k]? = some (.int .u32 (wds.getD k 0)) := by
  match k, h with
  | 0, _ => rfl
  | 1, _ => rfl
  | 2, _ => rfl
  | 3, _ => rfl
  | 4, _ => rfl
theorem wds_bd (k : Nat) : 0 ≤ wds.getD k 0 ∧ wds.getD k 0 < 4294967296 := by
  match k with
  | 0 => decide
  | 1 => decide
  | 2 => decide
  | 3 => decide
  | 4 => decide
  | _ + 5 => exact ⟨Int.le_refl 0, by show (0 : Int) < 4294967296; omega⟩

def farP : List Pc := [⟨0, 4611686018427387904, false⟩, ⟨0, -9223372036854775808, true⟩, ⟨0, 32, true⟩, ⟨0, 33, false⟩, ⟨0, 9, false⟩, ⟨0, 8, false⟩, ⟨0, 1, false⟩, ⟨0, 0, true⟩]

structure NI (B gW : Nat) (W w : World) : Prop where
  b : w.heap[gW]? = some (.cells wdA 31 (0, 0))
  bel : Below B W w
  ss : B ≤ w.heap.size
theorem NI.below {B gW : Nat} {W w w' : World} (h : NI B gW W w) (hb : Below w.heap.size w w') : NI B gW W w' :=
  ⟨(hb.block gW (blk_lt h.b)).trans h.b, h.bel.trans (hb.mono h.ss), Nat.le_trans h.ss hb.size⟩
theorem NI.cell {B gW : Nat} {W w : World} (h : NI B gW W w) {k : Nat} (hk : k < 5) : w.cell? ⟨gW, k, none⟩ = some (.int .u32 (wds.getD k 0)) := (blk_cell h.b k).trans (wdA_at k hk)

set_option maxHeartbeats 4000000 in
set_option maxRecDepth 100000 in
theorem numbers_walk (W : World) : Calls Try.prog 7 #[] W fun e W' => e = .returned (.bool true) ∧ Below W.heap.size W W' := by
  obtain ⟨B, hB⟩ : ∃ B, B = W.heap.size := ⟨_, rfl⟩
  rw [← hB]
  have HBW := Lib.hid hB
  clear hB
  go_enter Try.func7, Try.ntmps7
  go_upto_region 2 with fail
  obtain ⟨gW, hgW⟩ : ∃ gW, gW = W.heap.size := ⟨_, rfl⟩
  rw [← hgW]
  generalize hW1 : W.alloc _ = w1
  have n1 : NI B gW W w1 := ⟨by rw [← hW1, hgW]; exact heap_alloc_new W _, by rw [← hW1, HBW.out]; exact (Below.refl _ _).alloc (Nat.le_refl _) _, by rw [← hW1, HBW.out]; simp⟩
  have HN1 := Lib.hid n1
  clear hW1 hgW n1
  go_wp2_with fail
  go_loopg [2] 9 (fun gk v2 wr => ∃ a : Nat, Hid (gk + a = 9) ∧ v2 = .int .i64 (a : Int) ∧ a ≤ 9 ∧ Hid (NI B gW W wr))
  case atStart => exact ⟨0, by simp [Hid], rfl, by omega, HN1.out⟩
  case round =>
    clear HN1
    obtain ⟨a, HG, rfl, ha, HN⟩ := hrel
    by_cases hlt : a < 9
    · have t0 : (a : Int) < 9 := by omega
      go_wp2_with fail
      obtain ⟨gK, rfl⟩ : ∃ gK : Nat, gK = gk := ⟨_, rfl⟩
      obtain ⟨wo, rfl⟩ : ∃ wo : World, wo = wr := ⟨_, rfl⟩
      go_loopg [3] 36 (fun gk v3 wr => ∃ m : Int, Hid (gk + (m + 1).toNat = 36) ∧ v3 = .int .i64 m ∧ -1 ≤ m ∧ m ≤ 35 ∧ Hid (NI B gW W wr))
      case atStart => exact ⟨-1, by simp [Hid], rfl, by omega, by omega, HN.out⟩
      case round =>
        clear HN
        obtain ⟨m, HG2, rfl, hm0, hm1, HN⟩ := hrel
        by_cases hml : m < 35
        · go_wp2_with fail
          obtain ⟨gK2, rfl⟩ : ∃ gK2 : Nat, gK2 = gk := ⟨_, rfl⟩
          obtain ⟨wo2, rfl⟩ : ∃ wo2 : World, wo2 = wr := ⟨_, rfl⟩
          go_loopg [4] 5 (fun gk v4 wr => ∃ k : Nat, Hid (gk + k = 5) ∧ v4 = .int .i64 (k : Int) ∧ k ≤ 5 ∧ Hid (NI B gW W wr))
          case atStart => exact ⟨0, by simp [Hid], rfl, by omega, HN.out⟩
          case round =>
            clear HN
            obtain ⟨k, HG3, rfl, hk, HN⟩ := hrel
            by_cases hkl : k < 5
            · have t1 : (k : Int) < 5 := by omega
              have t2 : (0 : Int) ≤ (k : Int) := by omega
              obtain ⟨z, hz⟩ : ∃ z, z = ((k : Int) + 1).tmod 5 := ⟨_, rfl⟩
              have hze : z = ((k : Int) + 1) % 5 := by rw [hz, Int.tmod_eq_emod_of_nonneg (by omega)]
              have z0 : 0 ≤ z := by omega
              have z1 : z < 5 := by omega
              obtain ⟨kk, hkk0⟩ : ∃ kk, kk = z.toNat := ⟨_, rfl⟩
              have hkk : kk < 5 := by omega
              obtain ⟨c, hc⟩ : ∃ c : Bool, c = (((k : Int).tmod 2) == 1) := ⟨_, rfl⟩
              have k0 := HN.out.cell hkl
              have k1 := HN.out.cell hkk
              obtain ⟨x0, x1⟩ := wds_bd k
              obtain ⟨y0, y1⟩ := wds_bd kk
              generalize hx : wds.getD k 0 = x at *
              generalize hy : wds.getD kk 0 = y at *
              have HX := Lib.hid hx
              have HY := Lib.hid hy
              have HOK : Hid (∀ p ∈ ([⟨x, (a : Int), false⟩, ⟨x, m, false⟩, ⟨y, 7, c⟩] : List Pc), p.ok) := by
                simp only [Hid, List.mem_cons, List.not_mem_nil, or_false]
                rintro p (rfl | rfl | rfl)
                · exact ⟨x0, x1, by show _ ≤ (a : Int); omega, by show (a : Int) ≤ _; omega⟩
                · exact ⟨x0, x1, by show _ ≤ m; omega, by show m ≤ _; omega⟩
                · exact ⟨y0, y1, by show _ ≤ (7 : Int); omega, by show (7 : Int) ≤ _; omega⟩
              have e1 : IntKind.i64.wrap ((k : Int) + 1) = (k : Int) + 1 := IntWalk.i64_in _ (by omega)
              have m1 : ((k : Int) + 1).tmod 5 = z := hz.symm
              have m2 : (((k : Int).tmod 2) == 1) = c := hc.symm
              have m3 : z.toNat = kk := hkk0.symm
              clear hz hze hc hkk0 hx hy
              go_wp2_with fail
              refine wp_region_gen (S := fun w' => w'.cell? ⟨gW, k, none⟩ = some (.int .u32 x) ∧ w'.cell? ⟨gW, kk, none⟩ = some (.int .u32 y)) (by kernel_rfl) (fun _ _ _ _ _ h => h) ?_
              intro Q' HQP HQN
              change wpAnyH _ _ _ _ _ _ _ _ (wr.drewN 1)
              have hS : (fun w' : World => w'.cell? ⟨gW, k, none⟩ = some (.int .u32 x) ∧ w'.cell? ⟨gW, kk, none⟩ = some (.int .u32 y)) (wr.drewN 1) := ⟨k0, k1⟩
              refine wpAnyH_take (i := 0) (oi := ⟨some 22, _, _, _, _, none⟩) (v := ?_) rfl (by kernel_rfl) (by kernel_rfl) (by kernel_rfl) (fun c _ w h => HQP.out c _ _ _ w h) (Or.inl ⟨by rfl, ?v0⟩) hS ?_
              case v0 => (intro w hSw; (try dsimp only at hSw); obtain ⟨s0, s1⟩ := hSw; go_simp; try with_reducible rfl)
              try simp only [Act.put, List.setIfInBounds_toArray, List.set_cons_zero, List.set_cons_succ]
              refine wpAnyH_take (i := 1) (oi := ⟨some 23, _, _, _, _, none⟩) (v := ?_) rfl (by kernel_rfl) (by kernel_rfl) (by kernel_rfl) (fun c _ w h => HQP.out c _ _ _ w h) (Or.inl ⟨by rfl, ?v1⟩) hS ?_
              case v1 => (intro w hSw; (try dsimp only at hSw); obtain ⟨s0, s1⟩ := hSw; go_simp; try with_reducible rfl)
              try simp only [Act.put, List.setIfInBounds_toArray, List.set_cons_zero, List.set_cons_succ]
              refine wpAnyH_take (i := 2) (oi := ⟨some 24, _, _, _, _, none⟩) (v := ?_) rfl (by kernel_rfl) (by kernel_rfl) (by kernel_rfl) (fun c _ w h => HQP.out c _ _ _ w h) (Or.inl ⟨by rfl, ?v2⟩) hS ?_
              case v2 => (intro w hSw; (try dsimp only at hSw); obtain ⟨s0, s1⟩ := hSw; go_simp; try with_reducible rfl)
              try simp only [Act.put, List.setIfInBounds_toArray, List.set_cons_zero, List.set_cons_succ]
              refine wpAnyH_take (i := 3) (oi := ⟨some 25, _, _, _, _, none⟩) (v := ?_) rfl (by kernel_rfl) (by kernel_rfl) (by kernel_rfl) (fun c _ w h => HQP.out c _ _ _ w h) (Or.inl ⟨by rfl, ?v3⟩) hS ?_
              case v3 => (intro w hSw; (try dsimp only at hSw); obtain ⟨s0, s1⟩ := hSw; go_simp; try with_reducible rfl)
              try simp only [Act.put, List.setIfInBounds_toArray, List.set_cons_zero, List.set_cons_succ]
              refine wpAnyH_take (i := 4) (oi := ⟨some 26, _, _, _, _, none⟩) (v := ?_) rfl (by kernel_rfl) (by kernel_rfl) (by kernel_rfl) (fun c _ w h => HQP.out c _ _ _ w h) (Or.inl ⟨by rfl, ?v4⟩) hS ?_
              case v4 => (intro w hSw; (try dsimp only at hSw); obtain ⟨s0, s1⟩ := hSw; go_simp; try with_reducible rfl)
              try simp only [Act.put, List.setIfInBounds_toArray, List.set_cons_zero, List.set_cons_succ]
              refine wpAnyH_take (i := 5) (oi := ⟨some 27, _, _, _, _, none⟩) (v := ?_) rfl (by kernel_rfl) (by kernel_rfl) (by kernel_rfl) (fun c _ w h => HQP.out c _ _ _ w h) (Or.inl ⟨by rfl, ?v5⟩) hS ?_
              case v5 => (intro w hSw; (try dsimp only at hSw); obtain ⟨s0, s1⟩ := hSw; go_simp; try with_reducible rfl)
              try simp only [Act.put, List.setIfInBounds_toArray, List.set_cons_zero, List.set_cons_succ]
              refine wpAnyH_take (i := 6) (oi := ⟨some 28, _, _, _, _, none⟩) (v := ?_) rfl (by kernel_rfl) (by kernel_rfl) (by kernel_rfl) (fun c _ w h => HQP.out c _ _ _ w h) (Or.inl ⟨by rfl, ?v6⟩) hS ?_
              case v6 => (intro w hSw; (try dsimp only at hSw); obtain ⟨s0, s1⟩ := hSw; go_simp; try with_reducible rfl)
              try simp only [Act.put, List.setIfInBounds_toArray, List.set_cons_zero, List.set_cons_succ]
              refine wpAnyH_take (i := 7) (oi := ⟨some 29, _, _, _, _, none⟩) (v := ?_) rfl (by kernel_rfl) (by kernel_rfl) (by kernel_rfl) (fun c _ w h => HQP.out c _ _ _ w h) (Or.inl ⟨by rfl, ?v7⟩) hS ?_
              case v7 => (intro w hSw; (try dsimp only at hSw); obtain ⟨s0, s1⟩ := hSw; go_simp; try with_reducible rfl)
              try simp only [Act.put, List.setIfInBounds_toArray, List.set_cons_zero, List.set_cons_succ]
              refine wpAnyH_take (i := 8) (oi := ⟨some 30, _, _, _, _, none⟩) (v := ?_) rfl (by kernel_rfl) (by kernel_rfl) (by kernel_rfl) (fun c _ w h => HQP.out c _ _ _ w h) (Or.inl ⟨by rfl, ?v8⟩) hS ?_
              case v8 => (intro w hSw; (try dsimp only at hSw); obtain ⟨s0, s1⟩ := hSw; go_simp; try with_reducible rfl)
              try simp only [Act.put, List.setIfInBounds_toArray, List.set_cons_zero, List.set_cons_succ]
              refine wpAnyH_take (i := 9) (oi := ⟨some 31, _, _, _, _, none⟩) (v := ?_) rfl (by kernel_rfl) (by kernel_rfl) (by kernel_rfl) (fun c _ w h => HQP.out c _ _ _ w h) (Or.inl ⟨by rfl, ?v9⟩) hS ?_
              case v9 => (intro w hSw; (try dsimp only at hSw); obtain ⟨s0, s1⟩ := hSw; go_simp; try with_reducible rfl)
              try simp only [Act.put, List.setIfInBounds_toArray, List.set_cons_zero, List.set_cons_succ]
              refine wpAnyH_take (i := 10) (oi := ⟨some 32, _, _, _, _, none⟩) (v := ?_) rfl (by kernel_rfl) (by kernel_rfl) (by kernel_rfl) (fun c _ w h => HQP.out c _ _ _ w h) (Or.inl ⟨by rfl, ?v10⟩) hS ?_
              case v10 => (intro w hSw; (try dsimp only at hSw); obtain ⟨s0, s1⟩ := hSw; go_simp; try with_reducible rfl)
              try simp only [Act.put, List.setIfInBounds_toArray, List.set_cons_zero, List.set_cons_succ]
              refine wpAnyH_take (i := 11) (oi := ⟨some 33, _, _, _, _, none⟩) (v := ?_) rfl (by kernel_rfl) (by kernel_rfl) (by kernel_rfl) (fun c _ w h => HQP.out c _ _ _ w h) (Or.inl ⟨by rfl, ?v11⟩) hS ?_
              case v11 => (intro w hSw; (try dsimp only at hSw); obtain ⟨s0, s1⟩ := hSw; go_simp; try with_reducible rfl)
              try simp only [Act.put, List.setIfInBounds_toArray, List.set_cons_zero, List.set_cons_succ]
              refine wpAnyH_take (i := 12) (oi := ⟨some 34, _, _, _, _, none⟩) (v := ?_) rfl (by kernel_rfl) (by kernel_rfl) (by kernel_rfl) (fun c _ w h => HQP.out c _ _ _ w h) (Or.inl ⟨by rfl, ?v12⟩) hS ?_
              case v12 => (intro w hSw; (try dsimp only at hSw); obtain ⟨s0, s1⟩ := hSw; go_simp; try with_reducible rfl)
              try simp only [Act.put, List.setIfInBounds_toArray, List.set_cons_zero, List.set_cons_succ]
              refine wpAnyH_take (i := 13) (oi := ⟨some 35, _, _, _, _, none⟩) (v := ?_) rfl (by kernel_rfl) (by kernel_rfl) (by kernel_rfl) (fun c _ w h => HQP.out c _ _ _ w h) (Or.inl ⟨by rfl, ?v13⟩) hS ?_
              case v13 => (intro w hSw; (try dsimp only at hSw); obtain ⟨s0, s1⟩ := hSw; go_simp; try with_reducible rfl)
              try simp only [Act.put, List.setIfInBounds_toArray, List.set_cons_zero, List.set_cons_succ]
              refine wpAnyH_take (i := 14) (oi := ⟨some 36, _, _, _, _, none⟩) (v := ?_) rfl (by kernel_rfl) (by kernel_rfl) (by kernel_rfl) (fun c _ w h => HQP.out c _ _ _ w h) (Or.inl ⟨by rfl, ?v14⟩) hS ?_
              case v14 => (intro w hSw; (try dsimp only at hSw); obtain ⟨s0, s1⟩ := hSw; go_simp; try with_reducible rfl)
              try simp only [Act.put, List.setIfInBounds_toArray, List.set_cons_zero, List.set_cons_succ]
              refine wpAnyH_take (i := 15) (oi := ⟨some 37, _, _, _, _, none⟩) (v := ?_) rfl (by kernel_rfl) (by kernel_rfl) (by kernel_rfl) (fun c _ w h => HQP.out c _ _ _ w h) (Or.inl ⟨by rfl, ?v15⟩) hS ?_
              case v15 => (intro w hSw; (try dsimp only at hSw); obtain ⟨s0, s1⟩ := hSw; go_simp; try with_reducible rfl)
              try simp only [Act.put, List.setIfInBounds_toArray, List.set_cons_zero, List.set_cons_succ]
              refine wpAnyH_take (i := 16) (oi := ⟨some 38, _, _, _, _, none⟩) (v := ?_) rfl (by kernel_rfl) (by kernel_rfl) (by kernel_rfl) (fun c _ w h => HQP.out c _ _ _ w h) (Or.inl ⟨by rfl, ?v16⟩) hS ?_
              case v16 => (intro w hSw; (try dsimp only at hSw); obtain ⟨s0, s1⟩ := hSw; go_simp; try with_reducible rfl)
              try simp only [Act.put, List.setIfInBounds_toArray, List.set_cons_zero, List.set_cons_succ]
              refine wpAnyH_take (i := 17) (oi := ⟨some 39, _, _, _, _, none⟩) (v := ?_) rfl (by kernel_rfl) (by kernel_rfl) (by kernel_rfl) (fun c _ w h => HQP.out c _ _ _ w h) (Or.inl ⟨by rfl, ?v17⟩) hS ?_
              case v17 => (intro w hSw; (try dsimp only at hSw); obtain ⟨s0, s1⟩ := hSw; go_simp; try with_reducible rfl)
              try simp only [Act.put, List.setIfInBounds_toArray, List.set_cons_zero, List.set_cons_succ]
              refine wpAnyH_take (i := 18) (oi := ⟨some 40, _, _, _, _, none⟩) (v := ?_) rfl (by kernel_rfl) (by kernel_rfl) (by kernel_rfl) (fun c _ w h => HQP.out c _ _ _ w h) (Or.inl ⟨by rfl, ?v18⟩) hS ?_
              case v18 => (intro w hSw; (try dsimp only at hSw); obtain ⟨s0, s1⟩ := hSw; go_simp; try with_reducible rfl)
              try simp only [Act.put, List.setIfInBounds_toArray, List.set_cons_zero, List.set_cons_succ]
              refine wpAnyH_take (i := 19) (oi := ⟨some 41, _, _, _, _, none⟩) (v := ?_) rfl (by kernel_rfl) (by kernel_rfl) (by kernel_rfl) (fun c _ w h => HQP.out c _ _ _ w h) (Or.inl ⟨by rfl, ?v19⟩) hS ?_
              case v19 => (intro w hSw; (try dsimp only at hSw); obtain ⟨s0, s1⟩ := hSw; go_simp; try with_reducible rfl)
              try simp only [Act.put, List.setIfInBounds_toArray, List.set_cons_zero, List.set_cons_succ]
              refine wpAnyH_take (i := 20) (oi := ⟨some 42, _, _, _, _, none⟩) (v := ?_) rfl (by kernel_rfl) (by kernel_rfl) (by kernel_rfl) (fun c _ w h => HQP.out c _ _ _ w h) (Or.inl ⟨by rfl, ?v20⟩) hS ?_
              case v20 => (intro w hSw; (try dsimp only at hSw); obtain ⟨s0, s1⟩ := hSw; go_simp; try with_reducible rfl)
              try simp only [Act.put, List.setIfInBounds_toArray, List.set_cons_zero, List.set_cons_succ]
              refine wpAnyH_take (i := 21) (oi := ⟨some 43, _, _, _, _, none⟩) (v := ?_) rfl (by kernel_rfl) (by kernel_rfl) (by kernel_rfl) (fun c _ w h => HQP.out c _ _ _ w h) (Or.inl ⟨by rfl, ?v21⟩) hS ?_
              case v21 => (intro w hSw; (try dsimp only at hSw); obtain ⟨s0, s1⟩ := hSw; go_simp; try with_reducible rfl)
              try simp only [Act.put, List.setIfInBounds_toArray, List.set_cons_zero, List.set_cons_succ]
              refine wpAnyH_ready (rs := [22]) (by kernel_rfl) (by simp) ?_
              refine AllReadyH.cons (o := ⟨some 44, _, _, _, _, none⟩) rfl (fun K hK => ?_) AllReadyH.nil
              rw [if_pos (by rfl)]
              go_wp2_with fail
              generalize hA : World.alloc _ _ = w2
              have q2 : RdsP w2 (.slice (some ⟨wr.heap.size, 0, none⟩) 3 3) [⟨x, (a : Int), false⟩, ⟨x, m, false⟩, ⟨y, 7, c⟩] := by rw [← hA]; exact pcs_lit (wr.drewN 1) [⟨x, (a : Int), false⟩, ⟨x, m, false⟩, ⟨y, 7, c⟩] HOK.out (by simp)
              have n2 : NI B gW W w2 := by rw [← hA]; exact HN.out.below ((pw_below_drewN (Below.refl _ _) 1).alloc (Nat.le_refl _) _)
              clear hA
              have k0' := n2.cell hkl
              have k1' := n2.cell hkk
              rw [HX.out] at k0'
              rw [HY.out] at k1'
              have HN2 := Lib.hid n2
              have HQ2 := Lib.hid q2
              clear n2 q2
              clear hS
              have hS : (fun w' : World => w'.cell? ⟨gW, k, none⟩ = some (.int .u32 x) ∧ w'.cell? ⟨gW, kk, none⟩ = some (.int .u32 y)) (w2) := ⟨k0', k1'⟩
              refine hK.out _ _ hS (fun _ => ?_)
              try simp only [Act.put, List.setIfInBounds_toArray, List.set_cons_zero, List.set_cons_succ]
              refine wpAnyH_take (i := 23) (oi := ⟨some 5, _, _, _, _, none⟩) (v := ?_) rfl (by kernel_rfl) (by kernel_rfl) (by kernel_rfl) (fun c _ w h => HQP.out c _ _ _ w h) (Or.inl ⟨by rfl, ?v23⟩) hS ?_
              case v23 => (intro w hSw; (try dsimp only at hSw); obtain ⟨s0, s1⟩ := hSw; go_simp; try with_reducible rfl)
              try simp only [Act.put, List.setIfInBounds_toArray, List.set_cons_zero, List.set_cons_succ]
              refine wpAnyH_done (by kernel_rfl) ?_ _
              refine HQN.out _ _ ?_
              clear HQP HQN hS
              clear k0 k1 k1' m1 m2 m3 e1 z0 z1
              generalize wr.heap.size = gl at *
              go_wp2_with fail
              refine (writes_walk _ _ w2 HQ2.out).mono ?_
              rintro e w3 ⟨rfl, bb3⟩
              have HN3 := Lib.hid (HN2.out.below bb3)
              have HQ3 := Lib.hid (HQ2.out.below bb3)
              have k3 := HN3.out.cell hkl
              rw [HX.out] at k3
              clear bb3 k0'
              go_wp2_with fail
              have hr := bytes_lit w3 [x % 256, 60, (a : Int), 255, 0] (by simp)
              have hal : Below w3.heap.size w3 (w3.alloc (.cells (nums .u8 [x % 256, 60, (a : Int), 255, 0]).toArray 5)) := (Below.refl _ _).alloc (Nat.le_refl _) _
              have HQ4 := Lib.hid (HQ3.out.below hal)
              have HN4 := Lib.hid (HN3.out.below hal)
              have hbd : ∀ q ∈ [x % 256, 60, (a : Int), 255, 0], 0 ≤ q ∧ q < 256 := by
                intro q hq
                simp only [List.mem_cons, List.not_mem_nil, or_false] at hq
                omega
              clear hal k3
              refine (reads_walk _ _ _ _ _ hr HQ4.out hbd).mono ?_
              rintro e w4 ⟨rfl, b4⟩
              have HN5 := Lib.hid (HN4.out.below b4)
              clear b4 hr hbd
              go_wp2_with fail
              go_roundg (gk - 1)
              case measure => have := HG3.out; omega
              case rel => exact ⟨k + 1, by have := HG3.out; simp only [Hid]; omega, by go_num, by omega, HN5⟩
            · have hk5 : k = 5 := by omega
              have t1 : ¬ (k : Int) < 5 := by omega
              go_wp2_with fail
              go_roundg (gK2 - 1)
              case measure => have := HG2.out; omega
              case rel => exact ⟨m + 1, by have := HG2.out; simp only [Hid]; omega, by go_num, by omega, by omega, HN⟩
        · have t1 : ¬ m < 35 := hml
          go_wp2_with fail
          go_roundg (gK - 1)
          case measure => have := HG.out; omega
          case rel => exact ⟨a + 1, by have := HG.out; simp only [Hid]; omega, by go_num, by omega, HN⟩
    · have t0 : ¬ (a : Int) < 9 := by omega
      go_upto_region 15 with fail
      obtain ⟨gl, hgl⟩ : ∃ gl, gl = wr.heap.size := ⟨_, rfl⟩
      rw [← hgl]
      generalize hA : wr.alloc _ = w2
      have hq : RdsP w2 (.slice (some ⟨gl, 0, none⟩) 8 8) farP := by rw [← hA, hgl]; exact pcs_lit wr farP (by unfold farP; simp [Pc.ok]) (by decide)
      have hN2 : NI B gW W w2 := by rw [← hA]; exact HN.out.below ((Below.refl _ _).alloc (Nat.le_refl _) _)
      have HN2 := Lib.hid hN2
      have HQ2 := Lib.hid hq
      clear hq hN2 hA hgl
      go_wp2_with fail
      refine (writes_walk _ _ w2 HQ2.out).mono ?_
      rintro e w3 ⟨rfl, bb3⟩
      have HN3 := Lib.hid (HN2.out.below bb3)
      have HQ3 := Lib.hid (HQ2.out.below bb3)
      clear bb3
      go_wp2_with fail
      have hr := bytes_lit w3 [1, 2, 3, 4, 5] (by simp)
      have hal : Below w3.heap.size w3 (w3.alloc (.cells (nums .u8 [1, 2, 3, 4, 5]).toArray 5)) := (Below.refl _ _).alloc (Nat.le_refl _) _
      have HQ4 := Lib.hid (HQ3.out.below hal)
      have HN4 := Lib.hid (HN3.out.below hal)
      clear hal
      refine (reads_walk _ _ _ _ _ hr HQ4.out (by simp)).mono ?_
      rintro e w4 ⟨rfl, b4⟩
      have HN5 := Lib.hid (HN4.out.below b4)
      have HQ5 := Lib.hid (HQ4.out.below b4)
      clear b4 hr
      go_wp2_with fail
      refine (reads_walk _ _ [] _ w4 (Rds.nil _ _) HQ5.out (by simp)).mono ?_
      rintro e w5 ⟨rfl, b5⟩
      have HN6 := Lib.hid (HN5.out.below b5)
      clear b5
      go_wp2_with fail
      refine (awake_any w5).mono ?_
      rintro e w6 ⟨rfl, b6⟩
      have HN7 := Lib.hid (HN6.out.below b6)
      clear b6
      go_wp2
      go_ret
      exact ⟨rfl, HN7.out.bel⟩

end Go.Proofs.Ytbpckacgdkikdaa
