/- op.within, op.write, op.Right, and the document's: whether an op is right. -/
import Derived.Test.YtlagkfiafelnnaaDoorMap
import Derived.Test.YtlagkfiafelnnaaDoorAllo
import Derived.Laws.Entries
import Derived.IntWalk
set_option linter.unusedVariables false
set_option linter.unusedSimpArgs false
namespace Go.Proofs.YtlagkfiafelnnaaDoor
open Go.RowKit Go.Proofs.YtlagkfiafelnnaaDoorW.PrintWords

theorem within_any (n a b : Int) (W : World) : Calls Tryd.prog 30 #[.int .i64 n, .int .i64 a, .int .i64 b] W fun e W' => e = .returned (.bool (within n a b)) ∧ W = W' := by
  by_cases h1 : a ≤ n
  · by_cases h2 : n ≤ b
    · have d1 : decide (a ≤ n) = true := decide_eq_true h1
      have d2 : decide (n ≤ b) = true := decide_eq_true h2
      go_enter Tryd.func30, Tryd.ntmps30
      go_wp2
      go_ret
      exact ⟨by simp [within, h1, h2], rfl⟩
    · have d1 : decide (a ≤ n) = true := decide_eq_true h1
      have d2 : decide (n ≤ b) = false := decide_eq_false h2
      go_enter Tryd.func30, Tryd.ntmps30
      go_wp2
      go_ret
      exact ⟨by simp [within, h1, h2], rfl⟩
  · have d1 : decide (a ≤ n) = false := decide_eq_false h1
    go_enter Tryd.func30, Tryd.ntmps30
    go_wp2
    go_ret
    exact ⟨by simp [within]; omega, rfl⟩

theorem size64 : (Tryd.prog.info? 64).map (·.size) = some 36 := by kernel_rfl
theorem size62 : (Tryd.prog.info? 62).map (·.size) = some 4 := by kernel_rfl
theorem size60 : (Tryd.prog.info? 60).map (·.size) = some 32 := by kernel_rfl
theorem size72 : (Tryd.prog.info? 72).map (·.size) = some 35 := by kernel_rfl
theorem zero64 : (Tryd.prog.info? 64).map (fun i => (i.zero.map (·.cells.size), i.size)) = some (some 36, 36) := by kernel_rfl
theorem zero72 : (Tryd.prog.info? 72).map (fun i => (i.zero.map (·.cells.size), i.size)) = some (some 35, 35) := by kernel_rfl
theorem zero62 : (Tryd.prog.info? 62).map (fun i => (i.zero.map (·.cells.size), i.size)) = some (some 4, 4) := by kernel_rfl
theorem Fre.one (f : Fre) : ∀ v ∈ f.cells, v.oneCell' = true := by
  intro v hv
  simp only [Fre.cells, List.mem_append, List.mem_map, List.mem_cons, List.not_mem_nil, or_false] at hv
  rcases hv with ⟨x, _, rfl⟩ | rfl | rfl | rfl | rfl <;> rfl
theorem Pu.one (f : Pu) : ∀ v ∈ f.cells, v.oneCell' = true := by
  intro v hv
  simp only [Pu.cells, List.mem_append, List.mem_map, List.mem_cons, List.not_mem_nil, or_false] at hv
  rcases hv with rfl | ⟨x, _, rfl⟩ | rfl | rfl <;> rfl
def cnt (seen : List (List Int)) : List Int → Nat := fun k => seen.count k

/-- op.write, on its way: i extents are right, none of their keys stands twice. -/
structure WriteRel (o : OpV) (vN vP : Value) (B gO gM : Nat) (W : World) (i : Nat) (seen : List (List Int)) (wr : World) : Prop where
  hi : i ≤ o.news.length
  hs : seen.length = i
  ok : newsOk [] o.news = newsOk seen (o.news.drop i)
  nd : seen.Nodup
  bO : wr.heap[gO]? = some (.cells #[.int .u8 o.kind, .int .i64 o.at_, .int .i64 o.n, .int .i64 o.snap, vN, vP] 26 (0, 0))
  m : IsM wr gM i (cnt seen)
  bel : Below B W wr

set_option maxHeartbeats 2000000 in
set_option maxRecDepth 1000000 in
theorem write_any (o : OpV) (vN vP : Value) (W : World) (hN : RdsF W vN o.news) (hP : RdsP W vP o.puts) (hl : o.news.length ≤ 100000) (hl2 : o.puts.length ≤ 100000) :
    Calls Tryd.prog 29 #[opVal o vN vP] W fun e W' => e = .returned (.bool (writeOk o)) ∧ Below W.heap.size W W' := by
  obtain ⟨B, hB⟩ : ∃ B, B = W.heap.size := ⟨_, rfl⟩
  rw [← hB]
  obtain ⟨AN, cN, rfl, n1, n2⟩ := hN.form
  obtain ⟨AP, cP, rfl, p1, p2⟩ := hP.form
  have HN := Lib.hid hN
  have HP := Lib.hid hP
  have HB := Lib.hid hB
  have hmm := @run_makeMap Tryd.prog
  clear hN hP hB
  unfold opVal
  go_enter Tryd.func29, Tryd.ntmps29
  go_wp2
  generalize hW1 : World.alloc _ _ = W1
  have hb1 : W1.heap[W.heap.size]? = some (.cells #[.int .u8 o.kind, .int .i64 o.at_, .int .i64 o.n, .int .i64 o.snap, .slice AN o.news.length cN, .slice AP o.puts.length cP] 26 (0, 0)) := by
    rw [← hW1]; exact blk_alloc (heap_alloc_new W _) _
  have hm1 : IsM W1 (W.heap.size + 1) 0 (cnt []) := by
    rw [← hW1]
    have := IsM.made (W.alloc (.cells #[.int .u8 o.kind, .int .i64 o.at_, .int .i64 o.n, .int .i64 o.snap, .slice AN o.news.length cN, .slice AP o.puts.length cP] 26))
    rw [show cnt [] = fun _ => 0 from by funext k; simp [cnt]]
    simpa using this
  have bel1 : Below B W W1 := by rw [← hW1, HB.out]; exact ((Below.refl _ _).alloc (Nat.le_refl _) _).alloc (by simp) _
  clear hW1
  have hgO : W.heap.size = B := HB.out.symm
  rw [hgO] at hb1 hm1 ⊢
  clear hgO
  have R1 : WriteRel o (.slice AN o.news.length cN) (.slice AP o.puts.length cP) B B (B + 1) W 0 [] W1 := ⟨by omega, rfl, rfl, List.nodup_nil, hb1, hm1, bel1⟩
  have HR1 := Lib.hid R1
  clear hb1 hm1 bel1 R1
  go_wp2
  go_loopw [14] (fun v14 wr => ∃ (i : Nat) (seen : List (List Int)), v14 = .int .i64 (i : Int) ∧ WriteRel o (.slice AN o.news.length cN) (.slice AP o.puts.length cP) B B (B + 1) W i seen wr) (fun v14 _ => o.news.length - (intOf v14).toNat)
  case atStart => exact ⟨0, [], rfl, HR1.out⟩
  case round =>
    clear HR1
    obtain ⟨i, seen, rfl, R⟩ := hrel
    have HR := Lib.hid R
    obtain ⟨r1, r2, r3, r4, r5, r6, r7⟩ := R
    clear r2 r3 r4 r5 r6
    have bel0 : Below W.heap.size W wr := by rw [← HB.out]; exact r7
    by_cases hlt : i < o.news.length
    · obtain ⟨b, off, rfl, hbl, hr⟩ := HN.out.at_ (by omega)
      have hri : wr.rangeAt b (off + i * 36) o.news[i].cells := fun j v hj => pw_cell_below bel0 (hr i hlt j v hj)
      have hw := HN.out.2 _ (List.getElem_mem hlt)
      have hstep : newsOk seen (o.news.drop i) = (freOk o.news[i] && !(seen.contains o.news[i].key) && newsOk (o.news[i].key :: seen) (o.news.drop (i + 1))) := by
        rw [List.drop_eq_getElem_cons hlt]; rfl
      generalize o.news[i] = f at hri hw hstep
      have HS := Lib.hid hstep
      have HRI := Lib.hid hri
      have hs1 : (Tryd.prog.info? 64).map (·.size) = some f.cells.length := by rw [hw.len]; exact size64
      have z1 : (i : Int) < (o.news.length : Int) := by omega
      clear hr hri hstep r7 bel0
      have HHS := Lib.hid hs1
      clear hs1
      go_upto_region 5 with (first | refine wpList_load_mid rfl 64 _ rfl b (off + i * 36) rfl f.cells _ HRI.out Tryd.underlying64 rfl HHS.out ?_ | refine wpList_alloc_store rfl rfl 64 rfl 5 rfl (.tmp 17) rfl rfl 36 zero64 f.cells.toArray (by simp [hw.len]) rfl rfl (all_oneCell_toArray f.one) ?_)
      obtain ⟨g5, hg5⟩ : ∃ g5, g5 = wr.heap.size := ⟨_, rfl⟩
      rw [← hg5]
      generalize hw1 : wr.alloc (.cells f.cells.toArray 64) = w1
      have k5 : w1.heap[g5]? = some (.cells f.cells.toArray 64 (0, 0)) := by rw [← hw1, hg5]; exact heap_alloc_new wr _
      have fr1 : Fr (fun _ => False) wr w1 := by rw [← hw1]; exact (Fr.refl _ wr).alloc _
      have h15 : g5 < w1.heap.size := blk_lt k5
      clear hw1
      have HG5 := Lib.hid hg5
      clear hg5
      have hr5 : w1.rangeAt g5 32 [.int .i64 f.at_, .int .i64 f.sectors, .int .i64 f.units, .int .i64 f.refs] := fun j v hj => by
        rw [blk_cell k5]
        have : f.cells.toArray[32 + j]? = [Value.int .i64 f.at_, .int .i64 f.sectors, .int .i64 f.units, .int .i64 f.refs][j]? := by
          rw [List.getElem?_toArray]
          unfold Fre.cells
          rw [List.getElem?_append_right (by rw [List.length_map, hw.1.1]; omega), List.length_map, hw.1.1, Nat.add_sub_cancel_left]
        rw [this, hj]
      have HR5 := Lib.hid hr5
      have HK5 := Lib.hid k5
      clear hr5 k5
      go_upto_region 6 with (first | refine wpList_load_mid rfl 62 _ rfl g5 32 rfl _ _ HR5.out Tryd.underlying62 rfl size62 ?_ | refine wpList_alloc_store rfl rfl 62 rfl 6 rfl (.tmp 19) rfl rfl 4 zero62 _ rfl rfl rfl rfl ?_)
      obtain ⟨g6, hg6⟩ : ∃ g6, g6 = w1.heap.size := ⟨_, rfl⟩
      rw [← hg6]
      generalize hw2 : w1.alloc _ = w2
      have k6 : w2.heap[g6]? = some (.cells #[.int .i64 f.at_, .int .i64 f.sectors, .int .i64 f.units, .int .i64 f.refs] 62 (0, 0)) := by rw [← hw2, hg6]; exact heap_alloc_new w1 _
      have fr2 : Fr (fun _ => False) w1 w2 := by rw [← hw2]; exact (Fr.refl _ w1).alloc _
      clear hw2
      have k5 : w2.heap[g5]? = some (.cells f.cells.toArray 64 (0, 0)) := fr2.heap HK5.out (fun h => h)
      have h65 : g6 ≠ g5 := by omega
      have hm2 : IsM w2 (B + 1) i (cnt seen) := (HR.out.m.fr fr1 (fun h => h)).fr fr2 (fun h => h)
      have hmlt := HR.out.m.lt
      have h5m : g5 ≠ B + 1 := by have := HG5.out; omega
      have h6m : g6 ≠ B + 1 := by have := fr1.size; omega
      have hr50 : ∀ w : World, w.heap[g5]? = some (.cells f.cells.toArray 64 (0, 0)) → w.rangeAt g5 0 (f.key.map (Value.int .u8)) := fun w hk j v hj => by
        rw [blk_cell hk, Nat.zero_add, List.getElem?_toArray]
        unfold Fre.cells
        rw [List.getElem?_append_left (List.getElem?_eq_some_iff.1 hj).1]
        exact hj
      have hs60 : (Tryd.prog.info? 60).map (·.size) = some (f.key.map (Value.int .u8)).length := by rw [List.length_map, hw.1.1]; exact size60
      have hcn : cnt seen f.key < 1000000 := by
        have := List.count_le_length (a := f.key) (l := seen)
        have := HR.out.hs
        unfold cnt
        omega
      obtain ⟨v0, st, wE, wS, frE, frS, mS, l0, e0, l1, s0⟩ := (hm2.drewN 1).bump_run (by omega) hw.1 hcn
      have hkE := frE.heap (blk_drewN k5 1) h5m
      have hkS := frS.heap (blk_drewN k5 1) h5m
      have hk6 := frS.heap (blk_drewN k6 1) h6m
      have HR50 := Lib.hid (hr50 _ (blk_drewN k5 1))
      have HRE := Lib.hid (hr50 _ hkE)
      have HRS := Lib.hid (hr50 _ hkS)
      have HS60 := Lib.hid hs60
      have HL0 := Lib.hid l0
      have HL1 := Lib.hid l1
      have HE := Lib.hid e0
      have HST := Lib.hid s0
      have HKS := Lib.hid hkS
      have HK6 := Lib.hid hk6
      have HMS := Lib.hid mS
      have HFR1 := Lib.hid fr1
      have HFR2 := Lib.hid fr2
      have HFRS := Lib.hid frS
      clear k6 k5 hm2 hr50 hs60 l0 l1 e0 s0 hkE hkS hk6 mS fr1 fr2 frS frE HK5 HR5 HRI
      generalize hcv : cnt seen f.key = c at *
      have wc : IntKind.i64.wrap ((c : Int) + 1) = (c : Int) + 1 := IntWalk.i64_in _ (by omega)
      have HST2 : Hid ((Instr.entryStore 115 (.map (some (B + 1))) (.int .i64 (st : Int)) (.int .i64 (IntKind.i64.wrap ((c : Int) + 1)))).run Tryd.prog wE = .ok () wS) := by simp only [Hid]; rw [wc]; exact HST.out
      clear wc HST
      have c0 : (0 : Int) ≤ (c : Int) := by omega
      have c1 : (c : Int) < 1000000 := by omega
      have HCV := Lib.hid hcv
      clear hcv
      refine wp_region_gen (S := fun w' => w'.rangeAt g5 0 (f.key.map (Value.int .u8))) (by kernel_rfl) (fun _ _ _ _ _ h => h) ?_
      intro Q' HQP HQN
      change wpAnyH _ _ _ _ _ _ _ _ (w2.drewN 1)
      have hS : (fun w' : World => w'.rangeAt g5 0 (f.key.map (Value.int .u8))) (w2.drewN 1) := HR50.out
      refine wpAnyH_take (i := 0) (oi := ⟨some 20, _, _, _, _, none⟩) (v := ?_) rfl (by kernel_rfl) (by kernel_rfl) (by kernel_rfl) (fun c _ w h => HQP.out c _ _ _ w h) (Or.inl ⟨by rfl, ?v0⟩) hS ?_
      case v0 => (intro w hSw; (try dsimp only at hSw); obtain s0 := hSw; go_simp; try with_reducible rfl)
      try simp only [Act.put, List.setIfInBounds_toArray, List.set_cons_zero, List.set_cons_succ]
      refine wpAnyH_take (i := 1) (oi := ⟨some 21, _, _, _, _, none⟩) (v := ?_) rfl (by kernel_rfl) (by kernel_rfl) (by kernel_rfl) (fun c _ w h => HQP.out c _ _ _ w h) (Or.inl ⟨by rfl, ?v1⟩) hS ?_
      case v1 => (intro w hSw; (try dsimp only at hSw); obtain s0 := hSw; go_simp; try with_reducible rfl)
      try simp only [Act.put, List.setIfInBounds_toArray, List.set_cons_zero, List.set_cons_succ]
      refine wpAnyH_take (i := 2) (oi := ⟨some 22, _, _, _, _, none⟩) (v := keyV f.key) rfl (by kernel_rfl) (by kernel_rfl) (by kernel_rfl) (fun c _ w h => HQP.out c _ _ _ w h) (yieldsIf_load_mid (by rfl) 60 (.tmp 21) rfl g5 0 rfl _ _ (fun w hw => hw) Tryd.underlying60 rfl HS60.out) hS ?_
      try simp only [Act.put, List.setIfInBounds_toArray, List.set_cons_zero, List.set_cons_succ]
      refine (fun (hF : Q' Exit.normal ?AF wS) => ?body) ?fin
      case body =>
       refine wpAnyH_ready (rs := [3, 5]) (by kernel_rfl) (by simp) ?_
       refine AllReadyH.cons (o := ⟨some 23, _, _, _, _, none⟩) rfl (fun KQ hK => ?_) (AllReadyH.cons (o := ⟨some 25, _, _, _, _, none⟩) rfl (fun KQ hK => ?_) AllReadyH.nil)
       · rw [if_pos (by rfl)]
         refine wp_lookup_run 115 _ _ false rfl (.map (some (B + 1))) (keyV f.key) _ rfl rfl HL0.out ?_
         refine hK.out _ _ hS (fun _ => ?_)
         try simp only [Act.put, List.setIfInBounds_toArray, List.set_cons_zero, List.set_cons_succ]
         refine wpAnyH_take (i := 4) (oi := ⟨some 24, _, _, _, _, none⟩) (v := ?_) rfl (by kernel_rfl) (by kernel_rfl) (by kernel_rfl) (fun c _ w h => HQP.out c _ _ _ w h) (Or.inl ⟨by rfl, ?v4⟩) hS ?_
         case v4 => (intro w hSw; (try dsimp only at hSw); go_simp; try with_reducible rfl)
         try simp only [Act.put, List.setIfInBounds_toArray, List.set_cons_zero, List.set_cons_succ]
         refine wpAnyH_ready (rs := [5]) (by kernel_rfl) (by simp) ?_
         refine AllReadyH.cons (o := ⟨some 25, _, _, _, _, none⟩) rfl (fun KQ hK => ?_) AllReadyH.nil
         rw [if_pos (by rfl)]
         refine wp_mapEntry_run 115 _ _ rfl (.map (some (B + 1))) (keyV f.key) _ rfl rfl HE.out ?_
         have hS : (fun w' : World => w'.rangeAt g5 0 (f.key.map (Value.int .u8))) (wE) := HRE.out
         refine hK.out _ _ hS (fun _ => ?_)
         try simp only [Act.put, List.setIfInBounds_toArray, List.set_cons_zero, List.set_cons_succ]
         refine wpAnyH_take (i := 6) (oi := ⟨some 26, _, _, _, _, none⟩) (v := ?_) rfl (by kernel_rfl) (by kernel_rfl) (by kernel_rfl) (fun c _ w h => HQP.out c _ _ _ w h) (Or.inl ⟨by rfl, ?v6⟩) hS ?_
         case v6 => (intro w hSw; (try dsimp only at hSw); go_simp; try with_reducible rfl)
         try simp only [Act.put, List.setIfInBounds_toArray, List.set_cons_zero, List.set_cons_succ]
         refine wpAnyH_ready (rs := [7]) (by kernel_rfl) (by simp) ?_
         refine AllReadyH.cons (o := ⟨none, _, _, _, _, none⟩) rfl (fun KQ hK => ?_) AllReadyH.nil
         rw [if_pos (by rfl)]
         refine wp_entryStore_run 115 _ _ _ rfl (.map (some (B + 1))) (.int .i64 (st : Int)) (.int .i64 (IntKind.i64.wrap ((c : Int) + 1))) rfl rfl (by rfl) HST2.out ?_
         have hS : (fun w' : World => w'.rangeAt g5 0 (f.key.map (Value.int .u8))) (wS) := HRS.out
         refine hK.out _ _ hS (fun _ => ?_)
         try simp only [Act.put, List.setIfInBounds_toArray, List.set_cons_zero, List.set_cons_succ]
         refine wpAnyH_done (by kernel_rfl) ?_ _
         exact hF
       · rw [if_pos (by rfl)]
         refine wp_mapEntry_run 115 _ _ rfl (.map (some (B + 1))) (keyV f.key) _ rfl rfl HE.out ?_
         have hS : (fun w' : World => w'.rangeAt g5 0 (f.key.map (Value.int .u8))) (wE) := HRE.out
         refine hK.out _ _ hS (fun _ => ?_)
         try simp only [Act.put, List.setIfInBounds_toArray, List.set_cons_zero, List.set_cons_succ]
         refine wpAnyH_take (i := 6) (oi := ⟨some 26, _, _, _, _, none⟩) (v := ?_) rfl (by kernel_rfl) (by kernel_rfl) (by kernel_rfl) (fun c _ w h => HQP.out c _ _ _ w h) (Or.inl ⟨by rfl, ?v6⟩) hS ?_
         case v6 => (intro w hSw; (try dsimp only at hSw); go_simp; try with_reducible rfl)
         try simp only [Act.put, List.setIfInBounds_toArray, List.set_cons_zero, List.set_cons_succ]
         refine wpAnyH_ready (rs := [3]) (by kernel_rfl) (by simp) ?_
         refine AllReadyH.cons (o := ⟨some 23, _, _, _, _, none⟩) rfl (fun KQ hK => ?_) AllReadyH.nil
         rw [if_pos (by rfl)]
         refine wp_lookup_run 115 _ _ false rfl (.map (some (B + 1))) (keyV f.key) _ rfl rfl HL1.out ?_
         have hS : (fun w' : World => w'.rangeAt g5 0 (f.key.map (Value.int .u8))) (wE) := HRE.out
         refine hK.out _ _ hS (fun _ => ?_)
         try simp only [Act.put, List.setIfInBounds_toArray, List.set_cons_zero, List.set_cons_succ]
         refine wpAnyH_take (i := 4) (oi := ⟨some 24, _, _, _, _, none⟩) (v := ?_) rfl (by kernel_rfl) (by kernel_rfl) (by kernel_rfl) (fun c _ w h => HQP.out c _ _ _ w h) (Or.inl ⟨by rfl, ?v4⟩) hS ?_
         case v4 => (intro w hSw; (try dsimp only at hSw); go_simp; try with_reducible rfl)
         try simp only [Act.put, List.setIfInBounds_toArray, List.set_cons_zero, List.set_cons_succ]
         refine wpAnyH_ready (rs := [7]) (by kernel_rfl) (by simp) ?_
         refine AllReadyH.cons (o := ⟨none, _, _, _, _, none⟩) rfl (fun KQ hK => ?_) AllReadyH.nil
         rw [if_pos (by rfl)]
         refine wp_entryStore_run 115 _ _ _ rfl (.map (some (B + 1))) (.int .i64 (st : Int)) (.int .i64 (IntKind.i64.wrap ((c : Int) + 1))) rfl rfl (by rfl) HST2.out ?_
         have hS : (fun w' : World => w'.rangeAt g5 0 (f.key.map (Value.int .u8))) (wS) := HRS.out
         refine hK.out _ _ hS (fun _ => ?_)
         try simp only [Act.put, List.setIfInBounds_toArray, List.set_cons_zero, List.set_cons_succ]
         refine wpAnyH_done (by kernel_rfl) ?_ _
         exact hF
      case fin =>
        refine HQN.out _ _ ?_
        clear HQP HQN hS
        have c60 := blk_cell HK6.out 0
        have c61 := blk_cell HK6.out 1
        have c62 := blk_cell HK6.out 2
        have c63 := blk_cell HK6.out 3
        simp only [List.getElem?_toArray, List.getElem?_cons_zero, List.getElem?_cons_succ] at c60 c61 c62 c63
        have hlk := HMS.out.look hw.1
        have hbu : bump (cnt seen) f.key f.key = c + 1 := by simp only [bump, if_pos, HCV.out]
        rw [hbu, show (((c + 1 : Nat)) : Int) = (c : Int) + 1 from by omega] at hlk
        have HLK := Lib.hid hlk
        have f12 : Fr (fun _ => False) wr w2 := HFR1.out.trans HFR2.out (fun _ h => h.elim)
        have fS : Fr (fun i => i = B + 1) wr wS := ((f12.drewN 1).mono (fun _ h => h.elim)).trans HFRS.out (fun i h => .inl h)
        have hbelS : Below B W wS := Fr.then_below HR.out.bel fS (by omega) (by rintro i rfl; omega)
        have HBEL := Lib.hid hbelS
        have HFS := Lib.hid fS
        have hno : freOk f = false ∨ seen.contains f.key = true → writeOk o = false := fun h => by
          have : newsOk [] o.news = false := by
            rw [HR.out.ok, HS.out]
            rcases h with h | h
            · rw [h]; rfl
            · rw [h]; simp
          unfold writeOk
          rw [this]; rfl
        have HNO := Lib.hid hno
        have hfo : freOk f = (within f.at_ 0 262144 && within f.sectors 1 1024 && within f.units 1 16 && decide (f.refs = 0)) := rfl
        have HFO := Lib.hid hfo
        clear hbelS fS f12 hno hlk hfo hbu hg6 h15 h65 h5m h6m hcn
        rcases hA : within f.at_ 0 262144 with _ | _
        · go_wp2_with (first | (go_at_call 30; refine (within_any _ _ _ _).mono ?_; rintro e w' ⟨rfl, rfl⟩) | (refine wpList_unguard rfl ?_; refine wpList_load_mid rfl 60 _ rfl g5 0 rfl _ _ HRS.out Tryd.underlying60 rfl HS60.out ?_) | (refine wpList_unguard rfl ?_; refine wpList_lookup_run rfl 115 _ _ false rfl (.map (some (B + 1))) (keyV f.key) _ rfl rfl HLK.out ?_))
          go_ret
          exact ⟨by rw [HNO.out (.inl (by rw [HFO.out, hA]; rfl))]; rfl, HBEL.out⟩
        · rcases hB : within f.sectors 1 1024 with _ | _
          · go_wp2_with (first | (go_at_call 30; refine (within_any _ _ _ _).mono ?_; rintro e w' ⟨rfl, rfl⟩) | (refine wpList_unguard rfl ?_; refine wpList_load_mid rfl 60 _ rfl g5 0 rfl _ _ HRS.out Tryd.underlying60 rfl HS60.out ?_) | (refine wpList_unguard rfl ?_; refine wpList_lookup_run rfl 115 _ _ false rfl (.map (some (B + 1))) (keyV f.key) _ rfl rfl HLK.out ?_))
            go_ret
            exact ⟨by rw [HNO.out (.inl (by rw [HFO.out, hA, hB]; rfl))]; rfl, HBEL.out⟩
          · rcases hC : within f.units 1 16 with _ | _
            · go_wp2_with (first | (go_at_call 30; refine (within_any _ _ _ _).mono ?_; rintro e w' ⟨rfl, rfl⟩) | (refine wpList_unguard rfl ?_; refine wpList_load_mid rfl 60 _ rfl g5 0 rfl _ _ HRS.out Tryd.underlying60 rfl HS60.out ?_) | (refine wpList_unguard rfl ?_; refine wpList_lookup_run rfl 115 _ _ false rfl (.map (some (B + 1))) (keyV f.key) _ rfl rfl HLK.out ?_))
              go_ret
              exact ⟨by rw [HNO.out (.inl (by rw [HFO.out, hA, hB, hC]; rfl))]; rfl, HBEL.out⟩
            · by_cases hD : f.refs = 0
              · have d0 : (f.refs == 0) = true := by simp [hD]
                have d0' : (f.refs != 0) = false := by simp [hD]
                by_cases hE : f.key ∈ seen
                · have hc1 : 0 < c := by rw [← HCV.out]; exact List.count_pos_iff.2 hE
                  have d1 : decide ((1 : Int) < (c : Int) + 1) = true := decide_eq_true (by omega)
                  go_wp2_with (first | (go_at_call 30; refine (within_any _ _ _ _).mono ?_; rintro e w' ⟨rfl, rfl⟩) | (refine wpList_unguard rfl ?_; refine wpList_load_mid rfl 60 _ rfl g5 0 rfl _ _ HRS.out Tryd.underlying60 rfl HS60.out ?_) | (refine wpList_unguard rfl ?_; refine wpList_lookup_run rfl 115 _ _ false rfl (.map (some (B + 1))) (keyV f.key) _ rfl rfl HLK.out ?_))
                  go_ret
                  exact ⟨by rw [HNO.out (.inr (by simpa using hE))]; rfl, HBEL.out⟩
                · have hc1 : c = 0 := by rw [← HCV.out]; exact List.count_eq_zero.2 hE
                  have d1 : decide ((1 : Int) < (c : Int) + 1) = false := decide_eq_false (by omega)
                  go_wp2_with (first | (go_at_call 30; refine (within_any _ _ _ _).mono ?_; rintro e w' ⟨rfl, rfl⟩) | (refine wpList_unguard rfl ?_; refine wpList_load_mid rfl 60 _ rfl g5 0 rfl _ _ HRS.out Tryd.underlying60 rfl HS60.out ?_) | (refine wpList_unguard rfl ?_; refine wpList_lookup_run rfl 115 _ _ false rfl (.map (some (B + 1))) (keyV f.key) _ rfl rfl HLK.out ?_))
                  go_roundw
                  case rel =>
                    refine ⟨i + 1, f.key :: seen, by go_num, by omega, by simp [HR.out.hs], ?_, List.nodup_cons.2 ⟨hE, HR.out.nd⟩, HFS.out.heap HR.out.bO (by omega), ?_, HBEL.out⟩
                    · rw [HR.out.ok, HS.out, HFO.out, hA, hB, hC, hD]
                      simp [hE]
                    · have : cnt (f.key :: seen) = bump (cnt seen) f.key := by
                        funext k
                        simp only [cnt, bump, List.count_cons]
                        by_cases e : k = f.key
                        · subst e; simp
                        · rw [if_neg e]
                          have : (f.key == k) = false := by simp; exact fun h => e h.symm
                          simp [this]
                      rw [this]
                      exact HMS.out
                  case measure => simp [intOf]; omega
              · have d0 : (f.refs == 0) = false := by simp [hD]
                have d0' : (f.refs != 0) = true := by simp [hD]
                go_wp2_with (first | (go_at_call 30; refine (within_any _ _ _ _).mono ?_; rintro e w' ⟨rfl, rfl⟩) | (refine wpList_unguard rfl ?_; refine wpList_load_mid rfl 60 _ rfl g5 0 rfl _ _ HRS.out Tryd.underlying60 rfl HS60.out ?_) | (refine wpList_unguard rfl ?_; refine wpList_lookup_run rfl 115 _ _ false rfl (.map (some (B + 1))) (keyV f.key) _ rfl rfl HLK.out ?_))
                go_ret
                exact ⟨by rw [HNO.out (.inl (by rw [HFO.out]; simp [hD]))]; rfl, HBEL.out⟩
    · obtain rfl : i = o.news.length := by omega
      have hnews : newsOk [] o.news = true := by rw [HR.out.ok, List.drop_length]; rfl
      have hbO := HR.out.bO
      have hbel := HR.out.bel
      have HNW := Lib.hid hnews
      clear HR hnews r7 bel0
      have k5 := blk_cell hbO 5
      simp only [List.getElem?_toArray, List.getElem?_cons_zero, List.getElem?_cons_succ] at k5
      have HBO := Lib.hid hbO
      have HBEL := Lib.hid hbel
      clear hbO hbel
      go_wp2
      clear k5
      go_loopw [59, 7] (fun v59 v7 wr => ∃ (j : Nat) (least : Int), v59 = .int .i64 (j : Int) ∧ v7 = .int .i64 least ∧ j ≤ o.puts.length ∧ (0 ≤ least ∧ least ≤ 512) ∧ Hid (putsOk 0 o.puts = putsOk least (o.puts.drop j)) ∧
        Hid (wr.heap[B]? = some (.cells #[.int .u8 o.kind, .int .i64 o.at_, .int .i64 o.n, .int .i64 o.snap, .slice AN o.news.length cN, .slice AP o.puts.length cP] 26 (0, 0))) ∧ Hid (Below B W wr)) (fun v59 _ _ => o.puts.length - (intOf v59).toNat)
      case atStart => exact ⟨0, 0, rfl, rfl, by omega, by omega, rfl, HBO.out, HBEL.out⟩
      case round =>
        clear HBO HBEL
        obtain ⟨j, least, rfl, rfl, hj, hle, HOK, HBO, HBEL⟩ := hrel
        have bel0 : Below W.heap.size W wr := by rw [← HB.out]; exact HBEL.out
        by_cases hlt2 : j < o.puts.length
        · obtain ⟨b, off, rfl, hbl, hr⟩ := HP.out.at_ (by omega)
          have hri : wr.rangeAt b (off + j * 35) o.puts[j].cells := fun k v hk => pw_cell_below bel0 (hr j hlt2 k v hk)
          have hw := HP.out.2 _ (List.getElem_mem hlt2)
          have hstep : putsOk least (o.puts.drop j) = (puOk least o.puts[j] && putsOk (o.puts[j].unit + 1) (o.puts.drop (j + 1))) := by
            rw [List.drop_eq_getElem_cons hlt2]; rfl
          generalize o.puts[j] = f at hri hw hstep
          have HS := Lib.hid hstep
          have HRI := Lib.hid hri
          have hs1 : (Tryd.prog.info? 72).map (·.size) = some f.cells.length := by rw [hw.len]; exact size72
          have z1 : (j : Int) < (o.puts.length : Int) := by omega
          clear hr hri hstep bel0
          have HHS := Lib.hid hs1
          clear hs1
          go_upto_region 14 with (first | refine wpList_load_mid rfl 72 _ rfl b (off + j * 35) rfl f.cells _ HRI.out Tryd.underlying72 rfl HHS.out ?_ | refine wpList_alloc_store rfl rfl 72 rfl 9 rfl (.tmp 62) rfl rfl 35 zero72 f.cells.toArray (by simp [hw.len]) rfl rfl (all_oneCell_toArray f.one) ?_)
          obtain ⟨g9, hg9⟩ : ∃ g9, g9 = wr.heap.size := ⟨_, rfl⟩
          rw [← hg9]
          generalize hw1 : wr.alloc (.cells f.cells.toArray 72) = w1
          have k9 : w1.heap[g9]? = some (.cells f.cells.toArray 72 (0, 0)) := by rw [← hw1, hg9]; exact heap_alloc_new wr _
          have fr1 : Fr (fun _ => False) wr w1 := by rw [← hw1]; exact (Fr.refl _ wr).alloc _
          have c90 : w1.cell? ⟨g9, 0, none⟩ = some (.int .i64 f.unit) := by rw [blk_cell k9]; rfl
          have c91 : w1.cell? ⟨g9, 33, none⟩ = some (.int .i64 f.off) := by
            rw [blk_cell k9, List.getElem?_toArray]
            unfold Pu.cells
            rw [List.getElem?_cons_succ, List.getElem?_append_right (by rw [List.length_map, hw.2.1.1]; omega), List.length_map, hw.2.1.1]
            rfl
          have c92 : w1.cell? ⟨g9, 34, none⟩ = some (.int .i64 f.mask) := by
            rw [blk_cell k9, List.getElem?_toArray]
            unfold Pu.cells
            rw [List.getElem?_cons_succ, List.getElem?_append_right (by rw [List.length_map, hw.2.1.1]; omega), List.length_map, hw.2.1.1]
            rfl
          have HB1 : Hid (w1.heap[B]? = some (.cells #[.int .u8 o.kind, .int .i64 o.at_, .int .i64 o.n, .int .i64 o.snap, .slice AN o.news.length cN, .slice (some ⟨b, off, none⟩) o.puts.length cP] 26 (0, 0))) := fr1.heap HBO.out (fun h => h)
          have HBEL1 : Hid (Below B W w1) := by simp only [Hid]; rw [← hw1]; exact HBEL.out.alloc (by have := blk_lt HBO.out; omega) _
          clear hw1 k9 fr1 hg9 HBO HBEL HRI
          have hno : puOk least f = false → writeOk o = false := fun h => by
            have : putsOk 0 o.puts = false := by rw [HOK.out, HS.out, h]; rfl
            unfold writeOk
            rw [this]; simp
          have HNO := Lib.hid hno
          have hpo : puOk least f = (within f.unit least 511 && within f.off 0 15 && within f.mask 1 255) := rfl
          have HPO := Lib.hid hpo
          clear hno hpo
          rcases hA : within f.unit least 511 with _ | _
          · go_wp2_with (first | (go_at_call 30; refine (within_any _ _ _ _).mono ?_; rintro e w' ⟨rfl, rfl⟩))
            go_ret
            exact ⟨by rw [HNO.out (by rw [HPO.out, hA]; rfl)]; rfl, HBEL1.out⟩
          · rcases hC : within f.off 0 15 with _ | _
            · go_wp2_with (first | (go_at_call 30; refine (within_any _ _ _ _).mono ?_; rintro e w' ⟨rfl, rfl⟩))
              go_ret
              exact ⟨by rw [HNO.out (by rw [HPO.out, hA, hC]; rfl)]; rfl, HBEL1.out⟩
            · rcases hD : within f.mask 1 255 with _ | _
              · go_wp2_with (first | (go_at_call 30; refine (within_any _ _ _ _).mono ?_; rintro e w' ⟨rfl, rfl⟩))
                go_ret
                exact ⟨by rw [HNO.out (by rw [HPO.out, hA, hC, hD]; rfl)]; rfl, HBEL1.out⟩
              · have hbd := puOk_bd (p := f) (least := least) (by rw [HPO.out, hA, hC, hD]; rfl)
                have z3 : 0 ≤ f.unit := by omega
                have z4 : f.unit ≤ 511 := by omega
                clear hbd
                go_wp2_with (first | (go_at_call 30; refine (within_any _ _ _ _).mono ?_; rintro e w' ⟨rfl, rfl⟩))
                go_roundw
                case rel => exact ⟨j + 1, f.unit + 1, by go_num, rfl, by omega, by omega, by simp only [Hid]; rw [HOK.out, HS.out, HPO.out, hA, hC, hD]; rfl, HB1.out, HBEL1.out⟩
                case measure => simp [intOf]; omega
        · obtain rfl : j = o.puts.length := by omega
          have hputs : putsOk 0 o.puts = true := by rw [HOK.out, List.drop_length]; rfl
          have k4 := blk_cell HBO.out 4
          have k5 := blk_cell HBO.out 5
          simp only [List.getElem?_toArray, List.getElem?_cons_zero, List.getElem?_cons_succ] at k4 k5
          have hwo : writeOk o = (decide (o.news.length ≤ 18) && decide (o.puts.length ≤ 18)) := by unfold writeOk; rw [HNW.out, hputs]; rfl
          have HWO := Lib.hid hwo
          clear hwo hputs bel0
          by_cases hA : o.news.length ≤ 18
          · by_cases hC : o.puts.length ≤ 18
            · have d1 : decide ((o.news.length : Int) ≤ 18) = true := decide_eq_true (by omega)
              have d2 : decide ((o.puts.length : Int) ≤ 18) = true := decide_eq_true (by omega)
              go_wp2
              go_ret
              exact ⟨by rw [HWO.out]; simp [hA, hC], HBEL.out⟩
            · have d1 : decide ((o.news.length : Int) ≤ 18) = true := decide_eq_true (by omega)
              have d2 : decide ((o.puts.length : Int) ≤ 18) = false := decide_eq_false (by omega)
              go_wp2
              go_ret
              exact ⟨by rw [HWO.out]; simp [hA, hC], HBEL.out⟩
          · have d1 : decide ((o.news.length : Int) ≤ 18) = false := decide_eq_false (by omega)
            go_wp2
            go_ret
            exact ⟨by rw [HWO.out]; simp [hA], HBEL.out⟩
end Go.Proofs.YtlagkfiafelnnaaDoor
