/- bytes.Buffer.Bytes at a writer; op.Put: the bytes of an op. -/
import Derived.Test.YtlagkfiafelnnaaDoorNum
set_option linter.unusedVariables false
set_option linter.unusedSimpArgs false
namespace Go.Proofs.YtlagkfiafelnnaaDoor
open Go.RowKit Go.Proofs.YtlagkfiafelnnaaDoorW.PrintWords

set_option maxHeartbeats 1000000 in
set_option maxRecDepth 100000 in
theorem bufBytes_any (B b : Nat) (l : List Int) (W : World) (h : IsW W B b l) :
    Calls Tryd.prog 35 #[.pointer (some ⟨b, 0, none⟩)] W fun e W' => ∃ v d, e = .returned v ∧ W.ownsRow B 5 1 v l.length (l.map (Value.int .u8)) ∧ W' = W.drewN d := by
  obtain ⟨hB, v, lr, h3, h4, h5⟩ := h
  have c0 := h3.c0
  have c1 := h3.c1
  rw [List.length_map] at h4
  have H4 := Lib.hid h4
  rcases h4.2 with ⟨rfl, hl⟩ | ⟨g, cap, cur, rfl, q1, q2, q3, q4, q5, q6⟩
  · have HL := Lib.hid hl
    clear h3 h4 h5 hB hl
    go_enter Tryd.func35, Tryd.ntmps35
    go_wp2
    go_quiet (fail)
    go_wp2
    go_ret
    exact ⟨_, nq, rfl, H4.out, rfl⟩
  · clear h3 h4 h5 hB q1 q2 q5 q6
    simp only [maxLen] at q4
    have z1 : (l.length : Int) ≤ (cap : Int) := by omega
    go_enter Tryd.func35, Tryd.ntmps35
    go_wp2
    go_quiet (fail)
    go_wp2
    go_ret
    exact ⟨_, nq, rfl, H4.out, rfl⟩

theorem bufWrite_any (B b : Nat) (l k : List Int) (a : Addr) (n c : Nat) (W : World) (h : IsW W B b l) (hB : B ≤ W.heap.size) (hl : l.length ≤ 1000000000) (hn : k.length = n) (hn2 : n ≤ 1000) (hab : a.block ≠ b) (hsrc : ∀ j v, (k.map (Value.int .u8))[j]? = some v → W.cell? (a.add j) = some v) :
    Calls Tryd.prog 33 #[.pointer (some ⟨b, 0, none⟩), .slice (some a) n c] W fun e W' => e = .returned (.tuple #[.int .i64 n, .nilIface]) ∧ IsW W' B b (l ++ k) ∧ Below B W W' ∧ Lib.OthersKept 5 (some b) W W' :=
  (Tryd.Buffer_Write_at 57 _ B b 0 _ (k.map (Value.int .u8)) a n c W h hB (u8_one l) (by rw [List.length_map]; exact hn) hab hsrc (u8_one k) (by rw [List.length_map]; omega)).mono fun e W' hq => ⟨hq.1, by unfold IsW; rw [List.map_append]; exact hq.2.1, hq.2.2⟩
/-- A number's bytes written, its row made at once. -/
theorem number_one (b k : Nat) (K : Int) (hK : K = (k : Int)) (l : List Int) (n : Int) (W : World) (hw : IsW W b b l) (hk0 : 1 ≤ k) (hk : k ≤ 8) (hl : l.length ≤ 1000000) :
    Calls Tryd.prog 32 #[.pointer (some ⟨b, 0, none⟩), .int .i64 K, .slice (some ⟨W.heap.size, 0, none⟩) 1 1] (W.alloc (.cells #[.int .i64 n] 3)) fun e W' => e = .returned (.tuple #[]) ∧ IsW W' b b (l ++ num k n) ∧ Below b W W' ∧ Lib.OthersKept 5 (some b) W W' := by
  subst hK
  refine (number_any b b W.heap.size k l [n] _ (hw.alloc _) (by have := hw.lt; simp; omega) (heap_alloc_new W _) hk0 hk (by simp) hl).mono fun e W' hq => ⟨hq.1, by simpa using hq.2.1, ?_, ?_⟩
  · exact ((Below.refl _ _).alloc (by have := hw.lt; omega) _).trans hq.2.2.1
  · exact ((Lib.OthersKept.refl _ _ W).alloc _).trans hq.2.2.2
theorem number_two (b k : Nat) (K : Int) (hK : K = (k : Int)) (l : List Int) (n m : Int) (W : World) (hw : IsW W b b l) (hk0 : 1 ≤ k) (hk : k ≤ 8) (hl : l.length ≤ 1000000) :
    Calls Tryd.prog 32 #[.pointer (some ⟨b, 0, none⟩), .int .i64 K, .slice (some ⟨W.heap.size, 0, none⟩) 2 2] (W.alloc (.cells #[.int .i64 n, .int .i64 m] 3)) fun e W' => e = .returned (.tuple #[]) ∧ IsW W' b b (l ++ (num k n ++ num k m)) ∧ Below b W W' ∧ Lib.OthersKept 5 (some b) W W' := by
  subst hK
  refine (number_any b b W.heap.size k l [n, m] _ (hw.alloc _) (by have := hw.lt; simp; omega) (heap_alloc_new W _) hk0 hk (by simp) hl).mono fun e W' hq => ⟨hq.1, by simpa using hq.2.1, ?_, ?_⟩
  · exact ((Below.refl _ _).alloc (by have := hw.lt; omega) _).trans hq.2.2.1
  · exact ((Lib.OthersKept.refl _ _ W).alloc _).trans hq.2.2.2

/-- What Put tells: the bytes in memory of their own, or none. -/
def PutPost (o : OpV) (W : World) (e : Ending) (W' : World) : Prop :=
  Below W.heap.size W W' ∧ (right o = true → ∃ v, e = .returned (.tuple #[v, .int .i64 0]) ∧ W'.ownsRow W.heap.size 5 1 v (bytes o).length ((bytes o).map (Value.int .u8))) ∧
    (right o = false → e = .returned (.tuple #[.slice none 0 0, .int .i64 2]))
theorem putPost_yes {o : OpV} {W W' : World} {v : Value} (hr : right o = true) (hb : Below W.heap.size W W') (ho : W'.ownsRow W.heap.size 5 1 v (bytes o).length ((bytes o).map (Value.int .u8))) : PutPost o W (.returned (.tuple #[v, .int .i64 0])) W' :=
  ⟨hb, fun _ => ⟨v, rfl, ho⟩, fun h => by rw [hr] at h; cases h⟩
/-- bytes.Clone of a writer's bytes. -/
theorem clone_row {W : World} {B : Nat} {v : Value} {l : List Int} (h : W.ownsRow B 5 1 v l.length (l.map (Value.int .u8))) (h0 : 0 < l.length) (hl : l.length ≤ 1000000) :
    Calls Tryd.prog 34 #[v] W fun e W' => ∃ v', e = .returned v' ∧ W'.ownsRow W.heap.size 5 1 v' l.length (l.map (Value.int .u8)) ∧ Below W.heap.size W W' := by
  rcases h.2 with ⟨rfl, hn⟩ | ⟨g, cap, cur, rfl, q1, q2, q3, q4, q5, q6⟩
  · omega
  · refine (Tryd.bytes_Clone_at ⟨g, 0, none⟩ l.length cap l W rfl (by omega) (fun i hi => ?_)).mono fun e W' ⟨v', e1, e2, _, e4⟩ => ⟨v', e1, e2, e4⟩
    rw [add_plain, h.cellAt i (by omega), List.getElem?_map, List.getElem?_eq_getElem hi, List.getD_eq_getElem?_getD, List.getElem?_eq_getElem hi]
    rfl

set_option maxHeartbeats 2000000 in
set_option maxRecDepth 100000 in
theorem put_no (o : OpV) (vN vP : Value) (W : World) (hN : RdsF W vN o.news) (hP : RdsP W vP o.puts) (hl : o.news.length ≤ 100000) (hl2 : o.puts.length ≤ 100000) (hr : right o = false) :
    Calls Tryd.prog 12 #[opVal o vN vP] W (PutPost o W) := by
  obtain ⟨AN, cN, rfl, n1, n2⟩ := hN.form
  obtain ⟨AP, cP, rfl, p1, p2⟩ := hP.form
  have hb0 := (Below.refl W.heap.size W).alloc (Nat.le_refl _) (.cells #[.int .u8 o.kind, .int .i64 o.at_, .int .i64 o.n, .int .i64 o.snap, .slice AN o.news.length cN, .slice AP o.puts.length cP] 26)
  have hc := right_any o (.slice AN o.news.length cN) (.slice AP o.puts.length cP) _ (hN.below hb0) (hP.below hb0) hl hl2
  unfold opVal at hc
  have HC := Lib.hid hc
  have HB0 := Lib.hid hb0
  have HR := Lib.hid hr
  clear hN hP hc hb0
  unfold opVal
  go_enter Tryd.func12, Tryd.ntmps12
  go_wp2_with (go_at_call 10; refine HC.out.mono ?_; rintro e w' ⟨rfl, hb⟩; have HB2 := Lib.hid hb; clear hb)
  go_ret2
  exact ⟨HB0.out.trans (HB2.out.mono (by simp)), (fun h => by rw [HR.out] at h; cases h), fun _ => rfl⟩

/-- The writer stands: l has been written since. -/
structure PS (o : OpV) (vN vP : Value) (B b : Nat) (W2 : World) (l : List Int) (wr : World) : Prop where
  iw : IsW wr b b l
  bel : Below b W2 wr
  lt : B < b
  op : wr.heap[B]? = some (.cells #[.int .u8 o.kind, .int .i64 o.at_, .int .i64 o.n, .int .i64 o.snap, vN, vP] 26 (0, 0))
theorem PS.next {o : OpV} {vN vP : Value} {B b : Nat} {W2 wr w' : World} {l l' : List Int} (h : PS o vN vP B b W2 l wr) (hi : IsW w' b b l') (hb : Below b wr w') : PS o vN vP B b W2 l' w' :=
  ⟨hi, h.bel.trans hb, h.lt, (hb.block B h.lt).trans h.op⟩
theorem PS.begin {o : OpV} {vN vP : Value} {B : Nat} {w1 : World} (h : w1.heap[B]? = some (.cells #[.int .u8 o.kind, .int .i64 o.at_, .int .i64 o.n, .int .i64 o.snap, vN, vP] 26 (0, 0))) :
    PS o vN vP B w1.heap.size (w1.alloc (.cells #[.slice none 0 0, .int .i64 0, .int .i8 0] 57)) [] (w1.alloc (.cells #[.slice none 0 0, .int .i64 0, .int .i8 0] 57)) :=
  ⟨LibA.zero_isBuffer (Nat.le_refl _) (LibA.three_whole (heap_alloc_new w1 _)), Below.refl _ _, blk_lt h, blk_alloc h _⟩
theorem PS.c {o : OpV} {vN vP : Value} {B b : Nat} {W2 wr : World} {l : List Int} (h : PS o vN vP B b W2 l wr) (i : Nat) : wr.cell? ⟨B, i, none⟩ = [Value.int .u8 o.kind, .int .i64 o.at_, .int .i64 o.n, .int .i64 o.snap, vN, vP][i]? := by
  rw [blk_cell h.op, List.getElem?_toArray]

set_option maxHeartbeats 2000000 in
set_option maxRecDepth 100000 in
theorem put_two (o : OpV) (vN vP : Value) (W : World) (hN : RdsF W vN o.news) (hP : RdsP W vP o.puts) (hl : o.news.length ≤ 100000) (hl2 : o.puts.length ≤ 100000) (hr : right o = true) (hk : o.kind = 2) :
    Calls Tryd.prog 12 #[opVal o vN vP] W (PutPost o W) := by
  obtain ⟨AN, cN, rfl, n1, n2⟩ := hN.form
  obtain ⟨AP, cP, rfl, p1, p2⟩ := hP.form
  have hb0 := (Below.refl W.heap.size W).alloc (Nat.le_refl _) (.cells #[.int .u8 o.kind, .int .i64 o.at_, .int .i64 o.n, .int .i64 o.snap, .slice AN o.news.length cN, .slice AP o.puts.length cP] 26)
  have hc := right_any o (.slice AN o.news.length cN) (.slice AP o.puts.length cP) _ (hN.below hb0) (hP.below hb0) hl hl2
  unfold opVal at hc
  rw [hr] at hc
  have ho0 := heap_alloc_new W (.cells #[.int .u8 o.kind, .int .i64 o.at_, .int .i64 o.n, .int .i64 o.snap, .slice AN o.news.length cN, .slice AP o.puts.length cP] 26)
  have HC := Lib.hid hc
  have HB0 := Lib.hid hb0
  have HO0 := Lib.hid ho0
  have HR := Lib.hid hr
  have HK := Lib.hid hk
  clear hN hP hc hb0 ho0 hr hk
  unfold opVal
  go_enter Tryd.func12, Tryd.ntmps12
  go_upto_region 4 with (go_at_call 10; refine HC.out.mono ?_; rintro e w1 ⟨rfl, hb⟩; have HB2 := Lib.hid hb; clear hb)
  have HB3 : Hid (Below W.heap.size W w1) := HB0.out.trans (HB2.out.mono (by simp))
  have ps : PS o (.slice AN o.news.length cN) (.slice AP o.puts.length cP) W.heap.size w1.heap.size _ [] _ := PS.begin ((HB2.out.block _ (by simp)).trans HO0.out)
  have HB4 : Hid (Below W.heap.size W (w1.alloc (.cells #[.slice none 0 0, .int .i64 0, .int .i8 0] 57))) := HB3.out.alloc HB3.out.size _
  obtain ⟨b, hb⟩ : ∃ b, b = w1.heap.size := ⟨_, rfl⟩
  rw [← hb] at ps ⊢
  have hWb : W.heap.size < b := ps.lt
  clear hb
  generalize w1.alloc _ = w2 at *
  clear HB2 HB0 HO0 HB3 HC
  have HPS := Lib.hid ps
  clear ps
  have k0 := HPS.out.c 0
  simp only [List.getElem?_cons_zero] at k0
  rw [HK.out] at k0
  go_wp2_with fail
  refine (number_one b 1 1 rfl [] 2 w2 HPS.out.iw (by omega) (by omega) (by simp)).mono ?_
  rintro e w3 ⟨rfl, a1, a2, a3⟩
  have HP3 := Lib.hid (HPS.out.next a1 a2)
  clear a1 a2 a3 k0 HPS
  have k0 := HP3.out.c 0
  have k1 := HP3.out.c 1
  have k2 := HP3.out.c 2
  simp only [List.getElem?_cons_zero, List.getElem?_cons_succ] at k0 k1 k2
  rw [HK.out] at k0
  go_wp2_with fail
  refine (number_two b 2 2 rfl _ o.at_ o.n w3 HP3.out.iw (by omega) (by omega) (by simp [num_length])).mono ?_
  rintro e wz ⟨rfl, a1, a2, a3⟩
  have HPZ := Lib.hid (HP3.out.next a1 a2)
  clear a1 a2 a3 k0 k1 k2 HP3
  have HBY : Hid (bytes o = [] ++ num 1 2 ++ (num 2 o.at_ ++ num 2 o.n)) := by simp only [Hid]; unfold bytes; rw [HK.out, if_neg (by decide), if_pos rfl]; rfl
  go_wp2_with fail
  refine (bufBytes_any b b _ _ HPZ.out.iw).mono ?_
  rintro e w' ⟨v, d, rfl, hv, rfl⟩
  have HV := Lib.hid hv
  clear hv
  go_wp2_with fail
  refine (clone_row (W := wz.drewN d) HV.out (by simp [num_length]) (by simp [num_length])).mono ?_
  rintro e w'' ⟨v', rfl, hv', hb'⟩
  have HV2 := Lib.hid hv'
  have HB5 : Hid (Below W.heap.size W w'') := (pw_below_drewN (HB4.out.trans (HPZ.out.bel.mono (Nat.le_of_lt hWb))) d).trans (hb'.mono (by have := HPZ.out.iw.lt; show W.heap.size ≤ wz.heap.size; omega))
  clear hv' hb'
  go_wp2
  go_ret2
  exact putPost_yes HR.out HB5.out (by rw [HBY.out]; exact own_less HV2.out (by have := HPZ.out.iw.lt; show W.heap.size ≤ wz.heap.size; omega))

set_option maxHeartbeats 2000000 in
set_option maxRecDepth 100000 in
theorem put_three (o : OpV) (vN vP : Value) (W : World) (hN : RdsF W vN o.news) (hP : RdsP W vP o.puts) (hl : o.news.length ≤ 100000) (hl2 : o.puts.length ≤ 100000) (hr : right o = true) (h1 : o.kind ≠ 1) (h2 : o.kind ≠ 2) :
    Calls Tryd.prog 12 #[opVal o vN vP] W (PutPost o W) := by
  obtain ⟨AN, cN, rfl, n1, n2⟩ := hN.form
  obtain ⟨AP, cP, rfl, p1, p2⟩ := hP.form
  have hb0 := (Below.refl W.heap.size W).alloc (Nat.le_refl _) (.cells #[.int .u8 o.kind, .int .i64 o.at_, .int .i64 o.n, .int .i64 o.snap, .slice AN o.news.length cN, .slice AP o.puts.length cP] 26)
  have hc := right_any o (.slice AN o.news.length cN) (.slice AP o.puts.length cP) _ (hN.below hb0) (hP.below hb0) hl hl2
  unfold opVal at hc
  rw [hr] at hc
  have ho0 := heap_alloc_new W (.cells #[.int .u8 o.kind, .int .i64 o.at_, .int .i64 o.n, .int .i64 o.snap, .slice AN o.news.length cN, .slice AP o.puts.length cP] 26)
  have HC := Lib.hid hc
  have HB0 := Lib.hid hb0
  have HO0 := Lib.hid ho0
  have HR := Lib.hid hr
  have hkd := right_kind hr
  have z1 : 0 ≤ o.kind := by omega
  have z2 : o.kind ≤ 255 := by omega
  have e1 : (o.kind == 1) = false := by simp [h1]
  have e2 : (o.kind == 2) = false := by simp [h2]
  have H1 := Lib.hid h1
  have H2 := Lib.hid h2
  clear hN hP hc hb0 ho0 hr hkd h1 h2
  unfold opVal
  go_enter Tryd.func12, Tryd.ntmps12
  go_upto_region 4 with (go_at_call 10; refine HC.out.mono ?_; rintro e w1 ⟨rfl, hb⟩; have HB2 := Lib.hid hb; clear hb)
  have HB3 : Hid (Below W.heap.size W w1) := HB0.out.trans (HB2.out.mono (by simp))
  have ps : PS o (.slice AN o.news.length cN) (.slice AP o.puts.length cP) W.heap.size w1.heap.size _ [] _ := PS.begin ((HB2.out.block _ (by simp)).trans HO0.out)
  have HB4 : Hid (Below W.heap.size W (w1.alloc (.cells #[.slice none 0 0, .int .i64 0, .int .i8 0] 57))) := HB3.out.alloc HB3.out.size _
  obtain ⟨b, hb⟩ : ∃ b, b = w1.heap.size := ⟨_, rfl⟩
  rw [← hb] at ps ⊢
  have hWb : W.heap.size < b := ps.lt
  clear hb
  generalize w1.alloc _ = w2 at *
  clear HB2 HB0 HO0 HB3 HC
  have HPS := Lib.hid ps
  clear ps
  have k0 := HPS.out.c 0
  simp only [List.getElem?_cons_zero] at k0
  go_wp2_with fail
  refine (number_one b 1 1 rfl [] o.kind w2 HPS.out.iw (by omega) (by omega) (by simp)).mono ?_
  rintro e w3 ⟨rfl, a1, a2, a3⟩
  have HP3 := Lib.hid (HPS.out.next a1 a2)
  clear a1 a2 a3 k0 HPS
  have k0 := HP3.out.c 0
  have k3 := HP3.out.c 3
  simp only [List.getElem?_cons_zero, List.getElem?_cons_succ] at k0 k3
  go_wp2_with fail
  refine (number_one b 4 4 rfl _ o.snap w3 HP3.out.iw (by omega) (by omega) (by simp [num_length])).mono ?_
  rintro e wz ⟨rfl, a1, a2, a3⟩
  have HPZ := Lib.hid (HP3.out.next a1 a2)
  clear a1 a2 a3 k0 k3 HP3
  have HBY : Hid (bytes o = [] ++ num 1 o.kind ++ num 4 o.snap) := by simp only [Hid]; unfold bytes; rw [if_neg H1.out, if_neg H2.out]; rfl
  go_wp2_with fail
  refine (bufBytes_any b b _ _ HPZ.out.iw).mono ?_
  rintro e w' ⟨v, d, rfl, hv, rfl⟩
  have HV := Lib.hid hv
  clear hv
  go_wp2_with fail
  refine (clone_row (W := wz.drewN d) HV.out (by simp [num_length]) (by simp [num_length])).mono ?_
  rintro e w'' ⟨v', rfl, hv', hb'⟩
  have HV2 := Lib.hid hv'
  have HB5 : Hid (Below W.heap.size W w'') := (pw_below_drewN (HB4.out.trans (HPZ.out.bel.mono (Nat.le_of_lt hWb))) d).trans (hb'.mono (by have := HPZ.out.iw.lt; show W.heap.size ≤ wz.heap.size; omega))
  clear hv' hb'
  go_wp2
  go_ret2
  exact putPost_yes HR.out HB5.out (by rw [HBY.out]; exact own_less HV2.out (by have := HPZ.out.iw.lt; show W.heap.size ≤ wz.heap.size; omega))

set_option maxHeartbeats 2000000 in
set_option maxRecDepth 100000 in
theorem put_one (o : OpV) (vN vP : Value) (W : World) (hN : RdsF W vN o.news) (hP : RdsP W vP o.puts) (hl : o.news.length ≤ 100000) (hl2 : o.puts.length ≤ 100000) (hr : right o = true) (hk : o.kind = 1) :
    Calls Tryd.prog 12 #[opVal o vN vP] W (PutPost o W) := by
  obtain ⟨AN, cN, rfl, n1, n2⟩ := hN.form
  obtain ⟨AP, cP, rfl, p1, p2⟩ := hP.form
  have hb0 := (Below.refl W.heap.size W).alloc (Nat.le_refl _) (.cells #[.int .u8 o.kind, .int .i64 o.at_, .int .i64 o.n, .int .i64 o.snap, .slice AN o.news.length cN, .slice AP o.puts.length cP] 26)
  have hc := right_any o (.slice AN o.news.length cN) (.slice AP o.puts.length cP) _ (hN.below hb0) (hP.below hb0) hl hl2
  unfold opVal at hc
  rw [hr] at hc
  have ho0 := heap_alloc_new W (.cells #[.int .u8 o.kind, .int .i64 o.at_, .int .i64 o.n, .int .i64 o.snap, .slice AN o.news.length cN, .slice AP o.puts.length cP] 26)
  have HC := Lib.hid hc
  have HB0 := Lib.hid hb0
  have HO0 := Lib.hid ho0
  have HR := Lib.hid hr
  have HK := Lib.hid hk
  have HN := Lib.hid hN
  have HP := Lib.hid hP
  have ln : o.news.length ≤ 18 ∧ o.puts.length ≤ 18 := by
    have hr' := hr
    rw [right1 hk] at hr'
    simp only [Bool.and_eq_true, decide_eq_true_eq, writeOk] at hr'
    exact ⟨hr'.2.1.2, hr'.2.2⟩
  obtain ⟨ln, lp⟩ := ln
  have hLF : ∀ i, ((o.news.take i).flatMap encF).length ≤ 702 := fun i => by
    rw [flat_len (w := 39) (fun x hx => encF_len (hN.2 x (List.mem_of_mem_take hx)).1), List.length_take]; omega
  have hLP : ∀ i, ((o.puts.take i).flatMap encP).length ≤ 648 := fun i => by
    rw [flat_len (w := 36) (fun x hx => encP_len (hP.2 x (List.mem_of_mem_take hx)).2.1), List.length_take]; omega
  have HLF := Lib.hid hLF
  have HLP := Lib.hid hLP
  clear hN hP hc hb0 ho0 hr hk hLF hLP
  unfold opVal
  go_enter Tryd.func12, Tryd.ntmps12
  go_upto_region 4 with (go_at_call 10; refine HC.out.mono ?_; rintro e w1 ⟨rfl, hb⟩; have HB2 := Lib.hid hb; clear hb)
  have HB3 : Hid (Below W.heap.size W w1) := HB0.out.trans (HB2.out.mono (by simp))
  have ps : PS o (.slice AN o.news.length cN) (.slice AP o.puts.length cP) W.heap.size w1.heap.size _ [] _ := PS.begin ((HB2.out.block _ (by simp)).trans HO0.out)
  have HB4 : Hid (Below W.heap.size W (w1.alloc (.cells #[.slice none 0 0, .int .i64 0, .int .i8 0] 57))) := HB3.out.alloc HB3.out.size _
  obtain ⟨b, hb⟩ : ∃ b, b = w1.heap.size := ⟨_, rfl⟩
  rw [← hb] at ps ⊢
  have hWb : W.heap.size < b := ps.lt
  clear hb
  generalize w1.alloc _ = w2 at *
  clear HB2 HB0 HO0 HB3 HC
  have HPS := Lib.hid ps
  clear ps
  have k0 := HPS.out.c 0
  simp only [List.getElem?_cons_zero] at k0
  rw [HK.out] at k0
  go_wp2_with fail
  refine (number_one b 1 1 rfl [] 1 w2 HPS.out.iw (by omega) (by omega) (by simp)).mono ?_
  rintro e w3 ⟨rfl, a1, a2, a3⟩
  have HP3 := Lib.hid (HPS.out.next a1 a2)
  clear a1 a2 a3 k0 HPS
  have k0 := HP3.out.c 0
  have k4 := HP3.out.c 4
  simp only [List.getElem?_cons_zero, List.getElem?_cons_succ] at k0 k4
  rw [HK.out] at k0
  go_wp2_with fail
  refine (number_one b 1 1 rfl _ (o.news.length : Int) w3 HP3.out.iw (by omega) (by omega) (by simp [num_length])).mono ?_
  rintro e w4 ⟨rfl, a1, a2, a3⟩
  have HP4 := Lib.hid (HP3.out.next a1 a2)
  clear a1 a2 a3 k0 k4 HP3
  have k4 := HP4.out.c 4
  simp only [List.getElem?_cons_zero, List.getElem?_cons_succ] at k4
  obtain ⟨l0, hl0⟩ : ∃ l0 : List Int, l0 = [] ++ num 1 1 ++ num 1 (o.news.length : Int) := ⟨_, rfl⟩
  rw [← hl0] at HP4
  have hl0l : l0.length = 2 := by rw [hl0]; simp [num_length]
  have HL0 := Lib.hid hl0
  clear hl0
  go_wp2_with fail
  clear k4
  go_loopw [33] (fun v33 wr => ∃ i : Nat, v33 = .int .i64 (i : Int) ∧ i ≤ o.news.length ∧ Hid (PS o (.slice AN o.news.length cN) (.slice AP o.puts.length cP) W.heap.size b w2 (l0 ++ (o.news.take i).flatMap encF) wr)) (fun v33 _ => o.news.length - (intOf v33).toNat)
  case atStart => exact ⟨0, rfl, by omega, by simpa [Hid] using HP4.out⟩
  case round =>
    clear HP4
    obtain ⟨i, rfl, hi, HPi⟩ := hrel
    by_cases hlt : i < o.news.length
    · obtain ⟨bn, off, rfl, hbl, hr⟩ := HN.out.at_ (by omega)
      have hri : wr.rangeAt bn (off + i * 36) o.news[i].cells := fun j v hj => (HPi.out.bel.cell (p := ⟨bn, off + i * 36 + j, none⟩) (by show bn < b; omega)).trans (pw_cell_below HB4.out (hr i hlt j v hj))
      have hw := HN.out.2 _ (List.getElem_mem hlt)
      have htk : (o.news.take (i + 1)).flatMap encF = (o.news.take i).flatMap encF ++ encF o.news[i] := by
        rw [List.take_succ_eq_append_getElem hlt, List.flatMap_append]; simp
      have hll : (l0 ++ (o.news.take i).flatMap encF).length ≤ 1000 := by rw [List.length_append]; have := HLF.out i; omega
      obtain ⟨li, hli⟩ : ∃ li, li = l0 ++ (o.news.take i).flatMap encF := ⟨_, rfl⟩
      rw [← hli] at HPi hll
      have HLI := Lib.hid hli
      clear hli
      generalize o.news[i] = f at hri hw htk
      have HTK := Lib.hid htk
      have HRI := Lib.hid hri
      have hs1 : (Tryd.prog.info? 64).map (·.size) = some f.cells.length := by rw [hw.len]; exact size64
      have z1 : (i : Int) < (o.news.length : Int) := by omega
      have HHS := Lib.hid hs1
      clear hr hri htk hs1
      go_upto_region 12 with (first | refine wpList_load_mid rfl 64 _ rfl bn (off + i * 36) rfl f.cells _ HRI.out Tryd.underlying64 rfl HHS.out ?_ | refine wpList_alloc_store rfl rfl 64 rfl 6 rfl (.tmp 36) rfl rfl 36 zero64 f.cells.toArray (by simp [hw.len]) rfl rfl (all_oneCell_toArray f.one) ?_)
      obtain ⟨g6, hg6⟩ : ∃ g6, g6 = wr.heap.size := ⟨_, rfl⟩
      rw [← hg6]
      generalize hw1 : wr.alloc (.cells f.cells.toArray 64) = wa
      have k6 : Hid (wa.heap[g6]? = some (.cells f.cells.toArray 64 (0, 0))) := by simp only [Hid]; rw [← hw1, hg6]; exact heap_alloc_new wr _
      have HPa : Hid (PS o (.slice (some ⟨bn, off, none⟩) o.news.length cN) (.slice AP o.puts.length cP) W.heap.size b w2 li wa) := by
        simp only [Hid]; rw [← hw1]; exact HPi.out.next (HPi.out.iw.alloc _) ((Below.refl _ _).alloc (Nat.le_of_lt HPi.out.iw.lt) _)
      have h6b : g6 ≠ b := by have := HPi.out.iw.lt; omega
      have H6B := Lib.hid h6b
      clear hw1 hg6 HPi HRI h6b
      have keep : ∀ (w w' : World), w.heap[g6]? = some (.cells f.cells.toArray 64 (0, 0)) → Lib.OthersKept 5 (some b) w w' → w'.heap[g6]? = some (.cells f.cells.toArray 64 (0, 0)) := fun w w' h k => k g6 _ h (fun e => H6B.out (Option.some.inj e)) (fun c fz e => by simp at e)
      have hcell : ∀ (w : World), w.heap[g6]? = some (.cells f.cells.toArray 64 (0, 0)) → ∀ j, w.cell? ⟨g6, 32 + j, none⟩ = [Value.int .i64 f.at_, .int .i64 f.sectors, .int .i64 f.units, .int .i64 f.refs][j]? := fun w h j => by
        rw [blk_cell h, List.getElem?_toArray]
        unfold Fre.cells
        rw [List.getElem?_append_right (by rw [List.length_map, hw.1.1]; omega), List.length_map, hw.1.1, Nat.add_sub_cancel_left]
      have KEEP := Lib.hid keep
      have HCELL := Lib.hid hcell
      clear keep hcell
      go_wp2_with fail
      refine (bufWrite_any b b li f.key ⟨g6, 0, none⟩ 32 32 wa HPa.out.iw (Nat.le_of_lt HPa.out.iw.lt) (by omega) hw.1.1 (by omega) H6B.out (fun j v hj => by
        rw [add_plain, blk_cell k6.out, List.getElem?_toArray]
        unfold Fre.cells
        rw [List.getElem?_append_left (List.getElem?_eq_some_iff.1 hj).1]
        exact hj)).mono ?_
      rintro e wb ⟨rfl, a1, a2, a3⟩
      have HPb := Lib.hid (HPa.out.next a1 a2)
      have k6b := Lib.hid (KEEP.out _ _ k6.out a3)
      clear a1 a2 a3 HPa k6
      have c0 := HCELL.out _ k6b.out 0
      simp only [List.getElem?_cons_zero, Nat.add_zero] at c0
      go_wp2_with fail
      refine (number_one b 4 4 rfl _ f.at_ wb HPb.out.iw (by omega) (by omega) (by simp [hw.1.1]; omega)).mono ?_
      rintro e wc ⟨rfl, a1, a2, a3⟩
      have HPc := Lib.hid (HPb.out.next a1 a2)
      have k6c := Lib.hid (KEEP.out _ _ k6b.out a3)
      clear a1 a2 a3 HPb k6b c0
      have c1 := HCELL.out _ k6c.out 1
      simp only [List.getElem?_cons_zero, List.getElem?_cons_succ] at c1
      go_wp2_with fail
      refine (number_one b 2 2 rfl _ f.sectors wc HPc.out.iw (by omega) (by omega) (by simp [hw.1.1, num_length]; omega)).mono ?_
      rintro e wd ⟨rfl, a1, a2, a3⟩
      have HPd := Lib.hid (HPc.out.next a1 a2)
      have k6d := Lib.hid (KEEP.out _ _ k6c.out a3)
      clear a1 a2 a3 HPc k6c c1
      have c2 := HCELL.out _ k6d.out 2
      simp only [List.getElem?_cons_zero, List.getElem?_cons_succ] at c2
      go_wp2_with fail
      refine (number_one b 1 1 rfl _ f.units wd HPd.out.iw (by omega) (by omega) (by simp [hw.1.1, num_length]; omega)).mono ?_
      rintro e we ⟨rfl, a1, a2, a3⟩
      have HPe := Lib.hid (HPd.out.next a1 a2)
      clear a1 a2 a3 HPd k6d c2
      have HE : Hid (li ++ f.key ++ num 4 f.at_ ++ num 2 f.sectors ++ num 1 f.units = li ++ encF f) := by simp [Hid, encF]
      go_wp2
      go_roundw
      case rel => exact ⟨i + 1, by go_num, by omega, by simp only [Hid]; rw [HTK.out, ← List.append_assoc, ← HLI.out, ← HE.out]; exact HPe.out⟩
      case measure => simp [intOf]; omega
    · obtain rfl : i = o.news.length := by omega
      rw [List.take_length] at HPi
      have hl1 : (l0 ++ o.news.flatMap encF).length ≤ 1000 := by have := HLF.out o.news.length; rw [List.take_length] at this; rw [List.length_append]; omega
      have HL1 := Lib.hid hl1
      clear hl1
      have k5 := HPi.out.c 5
      simp only [List.getElem?_cons_zero, List.getElem?_cons_succ] at k5
      go_wp2_with fail
      refine (number_one b 1 1 rfl _ (o.puts.length : Int) wr HPi.out.iw (by omega) (by omega) (by have := HL1.out; omega)).mono ?_
      rintro e w5 ⟨rfl, a1, a2, a3⟩
      have HP5 := Lib.hid (HPi.out.next a1 a2)
      clear a1 a2 a3 k5 HPi
      have k5 := HP5.out.c 5
      simp only [List.getElem?_cons_zero, List.getElem?_cons_succ] at k5
      obtain ⟨l1, hl1⟩ : ∃ l1 : List Int, l1 = l0 ++ o.news.flatMap encF ++ num 1 (o.puts.length : Int) := ⟨_, rfl⟩
      rw [← hl1] at HP5
      have hl1l : l1.length ≤ 1001 ∧ 0 < l1.length := by rw [hl1, List.length_append, num_length]; have := HL1.out; omega
      have HL2 := Lib.hid hl1
      clear hl1
      go_wp2_with fail
      clear k5
      go_loopw [65] (fun v65 wr => ∃ i : Nat, v65 = .int .i64 (i : Int) ∧ i ≤ o.puts.length ∧ Hid (PS o (.slice AN o.news.length cN) (.slice AP o.puts.length cP) W.heap.size b w2 (l1 ++ (o.puts.take i).flatMap encP) wr)) (fun v65 _ => o.puts.length - (intOf v65).toNat)
      case atStart => exact ⟨0, rfl, by omega, by simpa [Hid] using HP5.out⟩
      case round =>
        clear HP5
        obtain ⟨i, rfl, hi, HPi⟩ := hrel
        by_cases hlt : i < o.puts.length
        · obtain ⟨bn, off, rfl, hbl, hr⟩ := HP.out.at_ (by omega)
          have hri : wr.rangeAt bn (off + i * 35) o.puts[i].cells := fun j v hj => (HPi.out.bel.cell (p := ⟨bn, off + i * 35 + j, none⟩) (by show bn < b; omega)).trans (pw_cell_below HB4.out (hr i hlt j v hj))
          have hw := HP.out.2 _ (List.getElem_mem hlt)
          have htk : (o.puts.take (i + 1)).flatMap encP = (o.puts.take i).flatMap encP ++ encP o.puts[i] := by
            rw [List.take_succ_eq_append_getElem hlt, List.flatMap_append]; simp
          have hll : (l1 ++ (o.puts.take i).flatMap encP).length ≤ 2000 := by rw [List.length_append]; have := HLP.out i; omega
          obtain ⟨li, hli⟩ : ∃ li, li = l1 ++ (o.puts.take i).flatMap encP := ⟨_, rfl⟩
          rw [← hli] at HPi hll
          have HLI := Lib.hid hli
          clear hli
          generalize o.puts[i] = f at hri hw htk
          have HTK := Lib.hid htk
          have HRI := Lib.hid hri
          have hs1 : (Tryd.prog.info? 72).map (·.size) = some f.cells.length := by rw [hw.len]; exact size72
          have z1 : (i : Int) < (o.puts.length : Int) := by omega
          have HHS := Lib.hid hs1
          clear hr hri htk hs1
          go_upto_region 21 with (first | refine wpList_load_mid rfl 72 _ rfl bn (off + i * 35) rfl f.cells _ HRI.out Tryd.underlying72 rfl HHS.out ?_ | refine wpList_alloc_store rfl rfl 72 rfl 8 rfl (.tmp 68) rfl rfl 35 zero72 f.cells.toArray (by simp [hw.len]) rfl rfl (all_oneCell_toArray f.one) ?_)
          obtain ⟨g8, hg8⟩ : ∃ g8, g8 = wr.heap.size := ⟨_, rfl⟩
          rw [← hg8]
          generalize hw1 : wr.alloc (.cells f.cells.toArray 72) = wa
          have k8 : Hid (wa.heap[g8]? = some (.cells f.cells.toArray 72 (0, 0))) := by simp only [Hid]; rw [← hw1, hg8]; exact heap_alloc_new wr _
          have HPa : Hid (PS o (.slice AN o.news.length cN) (.slice (some ⟨bn, off, none⟩) o.puts.length cP) W.heap.size b w2 li wa) := by
            simp only [Hid]; rw [← hw1]; exact HPi.out.next (HPi.out.iw.alloc _) ((Below.refl _ _).alloc (Nat.le_of_lt HPi.out.iw.lt) _)
          have h8b : g8 ≠ b := by have := HPi.out.iw.lt; omega
          have H8B := Lib.hid h8b
          clear hw1 hg8 HPi HRI h8b
          have keep : ∀ (w w' : World), w.heap[g8]? = some (.cells f.cells.toArray 72 (0, 0)) → Lib.OthersKept 5 (some b) w w' → w'.heap[g8]? = some (.cells f.cells.toArray 72 (0, 0)) := fun w w' h k => k g8 _ h (fun e => H8B.out (Option.some.inj e)) (fun c fz e => by simp at e)
          have hcell : ∀ (w : World), w.heap[g8]? = some (.cells f.cells.toArray 72 (0, 0)) → w.cell? ⟨g8, 0, none⟩ = some (.int .i64 f.unit) ∧ w.cell? ⟨g8, 33, none⟩ = some (.int .i64 f.off) ∧ w.cell? ⟨g8, 34, none⟩ = some (.int .i64 f.mask) := fun w h => by
            refine ⟨by rw [blk_cell h]; rfl, ?_, ?_⟩
            · rw [blk_cell h, List.getElem?_toArray]
              unfold Pu.cells
              rw [List.getElem?_cons_succ, List.getElem?_append_right (by rw [List.length_map, hw.2.1.1]; omega), List.length_map, hw.2.1.1]
              rfl
            · rw [blk_cell h, List.getElem?_toArray]
              unfold Pu.cells
              rw [List.getElem?_cons_succ, List.getElem?_append_right (by rw [List.length_map, hw.2.1.1]; omega), List.length_map, hw.2.1.1]
              rfl
          have KEEP := Lib.hid keep
          have HCELL := Lib.hid hcell
          clear keep hcell
          have c0 := (HCELL.out _ k8.out).1
          go_wp2_with fail
          refine (number_one b 2 2 rfl _ f.unit wa HPa.out.iw (by omega) (by omega) (by omega)).mono ?_
          rintro e wb ⟨rfl, a1, a2, a3⟩
          have HPb := Lib.hid (HPa.out.next a1 a2)
          have k8b := Lib.hid (KEEP.out _ _ k8.out a3)
          clear a1 a2 a3 HPa k8 c0
          go_wp2_with fail
          refine (bufWrite_any b b _ f.key ⟨g8, 1, none⟩ 32 32 wb HPb.out.iw (Nat.le_of_lt HPb.out.iw.lt) (by simp [num_length]; omega) hw.2.1.1 (by omega) H8B.out (fun j v hj => by
            rw [Addr.add_mid, blk_cell k8b.out, List.getElem?_toArray, Nat.add_comm 1 j]
            unfold Pu.cells
            rw [List.getElem?_cons_succ, List.getElem?_append_left (List.getElem?_eq_some_iff.1 hj).1]
            exact hj)).mono ?_
          rintro e wc ⟨rfl, a1, a2, a3⟩
          have HPc := Lib.hid (HPb.out.next a1 a2)
          have k8c := Lib.hid (KEEP.out _ _ k8b.out a3)
          clear a1 a2 a3 HPb k8b
          have c1 := (HCELL.out _ k8c.out).2.1
          have c2 := (HCELL.out _ k8c.out).2.2
          go_wp2_with fail
          refine (number_two b 1 1 rfl _ f.off f.mask wc HPc.out.iw (by omega) (by omega) (by simp [hw.2.1.1, num_length]; omega)).mono ?_
          rintro e we ⟨rfl, a1, a2, a3⟩
          have HPe := Lib.hid (HPc.out.next a1 a2)
          clear a1 a2 a3 HPc k8c c1 c2
          have HE : Hid (li ++ num 2 f.unit ++ f.key ++ (num 1 f.off ++ num 1 f.mask) = li ++ encP f) := by simp [Hid, encP]
          go_wp2
          go_roundw
          case rel => exact ⟨i + 1, by go_num, by omega, by simp only [Hid]; rw [HTK.out, ← List.append_assoc, ← HLI.out, ← HE.out]; exact HPe.out⟩
          case measure => simp [intOf]; omega
        · obtain rfl : i = o.puts.length := by omega
          rw [List.take_length] at HPi
          obtain ⟨wz, hwz⟩ : ∃ wz : World, wz = wr := ⟨_, rfl⟩
          rw [← hwz] at HPi
          rw [← hwz]
          clear hwz
          have HPZ := HPi
          have hl3 : (l1 ++ o.puts.flatMap encP).length ≤ 2000 := by have := HLP.out o.puts.length; rw [List.take_length] at this; rw [List.length_append]; omega
          have HBY : Hid (bytes o = l1 ++ o.puts.flatMap encP) := by
            simp only [Hid]; unfold bytes; rw [if_pos HK.out, HL2.out, HL0.out, HK.out]; simp
          go_wp2_with fail
          refine (bufBytes_any b b _ _ HPZ.out.iw).mono ?_
          rintro e w' ⟨v, d, rfl, hv, rfl⟩
          have HV := Lib.hid hv
          clear hv
          go_wp2_with fail
          refine (clone_row (W := wz.drewN d) HV.out (by rw [List.length_append]; omega) (by omega)).mono ?_
          rintro e w'' ⟨v', rfl, hv', hb'⟩
          have HV2 := Lib.hid hv'
          have HB5 : Hid (Below W.heap.size W w'') := (pw_below_drewN (HB4.out.trans (HPZ.out.bel.mono (Nat.le_of_lt hWb))) d).trans (hb'.mono (by have := HPZ.out.iw.lt; show W.heap.size ≤ wz.heap.size; omega))
          clear hv' hb'
          go_wp2
          go_ret2
          exact putPost_yes HR.out HB5.out (by rw [HBY.out]; exact own_less HV2.out (by have := HPZ.out.iw.lt; show W.heap.size ≤ wz.heap.size; omega))

/-- op.Put. -/
theorem put_any (o : OpV) (vN vP : Value) (W : World) (hN : RdsF W vN o.news) (hP : RdsP W vP o.puts) (hl : o.news.length ≤ 100000) (hl2 : o.puts.length ≤ 100000) :
    Calls Tryd.prog 12 #[opVal o vN vP] W (PutPost o W) := by
  cases hr : right o
  · exact put_no o vN vP W hN hP hl hl2 hr
  · by_cases h1 : o.kind = 1
    · exact put_one o vN vP W hN hP hl hl2 hr h1
    · by_cases h2 : o.kind = 2
      · exact put_two o vN vP W hN hP hl hl2 hr h2
      · exact put_three o vN vP W hN hP hl hl2 hr h1 h2
end Go.Proofs.YtlagkfiafelnnaaDoor
