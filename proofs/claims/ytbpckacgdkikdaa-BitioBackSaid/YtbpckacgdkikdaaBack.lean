/- BitioBack: the walk. What is put, piece by piece, is got, piece by piece. -/
import Derived.Test.YtbpckacgdkikdaaAwake
import Derived.Test.YtbpckacgdkikdaaBackPlain
import Derived.Deep.DeepCutAuto
set_option linter.unusedVariables false
set_option linter.unusedSimpArgs false
namespace Go.Proofs.Ytbpckacgdkikdaa
open Go.RowKit Go.Proofs.YtbpckacgdkikdaaW.PrintWords Bits

theorem Try.info3 : (Try.prog.info? 3).map (fun i => (i.zero, i.size, i.bytes)) = some (some (.int .i64 0), 1, 8) := by kernel_rfl

/-- The first loop: i pieces have been put. -/
def BackRel1 (W : World) (B g : Nat) (ps : List Pc) (gk : Nat) (v4 v5 : Value) (wr : World) : Prop :=
  ∃ (i : Nat) (vw : Value), Hid (gk + i = ps.length) ∧ v5 = .int .i64 (i : Int) ∧ IsWr wr B g vw (brun (ps.take i)).1 (brun (ps.take i)).2 ∧ wr.ownsRow B 3 1 v4 i ((bplaces ps i).map (Value.int .i64)) ∧ Below B W wr ∧ B ≤ wr.heap.size

theorem own_ne_types {w : World} {b b' : Nat} {e e' : TypeId} {s s' n n' : Nat} {v v' : Value} {xs xs' : List Value} (h : w.ownsRow b e s v n xs) (h' : w.ownsRow b' e' s' v' n' xs') (hne : e ≠ e') : ∀ k, v.ownBlock = some k → v'.ownBlock ≠ some k := by
  intro k hk hk'
  rcases own_type_ne h h' hne with h1 | h1
  · rw [h1] at hk; simp at hk
  · exact h1 (by rw [hk, hk'])
theorem own_ne_blk {w : World} {b : Nat} {e t : TypeId} {s n g : Nat} {v : Value} {xs : List Value} {cs : Array Value} (h : w.ownsRow b e s v n xs) (hb : w.heap[g]? = some (.cells cs t (0, 0))) (hne : e ≠ t) : v.ownBlock ≠ some g := by
  intro e1
  obtain ⟨cells, hc⟩ := own_typed h g e1
  rw [hb] at hc
  simp at hc
  exact hne hc.2.symm

/-- The second loop: k pieces have been got. -/
def BackRel2 (W : World) (B gr : Nat) (vr v4 : Value) (n : Nat) (ps : List Pc) (xs : List Int) (gk : Nat) (v7 : Value) (wr : World) : Prop :=
  ∃ (k : Nat), Hid (gk + k = ps.length) ∧ v7 = .int .i64 (k : Int) ∧ IsRd wr B gr vr xs (brun (ps.take k)).2 ∧ wr.ownsRow B 3 1 v4 n ((bplaces ps n).map (Value.int .i64)) ∧ Below B W wr ∧ B ≤ wr.heap.size

theorem back_mask {p : Pc} (h0 : 0 ≤ p.v) (h1 : p.v < 4294967296) :
    bits BinOp.and IntKind.u64 p.v (IntKind.u64.wrap (IntKind.u64.wrap (2 ^ (p.n % 33).toNat) - 1)) % 4294967296 = ((p.v.toNat % 2 ^ p.len : Nat) : Int) := by
  have hl := p.len_le
  have := get_last (A := p.v.toNat) (M := p.v.toNat) (n := p.len) (r := 0) hl (by omega) (by simp)
  unfold Pc.len at this ⊢
  rw [← this]
  simp
  rw [Int.max_eq_left h0]

theorem PutPost.undrew {B g : Nat} {v : Value} {N L : Nat} {W W' : World} (h : PutPost B g v N L W.drew W') : PutPost B g v N L W W' := by
  obtain ⟨v', a, b, c⟩ := h
  exact ⟨v', a, ⟨b.os, b.tape, b.output, b.size, b.block⟩, c⟩
theorem PutPost.old {B g : Nat} {v : Value} {N L N' L' : Nat} {W W' : World} (h : PutPost B g v N' L' W W') (hw : IsWr W B g v N L) {a : Addr} {u : Value} (hc : W.cell? a = some u) (hb : a.block < B) : W'.cell? a = some u := by
  obtain ⟨v', _, b, _⟩ := h
  refine b.cell hc ?_
  rintro (hk | hk)
  · have := hw.2.1; omega
  · have := own_base hw.2.2.2 _ hk; omega

set_option maxHeartbeats 1000000 in
set_option maxRecDepth 100000 in
theorem back_walk (vl : Value) (ps0 : List Pc) (W : World) (hl : RdsP W vl ps0) :
    Calls Try.prog 8 #[vl] W fun e W' => e = .returned (.bool true) ∧ Below W.heap.size W W' := by
  obtain ⟨i0, hi, hz0, hz1, hz2⟩ := info_parts Try.info3
  obtain ⟨B, hB⟩ : ∃ B, B = W.heap.size := ⟨_, rfl⟩
  rw [← hB]
  have HBW := Lib.hid hB
  clear hB
  have hl0 := hl
  obtain ⟨A, c, rfl, hc1, hc2, hc3, hok, _⟩ := hl
  have hcl : ps0.length ≤ 9223372036854775807 := by omega
  go_enter Try.func8, Try.ntmps8
  go_wp2_with fail
  refine (awake_any _).mono ?_
  rintro e w1 ⟨rfl, b1⟩
  rw [← HBW.out] at b1
  have s1 : B ≤ w1.heap.size := by have := b1.size; rw [← HBW.out] at this; exact this
  -- the cut to 300 pieces
  have hcut : ∃ ps, Hid (ps = ps0.take 300) ∧ RdsP W (.slice A ps.length c) ps ∧ ps.length ≤ 300 ∧ (ps.length = if (300 : Nat) < ps0.length then 300 else ps0.length) := by
    refine ⟨ps0.take 300, rfl, ?_, ?_, ?_⟩
    · have : (ps0.take 300).length = min 300 ps0.length := List.length_take ..
      by_cases h : 300 ≤ ps0.length
      · have e : (ps0.take 300).length = 300 := by omega
        rw [e]
        exact hl0.take h
      · have e : ps0.take 300 = ps0 := List.take_of_length_le (by omega)
        rw [e]
        exact hl0
    · rw [List.length_take]; omega
    · rw [List.length_take]; split <;> omega
  obtain ⟨ps, HPS, hrd, h300, hlen⟩ := hcut
  have HRD := Lib.hid hrd
  clear hrd hl0 hok
  go_upto_if 18 with fail
  go_cut [0] (fun v0 wx => v0 = .slice A ps.length c ∧ wx = w1)
  case first =>
    by_cases hgt : 300 < ps0.length
    · have d1 : decide (300 < ps0.length) = true := decide_eq_true hgt
      rw [if_pos hgt] at hlen
      have HLEN := Lib.hid hlen
      clear hlen
      have hcc : (300 : Int) ≤ (c : Int) := by omega
      go_wp2_with fail
      go_meet
      exact ⟨by rw [HLEN.out], rfl⟩
    · have d1 : decide (300 < ps0.length) = false := decide_eq_false hgt
      rw [if_neg hgt] at hlen
      have HLEN := Lib.hid hlen
      clear hlen
      go_wp2_with fail
      go_meet
      exact ⟨by rw [HLEN.out], rfl⟩
  case rest =>
    obtain ⟨rfl, rfl⟩ := hcut
    clear hlen hcl hc1 hc2
    go_wp2_with fail
    refine (newWriter_any _ B s1).mono ?_
    rintro e w2 ⟨g, rfl, h2, b2, _⟩
    have bb2 : Below B W w2 := b1.trans (b2.mono s1)
    have s2 : B ≤ w2.heap.size := Nat.le_trans s1 b2.size
    clear b1 s1 b2
    go_wp2_with fail
    go_loopg [4, 5] ps.length (fun gk v4 v5 wr => BackRel1 W B g ps gk v4 v5 wr)
    case atStart => exact ⟨0, _, by simp [Hid], rfl, by simpa [brun] using h2, World.ownsRow_nil _ _ _ _, bb2, s2⟩
    case round =>
      clear h2 bb2 s2
      obtain ⟨i, vw, HG, rfl, hw, ho, bb, ss⟩ := hrel
      by_cases hlt : i < ps.length
      · obtain ⟨bl, ol, rfl, hblt, hcells⟩ := (HRD.out.below (by rw [← HBW.out]; exact bb)).old (by omega)
        obtain ⟨q0, q1, q2⟩ := hcells i hlt
        clear hcells
        have t0 : (i : Int) < (ps.length : Int) := by omega
        have hL := brun_small (ps.take i)
        rw [List.length_take] at hL
        have hLi : (brun (ps.take i)).2 ≤ 12000 := by omega
        have hpl := bplace_at ps i hlt
        have hple := alignL_le ps[i].al (brun (ps.take i)).2
        rw [← hpl] at hple
        have HPL := Lib.hid hpl
        have HBR := Lib.hid (brun_take ps i hlt)
        clear hpl hL
        obtain ⟨hple1, hple2⟩ := hple
        have hrng := HRD.out
        obtain ⟨_, _, _, _, _, _, hok, _⟩ := hrng
        obtain ⟨hv0, hv1, _, _⟩ := hok ps[i] (List.getElem_mem hlt)
        clear hok
        obtain ⟨p, hp⟩ : ∃ p, p = ps[i] := ⟨_, rfl⟩
        rw [← hp] at q0 q1 q2 hv0 hv1 HPL HBR
        have HP := Lib.hid hp
        clear hp
        generalize hN : (brun (ps.take i)).1 = N at *
        generalize hLL : (brun (ps.take i)).2 = L at *
        generalize hQ : bplace ps i = Q at *
        have HN := Lib.hid hN
        have HLL := Lib.hid hLL
        have HQ := Lib.hid hQ
        clear hN hLL hQ
        go_upto_if 32 with fail
        go_cut [3] (fun v3 wx => ∃ vw', v3 = .pointer (some ⟨g, 0, none⟩) ∧ IsWr wx B g vw' N Q ∧ wx.ownsRow B 3 1 u4 i ((bplaces ps i).map (Value.int .i64)) ∧ Below B W wx ∧ B ≤ wx.heap.size)
        case first =>
          cases hal : p.al
          · rw [hal] at q2 HPL
            go_wp2_with fail
            go_meet
            have : Q = L := HPL.out
            exact ⟨vw, rfl, by rw [this]; exact hw, ho, bb, ss⟩
          · rw [hal] at q2 HPL
            go_wp2_with fail
            refine (align_any B g vw N L _ (by omega) (by exact hw) ss).mono ?_
            rintro e w3 ⟨rfl, v3, h3, f3, _⟩
            go_wp2_with fail
            go_meet
            have : Q = (L + 7) / 8 * 8 := HPL.out
            exact ⟨v3, rfl, by rw [this]; exact h3, f3.own ho (fun k hk hs => by rcases hs with rfl | hs; exact own_ne_blk ho hw.1 (by decide) hk; exact own_ne_types ho hw.2.2.2 (by decide) k hk hs),
              Fr.then_below bb f3 ss (fun k hk => by rcases hk with rfl | hk; exact hw.2.1; exact own_base hw.2.2.2 k hk), Nat.le_trans ss f3.size⟩
        case rest =>
          clear hw ho bb ss q2
          obtain ⟨vw', rfl, hw, ho, bb, ss⟩ := hcut
          go_wp2_with fail
          refine (len_any B g vw' N Q _ (by omega) hw).mono ?_
          rintro e w4 ⟨rfl, hd4⟩
          have f4 : Fr (fun _ => False) wc w4 := by obtain ⟨d, rfl⟩ := hd4; exact Fr.drewN (Fr.refl _ _) _
          clear hd4
          have hw4 := hw.fr f4 (fun h => h) (fun _ _ h => h)
          have ho4 := f4.own ho (fun _ _ h => h)
          have bb4 : Below B W w4 := Fr.then_below bb f4 ss (fun k hk => hk.elim)
          have ss4 : B ≤ w4.heap.size := Nat.le_trans ss f4.size
          clear hw ho bb ss f4
          go_wp2_with (at_builtin; refine wpList_append_own _ rfl _ _ 23 rfl B 3 i0 (.int .i64 0) 1 8 Try.underlying23 hi hz0 hz1 hz2 rfl (by decide) u4 i ((bplaces ps i).map (Value.int .i64)) rfl (ho4.alloc _) ⟨w4.heap.size, 0, none⟩ 1 1 [.int .i64 (Q : Int)] rfl rfl (cell_one_new _ _ _) (by simp [Value.oneCell']) (by simp only [maxLen]; omega) (by omega) (by simp; omega) ?_)
          intro v4 w5 ho5 hg5 _
          have f5 : Fr (fun k => u4.ownBlock = some k) w4 w5 := Fr.grown (Fr.alloc (Fr.refl _ w4) _) hg5 (fun k hk => Or.inl hk)
          have hw5 : IsWr w5 B g vw' N Q := hw4.fr f5 (fun hk => own_ne_blk ho4 hw4.1 (by decide) hk) (fun k hk hs => own_ne_types ho4 hw4.2.2.2 (by decide) k hs hk)
          have bb5 : Below B W w5 := Fr.then_below bb4 f5 ss4 (fun k hk => own_base ho4 k hk)
          have ss5 : B ≤ w5.heap.size := Nat.le_trans ss4 f5.size
          have hold5 := HRD.out.below (by rw [← HBW.out]; exact bb5)
          obtain ⟨bl', ol', hA5, hbl5, hc5⟩ := hold5.old (by omega)
          have hA5' : bl = bl' ∧ ol = ol' := by simpa using hA5
          obtain ⟨rfl, rfl⟩ := hA5'
          obtain ⟨k0, k1, _⟩ := hc5 i hlt
          rw [← HP.out] at k0 k1
          have hblB : bl < B := by
            have h0 := (HRD.out.old (by omega))
            obtain ⟨b', o', hA', hb', _⟩ := h0
            have : bl = b' ∧ ol = o' := by simpa using hA'
            rw [HBW.out]
            omega
          clear hc5 hold5 hA5 hbl5 hg5 f5 ho4 hw4 bb4 ss4 q0 q1
          rw [show (bplaces ps i).map (Value.int .i64) ++ [.int .i64 (Q : Int)] = (bplaces ps (i + 1)).map (Value.int .i64) from by rw [bplaces_succ, HQ.out]; simp] at ho5
          have t1 : (i : Int) < (ps.length : Int) := by omega
          have t2 : (0 : Int) ≤ (i : Int) := by omega
          have q33 := Int.emod_lt_of_pos p.n (show (0 : Int) < 33 by decide)
          have q30 := Int.emod_nonneg p.n (show (33 : Int) ≠ 0 by decide)
          go_wp2_with fail
          go_region_held3 (fun w' => w'.cell? ⟨bl, ol + i * 3, none⟩ = some (.int .u32 p.v) ∧ w'.cell? ⟨bl, ol + i * 3 + 1, none⟩ = some (.int .i64 p.n))
            (first
              | go_keep
              | (go_split_ands
                 refine ⟨?_, ?_⟩
                 · exact k0'
                 · exact k1'))
            (first
              | (go_at_call 13; refine (pick_any p.n 33 _ (by decide) (by decide)).mono ?_; rintro e w' ⟨rfl, rfl⟩)
              | (go_at_call 15; refine (put_any B g vw' N Q p.v (p.n % 33) _ (by omega) (by omega) (by omega) (by omega) (by omega) (by exact hw5) (by exact ss5)).mono ?_; rintro e w6 ⟨rfl, hp6⟩; have hp6' := hp6.undrew; have k0' := hp6'.old hw5 k0 hblB; have k1' := hp6'.old hw5 k1 hblB))
          go_wp2
          obtain ⟨v6, h6, f6, l6⟩ := hp6'
          go_roundg (gk - 1)
          case measure => have := HG.out; omega
          case rel =>
            have e1 : brun (ps.take (i + 1)) = (puts N Q p.v.toNat (p.n % 33).toNat, Q + (p.n % 33).toNat) := by
              rw [HBR.out, HP.out]
              unfold bstep
              rw [← HP.out, HN.out, HLL.out, ← HPL.out]
              rfl
            refine ⟨i + 1, v6, by have := HG.out; simp only [Hid]; omega, by go_num, by rw [e1]; exact h6, ?_, Fr.then_below bb5 f6 ss5 (fun k hk => by rcases hk with rfl | hk; exact hw5.2.1; exact own_base hw5.2.2.2 k hk), Nat.le_trans ss5 f6.size⟩
            exact f6.own ho5 (fun k hk hs => by rcases hs with rfl | hs; exact own_ne_blk ho5 hw5.1 (by decide) hk; exact own_ne_types ho5 hw5.2.2.2 (by decide) k hk hs)
      · have hie : i = ps.length := by have := HG.out; omega
        have HIE := Lib.hid hie
        have tt : ¬ (i : Int) < (ps.length : Int) := by omega
        clear hie hlt
        have hL := brun_small ps
        have hLi : (brun ps).2 ≤ 12000 := by omega
        have htk : ps.take i = ps := by rw [HIE.out, List.take_length]
        rw [htk] at hw
        clear hL htk
        go_wp2_with fail
        refine (bytes_any B g vw _ _ _ (by omega) hw).mono ?_
        rintro e w3 ⟨v3, rfl, h3, b3⟩
        have bb3 : Below B W w3 := bb.trans (b3.mono ss)
        have ss3 : B ≤ w3.heap.size := Nat.le_trans ss b3.size
        have ho3 := pw_own_below ho b3
        have hxr := leb_range (brun ps).1 (((brun ps).2 + 7) / 8)
        have hbl : (byts (brun ps).1 (brun ps).2).length = ((brun ps).2 + 7) / 8 := leb_length _ _
        clear hw ho bb ss b3
        go_wp2_with fail
        refine (newReader_any v3 _ w3 (own_rds h3) (by omega) hxr).mono ?_
        rintro e w4 ⟨gr, vr, rfl, h4, b4⟩
        have bb4 : Below B W w4 := bb3.trans (b4.mono ss3)
        have ss4 : B ≤ w4.heap.size := Nat.le_trans ss3 b4.size
        have ho4 := pw_own_below ho3 b4
        have hr4 := h4.weaken ss3
        have HBL := Lib.hid hbl
        clear h3 h4 b4 bb3 ss3 ho3 hxr hbl
        have hlb : (brun ps).2 ≤ 8 * (byts (brun ps).1 (brun ps).2).length := by rw [HBL.out]; omega
        have hub : 8 * (byts (brun ps).1 (brun ps).2).length < (brun ps).2 + 8 := by rw [HBL.out]; omega
        have hofb := Lib.hid (ofb_byts (brun_lt ps))
        generalize hxs : byts (brun ps).1 (brun ps).2 = xs at *
        have HXS := Lib.hid hxs
        clear hxs
        go_wp2_with fail
        clear HG
        obtain ⟨A4, c4, rfl⟩ := own_len ho4
        go_loopg [7] ps.length (fun gk v7 wr => BackRel2 W B gr vr (.slice A4 i c4) i ps xs gk v7 wr)
        case atStart => exact ⟨0, by simp [Hid], rfl, by simpa [brun] using hr4, ho4, bb4, ss4⟩
        case round =>
          clear hr4 ho4 bb4 ss4 tt
          obtain ⟨k, HK, rfl, hr, ho, bb, ss⟩ := hrel
          by_cases hlt : k < ps.length
          · obtain ⟨gp, cp, hv4, _, _⟩ := ho.form (by have := HIE.out; omega)
            obtain ⟨rfl, rfl⟩ : A4 = some ⟨gp, 0, none⟩ ∧ c4 = cp := by simpa using hv4
            clear hv4
            obtain ⟨bl, ol, rfl, hblt, hcells⟩ := (HRD.out.below (by rw [← HBW.out]; exact bb)).old (by omega)
            obtain ⟨q0, q1, q2⟩ := hcells k hlt
            clear hcells
            have t0 : (k : Int) < (ps.length : Int) := by omega
            have hpl := bplace_at ps k hlt
            have HPL := Lib.hid hpl
            have HGOT := Lib.hid (back_got ps k hlt)
            have HBR := Lib.hid (brun_take ps k hlt)
            have hL := brun_small (ps.take k)
            rw [List.length_take] at hL
            have hLi : (brun (ps.take k)).2 ≤ 12000 := by omega
            have hple := alignL_le ps[k].al (brun (ps.take k)).2
            rw [← hpl] at hple
            clear hpl hL
            have hrng := HRD.out
            obtain ⟨_, _, _, _, _, _, hok, _⟩ := hrng
            obtain ⟨hv0, hv1, _, _⟩ := hok ps[k] (List.getElem_mem hlt)
            clear hok
            obtain ⟨p, hp⟩ : ∃ p, p = ps[k] := ⟨_, rfl⟩
            rw [← hp] at q0 q1 q2 hv0 hv1 HPL HBR HGOT
            have HP := Lib.hid hp
            clear hp
            have hQL : bplace ps k + p.len ≤ (brun ps).2 := HGOT.out.2
            obtain ⟨hple1, hple2⟩ := hple
            generalize hLL : (brun (ps.take k)).2 = L at *
            generalize hQ : bplace ps k = Q at *
            have HLL := Lib.hid hLL
            have HQ := Lib.hid hQ
            clear hLL hQ
            have q33 := Int.emod_lt_of_pos p.n (show (0 : Int) < 33 by decide)
            have q30 := Int.emod_nonneg p.n (show (33 : Int) ≠ 0 by decide)
            go_wp2_with fail
            refine (pick_any p.n 33 _ (by decide) (by decide)).mono ?_
            rintro e w' ⟨rfl, rfl⟩
            go_upto_if 73 with fail
            go_cut [6] (fun v6 wx => v6 = .pointer (some ⟨gr, 0, none⟩) ∧ IsRd wx B gr vr xs Q ∧ wx.ownsRow B 3 1 (.slice (some ⟨gp, 0, none⟩) i c4) i ((bplaces ps i).map (Value.int .i64)) ∧ Below B W wx ∧ B ≤ wx.heap.size)
            case first =>
              cases hal : p.al
              · rw [hal] at q2 HPL
                go_wp2_with fail
                go_meet
                have : Q = L := HPL.out
                exact ⟨rfl, by rw [this]; exact hr, ho, bb, ss⟩
              · rw [hal] at q2 HPL
                go_wp2_with fail
                refine (ralign_any B gr vr xs L _ (by exact hr)).mono ?_
                rintro e w3 ⟨rfl, h3, f3⟩
                go_wp2_with fail
                go_meet
                have : Q = (L + 7) / 8 * 8 := HPL.out
                exact ⟨rfl, by rw [this]; exact h3, f3.own ho (fun k hk hs => by rw [hs] at hk; exact own_ne_blk ho hr.1 (by decide) hk), (f3.one bb ss hr.2.1).1, (f3.one bb ss hr.2.1).2⟩
            case rest =>
              clear hr ho bb ss q0 q1 q2 hblt
              obtain ⟨rfl, hr, ho, bb, ss⟩ := hcut
              have hold5 := HRD.out.below (by rw [← HBW.out]; exact bb)
              obtain ⟨bl', ol', hA5, hbl5, hc5⟩ := hold5.old (by omega)
              have hA5' : bl = bl' ∧ ol = ol' := by simpa using hA5
              obtain ⟨rfl, rfl⟩ := hA5'
              obtain ⟨k0, k1, _⟩ := hc5 k hlt
              rw [← HP.out] at k0 k1
              have hblB : bl < B := by
                have h0 := (HRD.out.old (by omega))
                obtain ⟨b', o', hA', hb', _⟩ := h0
                have : bl = b' ∧ ol = o' := by simpa using hA'
                rw [HBW.out]
                omega
              clear hc5 hold5 hA5 hbl5 k1
              have hcp := ho.cells (g := gp) rfl k (.int .i64 (Q : Int)) (by rw [List.getElem?_map, bplaces_at ps i k (by have := HIE.out; omega), HQ.out]; rfl)
              rw [add_plain] at hcp
              have hki : (k : Int) < (i : Int) := by have := HIE.out; omega
              have hk0 : (0 : Int) ≤ (k : Int) := by omega
              have hQb : Q ≤ 8 * xs.length := by omega
              have hQQ : ((Q : Int) != (Q : Int)) = false := by simp
              have hAt := fun (n : Nat) => at_any gr (Q : Int) (wc.drewN n) ((blk_cell hr.1 2).trans rfl)
              have HAT := Lib.hid hAt
              clear hAt
              go_wp2_with fail
              go_quiet ((go_at_call 31; exact Calls.quiet_of_same ((HAT.out _).mono (fun _ _ h => ⟨h.1, h.2.symm⟩))))
              have hplen : (p.n % 33).toNat = p.len := rfl
              have hgot : got (ofb xs) Q (p.n % 33).toNat = p.v.toNat % 2 ^ p.len := by rw [hofb.out]; exact HGOT.out.1
              have HGT := Lib.hid hgot
              clear hgot hplen
              go_wp2_with fail
              refine (get_any B gr vr xs Q (p.n % 33) _ (by exact hr) q30 (by omega) (by unfold Pc.len at hQL; omega)).mono ?_
              rintro e w4 ⟨rfl, h4, f4⟩
              rw [HGT.out]
              have hk4 := f4.cell k0 (by show ¬ bl = gr; have := hr.2.1; omega)
              have hmask := back_mask hv0 hv1
              have bb4 := (f4.one (pw_below_drewN bb _) ss hr.2.1).1
              have ss4 := Nat.le_trans ss f4.size
              have ho4 : w4.ownsRow B 3 1 (.slice (some ⟨gp, 0, none⟩) i c4) i ((bplaces ps i).map (Value.int .i64)) := f4.own ho (fun k hk hs => by rw [hs] at hk; exact own_ne_blk ho hr.1 (by decide) hk)
              have hself : (((p.v.toNat % 2 ^ p.len : Nat) : Int) != ((p.v.toNat % 2 ^ p.len : Nat) : Int)) = false := by simp
              clear f4
              generalize hG : p.v.toNat % 2 ^ p.len = G at *
              clear hG
              go_wp2
              go_roundg (gk - 1)
              case measure => have := HK.out; omega
              case rel =>
                have e1 : (brun (ps.take (k + 1))).2 = Q + (p.n % 33).toNat := by
                  rw [HBR.out, HP.out]
                  show alignL ps[k].al (brun (ps.take k)).2 + ps[k].len = _
                  rw [← HP.out, HLL.out, ← HPL.out]
                  rfl
                exact ⟨k + 1, by have := HK.out; simp only [Hid]; omega, by go_num, by rw [e1]; exact h4, ho4, bb4, ss4⟩
          · have hke : k = ps.length := by have := HK.out; omega
            have tt : ¬ (k : Int) < (ps.length : Int) := by omega
            have htk : ps.take k = ps := by rw [hke, List.take_length]
            rw [htk] at hr
            clear htk hke hlt
            have hrest := Lib.hid (back_rest ps (8 * (xs.length : Int) - ((brun ps).2 : Int)).toNat)
            generalize hLL : (brun ps).2 = L at *
            have HLL := Lib.hid hLL
            clear hLL
            go_wp2_with fail
            refine (left_any B gr vr xs L _ hr).mono ?_
            rintro e w' ⟨rfl, d, rfl⟩
            have z1 : decide ((0 : Int) ≤ 8 * (xs.length : Int) - (L : Int)) = true := decide_eq_true (by omega)
            have z2 : decide (8 * (xs.length : Int) - (L : Int) < 8) = true := decide_eq_true (by omega)
            go_wp2_with fail
            refine (get_any B gr vr xs L (8 * (xs.length : Int) - (L : Int)) (wr.drewN d) (by exact hr) (by omega) (by omega) (by omega)).mono ?_
            rintro e w4 ⟨rfl, h4, f4⟩
            rw [show got (ofb xs) L (8 * (xs.length : Int) - (L : Int)).toNat = 0 from by rw [hofb.out]; exact hrest.out]
            have t8 : 8 * (xs.length : Int) - (L : Int) < 8 := by omega
            have t9 : (L : Int) ≤ 8 * (xs.length : Int) := by omega
            go_wp2
            go_ret
            exact ⟨rfl, (f4.one (pw_below_drewN bb _) ss hr.2.1).1⟩

end Go.Proofs.Ytbpckacgdkikdaa
