/- lz.Parse: the walk. -/
import Derived.Test.YtpjjiighojkagaaScan
set_option linter.unusedVariables false
set_option linter.unusedSimpArgs false
namespace Go.Proofs.Ytpjjiighojkagaa
open Go.RowKit Go.Maps Go.WideMaps Go.Proofs.YtpjjiighojkagaaW.PrintWords

def cellsQ (ps : List Pie) : List Value := ps.flatMap (fun p => [.int .u8 p.b, .int .i64 p.len, .int .i64 p.dist])
theorem cellsQ_append (ps qs : List Pie) : cellsQ (ps ++ qs) = cellsQ ps ++ cellsQ qs := by simp [cellsQ]
theorem cellsQ_length (ps : List Pie) : (cellsQ ps).length = ps.length * 3 := by
  induction ps with
  | nil => rfl
  | cons p ps ih => 
    have e : cellsQ (p :: ps) = [.int .u8 p.b, .int .i64 p.len, .int .i64 p.dist] ++ cellsQ ps := rfl
    rw [e, List.length_append, ih]; simp; omega
theorem cellsQ_at : ∀ (ps : List Pie) (j : Nat) (h : j < ps.length), (cellsQ ps)[j * 3]? = some (.int .u8 ps[j].b) ∧ (cellsQ ps)[j * 3 + 1]? = some (.int .i64 ps[j].len) ∧ (cellsQ ps)[j * 3 + 2]? = some (.int .i64 ps[j].dist)
  | p :: ps, 0, _ => ⟨rfl, rfl, rfl⟩
  | p :: ps, j + 1, h => by
    have ih := cellsQ_at ps j (by simpa using h)
    have e : cellsQ (p :: ps) = [.int .u8 p.b, .int .i64 p.len, .int .i64 p.dist] ++ cellsQ ps := rfl
    rw [e]
    refine ⟨?_, ?_, ?_⟩
    · rw [List.getElem?_append_right (by simp; omega)]
      simpa [show (j + 1) * 3 - 3 = j * 3 from by omega] using ih.1
    · rw [List.getElem?_append_right (by simp; omega)]
      simpa [show (j + 1) * 3 + 1 - 3 = j * 3 + 1 from by omega] using ih.2.1
    · rw [List.getElem?_append_right (by simp; omega)]
      simpa [show (j + 1) * 3 + 2 - 3 = j * 3 + 2 from by omega] using ih.2.2
theorem own_rdsQ {W : World} {B n : Nat} {v : Value} {ps : List Pie} (h : W.ownsRow B 35 3 v n (cellsQ ps)) (hok : ∀ p ∈ ps, p.ok) (hn : ps.length = n) : RdsQ W v ps := by
  subst hn
  rcases h.2 with ⟨e, e0⟩ | ⟨g, cap, cur, e, hb, hg, h1, h2, _⟩
  · exact ⟨none, 0, by rw [e, e0], by omega, fun _ => rfl, by omega, hok, fun hp => absurd hp (by omega)⟩
  · subst e
    simp only [maxLen] at h2
    refine ⟨_, cap, rfl, h1, fun h => by simp at h, by omega, hok, fun hp => ⟨_, rfl, fun j hj => ?_⟩⟩
    obtain ⟨c0, c1, c2⟩ := cellsQ_at ps j hj
    rw [add_plain, add_plain, add_plain]
    exact ⟨(h.cellAt _ (by omega)).trans c0, (h.cellAt _ (by omega)).trans c1, (h.cellAt _ (by omega)).trans c2⟩

/-- What Parse's own variables hold. -/
structure Env (B : Nat) (W0 : World) (v : Value) (bs : List Int) (gb gA gM gm ga c k : Nat) (f : Int → Int → Int → Option Nat) (ah : List Int) (w : World) : Prop where
  hb : w.heap[gb]? = some (.cells #[v] 25 (0, 0))
  hA : w.heap[gA]? = some (.cells #[.slice (some ⟨ga, 0, none⟩) bs.length c] 33 (0, 0))
  hM : w.heap[gM]? = some (.cells #[.map (some gm)] 70 (0, 0))
  ho : w.ownsRow B 3 1 (.slice (some ⟨ga, 0, none⟩) bs.length c) bs.length (ah.map (Value.int .i64))
  hm : IsM w gm k f
  bb : Below B W0 w
  ss : B ≤ w.heap.size
  sb : B ≤ gb
  sA : B ≤ gA
  sM : B ≤ gM
  sm : B ≤ gm

section
variable {B gb gA gM gm ga c k : Nat} {W0 w w1 : World} {v : Value} {bs ah : List Int} {f : Int → Int → Int → Option Nat}
theorem Env.ga_ (h : Env B W0 v bs gb gA gM gm ga c k f ah w) : B ≤ ga := own_base h.ho ga rfl
theorem Env.fr {S : Nat → Prop} (h : Env B W0 v bs gb gA gM gm ga c k f ah w) (hf : Fr S w w1) (hs : ∀ i, S i → B ≤ i) (h1 : ¬ S gb) (h2 : ¬ S gA) (h3 : ¬ S gM) (h4 : ¬ S gm) (h5 : ¬ S ga) : Env B W0 v bs gb gA gM gm ga c k f ah w1 :=
  ⟨hf.heap h.hb h1, hf.heap h.hA h2, hf.heap h.hM h3, hf.own h.ho (fun i hi => by cases hi; exact h5), h.hm.fr hf h4, hf.then_below h.bb h.ss hs, Nat.le_trans h.ss hf.size, h.sb, h.sA, h.sM, h.sm⟩
theorem Env.gap (h : Env B W0 v bs gb gA gM gm ga c k f ah w) : gm ≠ ga := by
  rcases h.ho.2 with ⟨e, _⟩ | ⟨g, cap, cur, e, _, hg, _⟩
  · simp at e
  · simp at e
    rw [← e.1] at hg
    exact fun e2 => h.hm.ne hg e2.symm
theorem Env.other {g : Nat} {cs : Array Value} {t : TypeId} (h : Env B W0 v bs gb gA gM gm ga c k f ah w) (hg : w.heap[g]? = some (.cells cs t (0, 0))) (hne : 3 ≠ t) : ¬ (g = ga ∨ g = gm) := by
  rintro (e | e)
  · exact own_ne_blk' h.ho hg hne e
  · exact h.hm.ne hg e
theorem Env.apart {v' : Value} {n : Nat} {xs : List Value} {e : TypeId} {s B' : Nat} (h : Env B W0 v bs gb gA gM gm ga c k f ah w) (ho' : w.ownsRow B' e s v' n xs) (hne : 3 ≠ e) : ∀ i, v'.ownBlock = some i → ¬ (i = ga ∨ i = gm) := by
  intro i hi
  obtain ⟨cells, hc⟩ := own_typed ho' i hi
  exact h.other hc hne
theorem Env.ne_of {g t' : Nat} {cs : Array Value} {t : TypeId} (hg : w.heap[g]? = some (.cells cs t (0, 0))) {g' : Nat} {cs' : Array Value} (hg' : w.heap[g']? = some (.cells cs' t' (0, 0))) (hne : t ≠ t') : g ≠ g' := blk_ne hg hg' hne

theorem put_env {p : Nat} (h : Env B W0 v bs gb gA gM gm ga c k f ah w) (hv : Rds w .u8 v bs) (hw : ∀ x ∈ bs, Byte x) (hp : p < bs.length) (h64 : bs.length ≤ 65536) (hk : k ≤ 100000) (hP : PInv bs p f ah) :
    Calls Try.prog 30 #[.int .i64 (p : Int), .pointer (some ⟨gb, 0, none⟩), .pointer (some ⟨gA, 0, none⟩), .pointer (some ⟨gM, 0, none⟩)] w (fun e w' => e = .returned (.tuple #[]) ∧ Fr (fun i => i = ga ∨ i = gm) w w' ∧
      Env B W0 v bs gb gA gM gm ga c (k + 1) (putF f bs p) (putA f bs ah p) w') := by
  by_cases h3 : p + 3 ≤ bs.length
  · refine (put_yes p bs.length k gb gA gM gm ga c B v bs ah f w h.hb hv hw h3 h64 h.hA h.ho rfl h.hM h.hm hk (fun q hq => by have := (hP.sound p q h3 hq).1; omega)).mono ?_
    rintro e w' ⟨rfl, hf, ho, hm⟩
    refine ⟨rfl, hf, ⟨hf.heap h.hb (h.other h.hb (by decide)), hf.heap h.hA (h.other h.hA (by decide)), hf.heap h.hM (h.other h.hM (by decide)), ho, hm, hf.then_below h.bb h.ss ?_, Nat.le_trans h.ss hf.size, h.sb, h.sA, h.sM, h.sm⟩⟩
    rintro i (rfl | rfl)
    · exact h.ga_
    · exact h.sm
  · refine (put_no p bs.length gb gA gM v bs w h.hb hv (by omega) h64 (by omega)).mono ?_
    rintro e w' ⟨rfl, rfl⟩
    have e1 : putF f bs p = f := if_neg h3
    have e2 : putA f bs ah p = ah := if_neg h3
    refine ⟨rfl, Fr.refl _ _, ?_⟩
    rw [e1, e2]
    obtain ⟨a1, a2, a3, a4, ⟨D, hD, hD2⟩, a6, a7, a8, a9, a10, a11⟩ := h
    exact ⟨a1, a2, a3, a4, ⟨D, hD.mono (Nat.le_succ _), hD2⟩, a6, a7, a8, a9, a10, a11⟩
end

theorem infoInt : (Try.prog.info? 3).map (fun i => (i.zero, i.size, i.bytes)) = some (some (.int .i64 0), 1, 8) := by kernel_rfl
theorem infoPiece : (Try.prog.info? 35).map (fun i => (i.zero, i.size, i.bytes)) = some (some (.agg #[.int .u8 0, .int .i64 0, .int .i64 0]), 3, 24) := by kernel_rfl

theorem env_start (W : World) (v : Value) (bs : List Int) (h64 : bs.length ≤ 65536) (B : Nat) (hB : B = W.heap.size) :
    Env B W v bs B (B + 4) (B + 2) (B + 1) (B + 3) bs.length 0 (fun _ _ _ => none) (List.replicate bs.length 0)
      (((((W.alloc (.cells #[v] 25)).alloc (.map #[] 0)).alloc (.cells #[.map (some (B + 1))] 70)).alloc (.cells (madeCells #[.int .i64 0] bs.length) 3)).alloc (.cells #[.slice (some ⟨B + 3, 0, none⟩) bs.length bs.length] 33)) := by
  subst hB
  have b1 := heap_alloc_new W (.cells #[v] 25)
  generalize hW1 : W.alloc (.cells #[v] 25) = W1 at *
  have s1 : W1.heap.size = W.heap.size + 1 := by rw [← hW1]; simp
  have f1 : Fr (fun _ => False) W W1 := by rw [← hW1]; exact (Fr.refl _ _).alloc _
  have m2 := IsM.made W1
  have b2 := blk_alloc b1 (.map #[] 0)
  generalize hW2 : W1.alloc (.map #[] 0) = W2 at *
  have s2 : W2.heap.size = W.heap.size + 2 := by rw [← hW2]; simp; omega
  have f2 : Fr (fun _ => False) W W2 := by rw [← hW2]; exact f1.alloc _
  have m3 := m2.fr ((Fr.refl (fun _ => False) W2).alloc (.cells #[.map (some (W.heap.size + 1))] 70)) (fun h => h)
  have c3 := heap_alloc_new W2 (.cells #[.map (some (W.heap.size + 1))] 70)
  have b3 := blk_alloc b2 (.cells #[.map (some (W.heap.size + 1))] 70)
  generalize hW3 : W2.alloc (.cells #[.map (some (W.heap.size + 1))] 70) = W3 at *
  have s3 : W3.heap.size = W.heap.size + 3 := by rw [← hW3]; simp; omega
  have f3 : Fr (fun _ => False) W W3 := by rw [← hW3]; exact f2.alloc _
  have o4 := own_made W3 W.heap.size 3 .i64 bs.length (by omega) (by omega)
  have m4 := m3.fr ((Fr.refl (fun _ => False) W3).alloc (.cells (madeCells #[.int .i64 0] bs.length) 3)) (fun h => h)
  have c4 := blk_alloc c3 (.cells (madeCells #[.int .i64 0] bs.length) 3)
  have b4 := blk_alloc b3 (.cells (madeCells #[.int .i64 0] bs.length) 3)
  generalize hW4 : W3.alloc (.cells (madeCells #[.int .i64 0] bs.length) 3) = W4 at *
  have s4 : W4.heap.size = W.heap.size + 4 := by rw [← hW4]; simp; omega
  have f4 : Fr (fun _ => False) W W4 := by rw [← hW4]; exact f3.alloc _
  rw [s1] at m4
  rw [s2] at c4
  rw [s3] at o4
  have c5 := heap_alloc_new W4 (.cells #[.slice (some ⟨W.heap.size + 3, 0, none⟩) bs.length bs.length] 33)
  rw [s4] at c5
  exact ⟨blk_alloc b4 _, c5, blk_alloc c4 _, o4.alloc _, m4.fr ((Fr.refl (fun _ => False) W4).alloc _) (fun h => h), (f4.alloc _).below (Nat.le_refl _) (fun _ h => h.elim), by simp; omega, by omega, by omega, by omega, by omega⟩

def ParRel (B : Nat) (W : World) (v : Value) (bs : List Int) (gk : Nat) (v7 v8 : Value) (wr : World) : Prop :=
  ∃ (p k nr : Nat) (f : Int → Int → Int → Option Nat) (ah : List Int) (out : List Pie), Hid (Run bs nr out p f ah) ∧ Hid (gk + p = bs.length) ∧ v8 = .int .i64 (p : Int) ∧ p ≤ bs.length ∧ k ≤ p ∧ Hid (PInv bs p f ah) ∧ Hid (PS bs out p) ∧
    Hid (Env B W v bs B (B + 4) (B + 2) (B + 1) (B + 3) bs.length k f ah wr) ∧ Hid (wr.ownsRow B 35 3 v7 out.length (cellsQ out))

set_option maxHeartbeats 4000000 in
set_option maxRecDepth 100000 in
theorem parse_all (v : Value) (bs : List Int) (W : World) (hv : Rds W .u8 v bs) (hw : ∀ x ∈ bs, Byte x) (h64 : bs.length ≤ 65536) :
    Calls Try.prog 18 #[v] W (fun e W' => ∃ v' out, e = .returned v' ∧ Hid (W'.ownsRow W.heap.size 35 3 v' out.length (cellsQ out)) ∧ Below W.heap.size W W' ∧ PS bs out bs.length ∧ Says bs out) := by
  have hv0 := hv
  obtain ⟨B, hB⟩ : ∃ B, B = W.heap.size := ⟨_, rfl⟩
  have hES := env_start W v bs h64 B hB
  obtain ⟨A, c1, rfl, hc1, hc2, hr⟩ := hv
  have hmk := print_make (P := Try.prog) 33 3 .i64 8 Try.underlying33 infoInt (by decide) bs.length (by omega)
  have hmm := @run_makeMap Try.prog
  rw [← hB]
  have HV := Lib.hid hv0
  have HES := Lib.hid hES
  have HW := Lib.hid hw
  have HB := Lib.hid hB
  clear hv0 hES hr hc2 hw
  go_enter Try.func18, Try.ntmps18
  go_upto_region 7 with fail
  rw [← hB]
  simp only [Nat.add_assoc, Nat.reduceAdd]
  generalize hW5 : ((((W.alloc _).alloc _).alloc _).alloc _).alloc _ = W5
  rw [hW5] at HES
  clear hW5 hmk hmm hB
  go_wp2_with fail
  go_loopg [7, 8] bs.length (fun gk v7 v8 wr => ParRel B W (.slice A bs.length c1) bs gk v7 v8 wr)
  case atStart => exact ⟨0, 0, 0, _, _, [], Run.nil, by simp [Hid], rfl, by omega, by omega, PInv.zero bs, PS.nil, HES.out, World.ownsRow_nil _ _ _ _⟩
  case round =>
    clear HES
    obtain ⟨p, k, nr, f, ah, out, HRN, HG, rfl, hpn, hkp, HP, HPS, HE, HO⟩ := hrel
    have k1 := cell_of_one HE.out.hb
    by_cases hlt : p < bs.length
    · have hvr := HV.out.below (by rw [← HB.out]; exact HE.out.bb)
      obtain ⟨b, off, rfl, hblt, hcells⟩ := Rds.at_old hvr (by omega)
      have x0 := hcells p hlt
      have HC := Lib.hid hcells
      have HVR := Lib.hid hvr
      clear hvr hcells
      have t0 : (p : Int) < (bs.length : Int) := by omega
      generalize hX : bs.getD p 0 = X at *
      have HX := Lib.hid hX
      clear hX
      go_upto_region 11 with fail
      obtain ⟨gB, hgB⟩ : ∃ gB, gB = wr.heap.size := ⟨_, rfl⟩
      rw [← hgB]
      generalize hW1 : wr.alloc (.cells #[.int .u8 X, .int .i64 0, .int .i64 0] 35) = w1
      have f1 : Fr (fun _ => False) wr w1 := by rw [← hW1]; exact (Fr.refl _ _).alloc _
      have hk1 : w1.heap[gB]? = some (.cells #[.int .u8 X, .int .i64 0, .int .i64 0] 35 (0, 0)) := by rw [← hW1, hgB]; exact heap_alloc_new wr _
      have E1 := HE.out.fr f1 (fun _ h => h.elim) (fun h => h) (fun h => h) (fun h => h) (fun h => h) (fun h => h)
      have o1 := f1.own HO.out (fun _ _ h => h)
      have nB : gB ≠ B := fun e => by have := blk_lt HE.out.hb; omega
      have hgBB : B ≤ gB := by have := HE.out.ss; omega
      have nov : ∀ i, (u7).ownBlock = some i → i ≠ gB := fun i hi => by have := own_lt HO.out i hi; omega
      have NOV := Lib.hid nov
      have HGB := Lib.hid hgB
      clear hW1 k1 x0 nov hgB
      go_wp2_with fail
      refine (put_env (p := p) E1 (HV.out.below (by rw [← HB.out]; exact E1.bb)) HW.out hlt h64 (by omega) HP.out).mono ?_
      rintro e w2 ⟨rfl, f2, E2⟩
      have P2 := HP.out.put hlt
      have hk2 := f2.heap hk1 (E1.other hk1 (by decide))
      have o2 := f2.own o1 (E1.apart o1 (by decide))
      generalize hf2 : putF f bs p = f' at *
      generalize ha2 : putA f bs ah p = ah' at *
      have HPN : Hid (putN bs p 1 (f, ah) = (f', ah')) := by simp only [Hid]; rw [putN_one, hf2, ha2]
      have HAH : Hid (putA f bs ah p = ah') := ha2
      have HE1 := Lib.hid E1
      have HE2 := Lib.hid E2
      have HP2 := Lib.hid P2
      have HO1 := Lib.hid o1
      have HO2 := Lib.hid o2
      have HK1 := Lib.hid hk1
      have HK2 := Lib.hid hk2
      have k2 := cell_of_one E2.hb
      clear E1 E2 P2 o1 o2 hk1 hk2 f1 f2 hf2 ha2 HE HO HP HVR HC
      go_upto_if 38 with fail
      clear k2
      generalize hT : decide ((p : Int) + 3 ≤ (bs.length : Int)) = tt
      have HT := Lib.hid hT
      clear hT
      go_cut [10, 11, 12] (fun _ _ _ wx => ∃ pc, Hid (StepOK bs p pc) ∧ Hid (NearOK bs p pc) ∧ Hid (Best bs ah' p pc) ∧ Hid (wx.heap[gB]? = some (.cells #[.int .u8 pc.b, .int .i64 pc.len, .int .i64 pc.dist] 35 (0, 0))) ∧ Hid (Fr (fun i => i = gB) w2 wx))
      case first =>
        have kA := cell_of_one HE2.out.hA
        by_cases h3 : p + 3 ≤ bs.length
        · obtain rfl : tt = true := by rw [← HT.out]; exact decide_eq_true (by omega)
          obtain ⟨a1, a2⟩ := HP2.out.ahd p (by omega) h3
          obtain ⟨x, hx⟩ : ∃ x, x = ah'.getD p 0 := ⟨_, rfl⟩
          have a0 : w2.cell? ⟨B + 3, p, none⟩ = some (.int .i64 x) := by
            rw [HE2.out.ho.cellAt p (by omega), List.getElem?_map, hx, List.getD_eq_getElem?_getD, List.getElem?_eq_getElem (by rw [HP2.out.len]; omega)]
            rfl
          rw [← hx] at a1 a2
          have HX0 := Lib.hid hx
          have HA1 := Lib.hid a1
          have HA2 := Lib.hid a2
          clear hx a1 a2
          go_wp2_with fail
          clear a0 kA
          obtain ⟨gK, rfl⟩ : ∃ gK : Nat, gK = gk := ⟨_, rfl⟩
          obtain ⟨wo, rfl⟩ : ∃ wo : World, wo = wr := ⟨_, rfl⟩
          go_loopg [10, 11] 24 (fun gj v10 v11 wx => ∃ (y : Int) (cnt : Nat) (pc : Pie), Hid (gj + cnt = 24) ∧ v10 = .int .i64 y ∧ v11 = .int .i64 (cnt : Int) ∧ cnt ≤ 24 ∧ Hid (y = -1 ∨ ∃ q : Nat, y = (q : Int) ∧ q < p ∧ same3 bs q p) ∧ Hid (StepOK bs p pc) ∧ Hid (Scan bs ah' p y cnt pc) ∧ Hid (cnt = 0 → y = x) ∧ Hid (0 < cnt → x = ((p - 1 : Nat) : Int) → ∀ m, LenIs bs (p - 1) p m → (m : Int) ≤ pc.len) ∧
            Hid (wx.heap[gB]? = some (.cells #[.int .u8 pc.b, .int .i64 pc.len, .int .i64 pc.dist] 35 (0, 0))) ∧ Hid (Fr (fun i => i = gB) w2 wx))
          case atStart => exact ⟨x, 0, ⟨X, 0, 0⟩, by simp [Hid], rfl, rfl, by omega, HA1.out, by rw [← HX.out]; exact .inl rfl, by simp only [Hid]; rw [HX0.out, ← HX.out]; exact Scan.zero, fun _ => rfl, fun h => absurd h (by omega), HK2.out, Fr.refl _ _⟩
          case round =>
            obtain ⟨y, cnt, pc, HJ, rfl, rfl, hc24, HY, HS, HSC, HZ, HN, HKB, HF⟩ := hrel
            have nBA : ¬ (B + 4 = gB) := fun e => (blk_ne HE2.out.hA HK2.out (by decide)) e
            have ER := HE2.out.fr HF.out (fun i hi => by rw [hi]; exact hgBB) (fun e => nB e.symm) (blk_ne HE2.out.hA HK2.out (by decide)) (blk_ne HE2.out.hM HK2.out (by decide)) (fun e => HE2.out.other HK2.out (by decide) (.inr e.symm)) (fun e => HE2.out.other HK2.out (by decide) (.inl e.symm))
            have HER := Lib.hid ER
            clear ER
            have near : (cnt = 0 → x ≠ ((p - 1 : Nat) : Int)) → NearOK bs p pc := fun hh h1 h0 hs m hl => by
              have hx := HA2.out h0 hs
              rcases Nat.eq_zero_or_pos cnt with hz | hz
              · exact absurd hx (hh hz)
              · exact HN.out hz hx m hl
            have NEAR := Lib.hid near
            clear near
            rcases HY.out with rfl | ⟨q, rfl, hqp, hsame⟩
            · -- nothing stood there
              have s4 : decide ((0 : Int) ≤ -1) = false := rfl
              go_wp2_with fail
              go_meet
              exact ⟨pc, HS.out, NEAR.out (fun hz => by have := HZ.out hz; omega), ⟨fun _ => ⟨_, _, HSC.out, by unfold Stop; omega⟩, fun h => absurd h3 h⟩, HKB.out, HF.out⟩
            · have HSM := Lib.hid hsame
              clear hsame
              by_cases hfar : (p : Int) - (q : Int) ≤ 32768
              · have s4 : decide ((p : Int) - (q : Int) ≤ 32768) = true := decide_eq_true hfar
                by_cases hcn : cnt < 24
                · have s5 : decide ((cnt : Int) < 24) = true := decide_eq_true (by omega)
                  go_wp2_with fail
                  refine (len_any q p B _ bs wr HER.out.hb (HV.out.below (by rw [← HB.out]; exact HER.out.bb)) hqp (by omega) h64).mono ?_
                  rintro e wq ⟨m, d, hL, rfl, hwq⟩
                  have f3 : Fr (fun i => i = gB) w2 wq := by rw [hwq]; exact HF.out.drewN d
                  have kb : wq.heap[gB]? = some (.cells #[.int .u8 pc.b, .int .i64 pc.len, .int .i64 pc.dist] 35 (0, 0)) := by rw [hwq]; exact HKB.out
                  have EQ := HE2.out.fr f3 (fun i hi => by rw [hi]; exact hgBB) (fun e => nB e.symm) (blk_ne HE2.out.hA HK2.out (by decide)) (blk_ne HE2.out.hM HK2.out (by decide)) (fun e => HE2.out.other HK2.out (by decide) (.inr e.symm)) (fun e => HE2.out.other HK2.out (by decide) (.inl e.symm))
                  have m3 := hL.three HSM.out h3
                  have mtop := hL.top
                  obtain ⟨a1, _⟩ := HP2.out.ahd q (by omega) (by omega)
                  have HA3 := Lib.hid a1
                  have HL := Lib.hid hL
                  clear a1 hL hwq
                  have hql : q < ah'.length := by rw [HP2.out.len]; omega
                  have q0 : (q : Int) < (bs.length : Int) := by omega
                  obtain ⟨y', hy'⟩ : ∃ y', y' = ah'.getD q 0 := ⟨_, rfl⟩
                  have HYN : Hid (y' = -1 ∨ ∃ r : Nat, y' = (r : Int) ∧ r < p ∧ same3 bs r p) := by
                    rw [hy']
                    rcases HA3.out with h | ⟨r, h, hr, hs⟩
                    · exact .inl h
                    · exact .inr ⟨r, h, by omega, hs.trans HSM.out⟩
                  have hcq : ∀ wz : World, wz.ownsRow B 3 1 (.slice (some ⟨B + 3, 0, none⟩) bs.length bs.length) bs.length (ah'.map (Value.int .i64)) → wz.cell? ⟨B + 3, q, none⟩ = some (.int .i64 y') := fun wz hz => by
                    rw [hz.cellAt q (by omega), List.getElem?_map, hy', List.getD_eq_getElem?_getD, List.getElem?_eq_getElem hql]
                    rfl
                  have HCQ := Lib.hid hcq
                  have HSU : Hid (Scan bs ah' p y' (cnt + 1) (if pc.len < (m : Int) then ⟨0, (m : Int), ((p - q : Nat) : Int)⟩ else pc)) := by simp only [Hid]; rw [hy']; exact Scan.succ HSC.out hfar hcn HL.out
                  clear hcq hy' hql
                  have HEQ := Lib.hid EQ
                  have HF3 := Lib.hid f3
                  have kl : wq.cell? ⟨gB, 1, none⟩ = some (.int .i64 pc.len) := (blk_cell kb 1).trans rfl
                  by_cases hgt : pc.len < (m : Int)
                  · have z0 := blk_frozen kb 0
                    have z1 := blk_frozen kb 1
                    have z2 := blk_frozen kb 2
                    have kc0 : wq.cell? ⟨gB, 0, none⟩ = some (.int .u8 pc.b) := (blk_cell kb 0).trans rfl
                    have kc2 : wq.cell? ⟨gB, 2, none⟩ = some (.int .i64 pc.dist) := (blk_cell kb 2).trans rfl
                    have HKQ := Lib.hid kb
                    clear EQ f3 kb
                    go_upto_region 15 with fail
                    have hpq : (p : Int) - (q : Int) = ((p - q : Nat) : Int) := by omega
                    have kb' := blk_set (blk_set (blk_set HKQ.out 0 (.int .u8 0)) 1 (.int .i64 (m : Int))) 2 (.int .i64 ((p : Int) - (q : Int)))
                    have f4 : Fr (fun i => i = gB) w2 (((wq.setCell ⟨gB, 0, none⟩ (.int .u8 0)).setCell ⟨gB, 1, none⟩ (.int .i64 (m : Int))).setCell ⟨gB, 2, none⟩ (.int .i64 ((p : Int) - (q : Int)))) :=
                      ((HF3.out.set (p := ⟨gB, 0, none⟩) (.inl rfl) _).set (p := ⟨gB, 1, none⟩) (.inl rfl) _).set (p := ⟨gB, 2, none⟩) (.inl rfl) _
                    generalize ((wq.setCell ⟨gB, 0, none⟩ (.int .u8 0)).setCell ⟨gB, 1, none⟩ (.int .i64 (m : Int))).setCell ⟨gB, 2, none⟩ (.int .i64 ((p : Int) - (q : Int))) = wz at *
                    rw [hpq] at kb'
                    have ES := HE2.out.fr f4 (fun i hi => by rw [hi]; exact hgBB) (fun e => nB e.symm) (blk_ne HE2.out.hA HK2.out (by decide)) (blk_ne HE2.out.hM HK2.out (by decide)) (fun e => HE2.out.other HK2.out (by decide) (.inr e.symm)) (fun e => HE2.out.other HK2.out (by decide) (.inl e.symm))
                    have kA := cell_of_one ES.hA
                    have kq := HCQ.out wz ES.ho
                    have HKZ := Lib.hid kb'
                    have HF4 := Lib.hid f4
                    have hle : pc.len ≤ (m : Int) := by omega
                    have hpd : p - q ≤ 32768 := by omega
                    clear ES kb' f4 hpq kl z0 z1 z2 kc0 kc2
                    go_wp2_with fail
                    go_roundg (gk - 1)
                    case measure => have := HJ.out; omega
                    case rel => exact ⟨y', cnt + 1, ⟨0, (m : Int), ((p - q : Nat) : Int)⟩, by have := HJ.out; simp only [Hid]; omega, rfl, by go_num, by omega, HYN, .inr ⟨q, m, hqp, m3, HL.out, hpd, rfl⟩, by have := HSU.out; rwa [if_pos (show pc.len < (m : Int) by omega)] at this, fun h => absurd h (by omega), near_next HN.out HZ.out HL.out hle (Int.le_refl _), HKZ.out, HF4.out⟩
                  · have HKQ := Lib.hid kb
                    have kA := cell_of_one EQ.hA
                    have kq := HCQ.out wq EQ.ho
                    clear EQ f3 kb
                    go_wp2_with fail
                    go_roundg (gk - 1)
                    case measure => have := HJ.out; omega
                    case rel => exact ⟨y', cnt + 1, pc, by have := HJ.out; simp only [Hid]; omega, rfl, by go_num, by omega, HYN, HS.out, by have := HSU.out; rwa [if_neg (show ¬ pc.len < (m : Int) by omega)] at this, fun h => absurd h (by omega), near_next HN.out HZ.out HL.out (by omega) (by omega), HKQ.out, HF3.out⟩
                · have s5 : decide ((cnt : Int) < 24) = false := decide_eq_false (by omega)
                  go_wp2_with fail
                  go_meet
                  exact ⟨pc, HS.out, NEAR.out (fun hz => by omega), ⟨fun _ => ⟨_, _, HSC.out, by unfold Stop; omega⟩, fun h => absurd h3 h⟩, HKB.out, HF.out⟩
              · have s4 : decide ((p : Int) - (q : Int) ≤ 32768) = false := decide_eq_false hfar
                go_wp2_with fail
                go_meet
                exact ⟨pc, HS.out, NEAR.out (fun hz => by have := HZ.out hz; omega), ⟨fun _ => ⟨_, _, HSC.out, by unfold Stop; omega⟩, fun h => absurd h3 h⟩, HKB.out, HF.out⟩
        · obtain rfl : tt = false := by rw [← HT.out]; exact decide_eq_false (by omega)
          go_wp2_with fail
          go_meet
          exact ⟨⟨X, 0, 0⟩, by rw [← HX.out]; exact .inl rfl, fun h => absurd h h3, ⟨fun h => absurd h h3, fun _ => by rw [HX.out]⟩, HK2.out, Fr.refl _ _⟩
      case rest =>
        obtain ⟨pc, HS, HN, HBE, HKB, HF⟩ := hcut
        have EC := HE2.out.fr HF.out (fun i hi => by rw [hi]; exact hgBB) (fun e => nB e.symm) (blk_ne HE2.out.hA HK2.out (by decide)) (blk_ne HE2.out.hM HK2.out (by decide)) (fun e => HE2.out.other HK2.out (by decide) (.inr e.symm)) (fun e => HE2.out.other HK2.out (by decide) (.inl e.symm))
        have OC := HF.out.own HO2.out NOV.out
        obtain ⟨hl0, hl1, hl2⟩ := HS.out.len
        have hpa := adv_le HS.out hlt
        have hadv : adv pc = max pc.len.toNat 1 := rfl
        have HAD := Lib.hid hadv
        have HEC := Lib.hid EC
        have HOC := Lib.hid OC
        clear EC OC hadv
        go_upto_region 19 with fail
        go_cut [77, 78] (fun v77 v78 wx => v77 = .int .i64 ((adv pc - 1 : Nat) : Int) ∧ v78 = .int .i64 0 ∧ wx = wc)
        case first =>
          have kl : wc.cell? ⟨gB, 1, none⟩ = some (.int .i64 pc.len) := (blk_cell HKB.out 1).trans rfl
          go_wp2
          all_goals
            go_meet
            refine ⟨?_, rfl, rfl⟩
            have := HAD.out
            congr 1
            omega
        case rest =>
          obtain ⟨rfl, rfl, rfl⟩ := hcut
          obtain ⟨L, hL⟩ : ∃ L, L = adv pc - 1 := ⟨_, rfl⟩
          rw [← hL]
          have hpL : p + L < bs.length := by omega
          have haL : adv pc = L + 1 := by have := HAD.out; omega
          clear hpa hL hl2 hl0 hl1
          have HAL := Lib.hid haL
          clear haL
          obtain ⟨gK, rfl⟩ : ∃ gK : Nat, gK = gk := ⟨_, rfl⟩
          obtain ⟨wo, rfl⟩ : ∃ wo : World, wo = wr := ⟨_, rfl⟩
          go_wp2_with fail
          go_loopg [8, 78] L (fun gj v8 v78 wx => ∃ (j t k' : Nat) (f2 : Int → Int → Int → Option Nat) (ah2 : List Int), Hid (gj + j = L) ∧ Hid (t = p + j) ∧ v8 = .int .i64 (t : Int) ∧ v78 = .int .i64 (j : Int) ∧ k' ≤ t + 1 ∧ Hid (PInv bs (t + 1) f2 ah2) ∧ Hid (putN bs p (j + 1) (f, ah) = (f2, ah2)) ∧
            Hid (Env B W (.slice (some ⟨b, off, none⟩) bs.length c1) bs B (B + 4) (B + 2) (B + 1) (B + 3) bs.length k' f2 ah2 wx) ∧ Hid (wx.heap[gB]? = some (.cells #[.int .u8 pc.b, .int .i64 pc.len, .int .i64 pc.dist] 35 (0, 0))) ∧ Hid (wx.ownsRow B 35 3 u7 out.length (cellsQ out)))
          case atStart => exact ⟨0, p, k + 1, f', ah', by simp [Hid], rfl, rfl, rfl, by omega, HP2.out, HPN.out, HEC.out, HKB.out, HOC.out⟩
          case round =>
            obtain ⟨j, t, k', f2, ah2, HJ, HT2, rfl, rfl, hk', HP3, HN2, HE3, HK3, HO3⟩ := hrel
            by_cases hjl : j < L
            · have z0 : (j : Int) < (L : Int) := by omega
              have htl : t + 1 < bs.length := by have := HT2.out; omega
              go_wp2_with fail
              have hcall := put_env (p := t + 1) HE3.out (HV.out.below (by rw [← HB.out]; exact HE3.out.bb)) HW.out htl h64 (by omega) HP3.out
              have e1 : ((t + 1 : Nat) : Int) = (t : Int) + 1 := by omega
              rw [e1] at hcall
              refine hcall.mono ?_
              rintro e w5 ⟨rfl, f5, E5⟩
              have P5 := HP3.out.put htl
              have k5 := f5.heap HK3.out (HE3.out.other HK3.out (by decide))
              have o5 := f5.own HO3.out (HE3.out.apart HO3.out (by decide))
              have HE5 := Lib.hid E5
              have HP5 := Lib.hid P5
              have HK5 := Lib.hid k5
              have HO5 := Lib.hid o5
              clear E5 P5 k5 o5 f5 hcall e1
              go_wp2_with fail
              go_roundg (gk - 1)
              case measure => have := HJ.out; omega
              case rel => exact ⟨j + 1, t + 1, k' + 1, _, _, by have := HJ.out; simp only [Hid]; omega, by have := HT2.out; simp only [Hid]; omega, by go_num, by go_num, by omega, HP5.out, putN_next HN2.out HT2.out, HE5.out, HK5.out, HO5.out⟩
            · have hje : j = L := by have := HJ.out; omega
              have z0 : ¬ (j : Int) < (L : Int) := by omega
              have hps := PS.snoc HPS.out hlt HS.out HN.out
              rw [HAL.out, show p + (L + 1) = t + 1 from by have := HT2.out; omega] at hps
              have hle := hps.le
              have HPS2 := Lib.hid hps
              have HRU : Hid (Run bs (nr + 1) (out ++ [pc]) (t + 1) f2 ah2) := by
                have hb := HBE.out
                rw [← HAH.out] at hb
                have hru := Run.snoc HRN.out hlt hb
                rw [HAL.out, show p + (L + 1) = t + 1 from by have := HT2.out; omega, ← hje, HN2.out] at hru
                exact hru
              have hol := HPS.out.le
              have kb0 : wr.cell? ⟨gB, 0, none⟩ = some (.int .u8 pc.b) := (blk_cell HK3.out 0).trans rfl
              have kb1 : wr.cell? ⟨gB, 1, none⟩ = some (.int .i64 pc.len) := (blk_cell HK3.out 1).trans rfl
              have kb2 : wr.cell? ⟨gB, 2, none⟩ = some (.int .i64 pc.dist) := (blk_cell HK3.out 2).trans rfl
              clear hps
              go_wp2_with (at_builtin; refine print_append_cells (w0 := W) (W := wr) B rfl _ _ 22 35 _ 3 24 rfl Try.underlying22 infoPiece rfl (by decide) (by decide) u7 out.length (cellsQ out) [.int .u8 pc.b, .int .i64 pc.len, .int .i64 pc.dist] rfl rfl rfl (by simp [Value.oneCell']) HO3.out HE3.out.bb HE3.out.ss (by omega) ?_)
              intro v1 w1 ho1 bb1 hg1 hat1
              have f6 : Fr (fun i => (u7).ownBlock = some i) wr w1 := (Fr.refl _ wr).grown hg1 (fun k hk => .inl hk)
              have E6 := HE3.out.fr f6 (fun i hi => own_base HO3.out i hi) (own_ne_blk HO3.out HE3.out.hb (by decide)) (own_ne_blk HO3.out HE3.out.hA (by decide)) (own_ne_blk HO3.out HE3.out.hM (by decide)) (fun e => HE3.out.apart HO3.out (by decide) _ e (.inr rfl)) (fun e => HE3.out.apart HO3.out (by decide) _ e (.inl rfl))
              have HE6 := Lib.hid E6
              have o6 : w1.ownsRow B 35 3 v1 (out ++ [pc]).length (cellsQ (out ++ [pc])) := by
                rw [cellsQ_append, List.length_append]
                exact ho1
              have HO6 := Lib.hid o6
              clear E6 o6 ho1 bb1 hg1 hat1 f6
              go_wp2
              go_roundg (bs.length - (t + 1))
              case measure => have := HG.out; have := HT2.out; omega
              case rel => exact ⟨t + 1, k', nr + 1, f2, ah2, out ++ [pc], HRU, by simp only [Hid]; omega, by go_num, by omega, hk', HP3, HPS2, HE6, HO6⟩
    · have hpe : p = bs.length := by omega
      have tt : ¬ (p : Int) < (bs.length : Int) := by omega
      have hps := HPS.out
      rw [hpe] at hps
      have HPS2 := Lib.hid hps
      have HSY : Hid (Says bs out) := by
        have hr := HRN.out
        rw [hpe] at hr
        exact ⟨_, _, _, hr⟩
      clear hps
      go_wp2
      go_ret
      exact ⟨_, rfl, out, HO, HE.out.bb, HPS2.out, HSY.out⟩

theorem parse_any (v : Value) (bs : List Int) (W : World) (hv : Rds W .u8 v bs) (hw : ∀ x ∈ bs, Byte x) (h64 : bs.length ≤ 65536) :
    Calls Try.prog 18 #[v] W (fun e W' => ∃ v' out, e = .returned v' ∧ Hid (W'.ownsRow W.heap.size 35 3 v' out.length (cellsQ out)) ∧ Below W.heap.size W W' ∧ PS bs out bs.length) :=
  (parse_all v bs W hv hw h64).mono fun e W' ⟨v', out, he, ho, hb, hp, _⟩ => ⟨v', out, he, ho, hb, hp⟩

theorem parse_long (v : Value) (bs : List Int) (W : World) (hv : Rds W .u8 v bs) (h64 : 65536 < bs.length) :
    Calls Try.prog 18 #[v] W (fun e W' => e = .returned (.slice none 0 0) ∧ Below W.heap.size W W') := by
  obtain ⟨A, c1, rfl, hc1, hc2, hr⟩ := hv
  have hm := hr.2.1
  have t0 : (65536 : Int) < (bs.length : Int) := by omega
  clear hr hc2
  go_enter Try.func18, Try.ntmps18
  go_wp2
  go_ret
  exact ⟨rfl, (Below.refl _ _).alloc (Nat.le_refl _) _⟩

end Go.Proofs.Ytpjjiighojkagaa
