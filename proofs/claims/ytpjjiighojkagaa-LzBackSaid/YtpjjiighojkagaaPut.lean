/- lz.Parse's two closures: what each does. -/
import Derived.Test.YtpjjiighojkagaaMap
import Derived.Deep.DeepCutAuto
import Derived.Lib.Hide
import Derived.Laws.Cover3
set_option linter.unusedVariables false
set_option linter.unusedSimpArgs false
namespace Go.Proofs.Ytpjjiighojkagaa
open Go.RowKit Go.Maps Go.WideMaps Go.Proofs.YtpjjiighojkagaaW.PrintWords

def at3 (f : Int → Int → Int → Option Nat) (bs : List Int) (p : Nat) : Option Nat := f (bs.getD p 0) (bs.getD (p + 1) 0) (bs.getD (p + 2) 0)
def prevOf (f : Int → Int → Int → Option Nat) (bs : List Int) (p : Nat) : Int := match at3 f bs p with | some q => (q : Int) | none => -1
def putF (f : Int → Int → Int → Option Nat) (bs : List Int) (p : Nat) : Int → Int → Int → Option Nat := if p + 3 ≤ bs.length then upd f (bs.getD p 0) (bs.getD (p + 1) 0) (bs.getD (p + 2) 0) p else f
def putA (f : Int → Int → Int → Option Nat) (bs ah : List Int) (p : Nat) : List Int := if p + 3 ≤ bs.length then ah.set p (prevOf f bs p) else ah

theorem Rds.at_old {W : World} {A : Option Addr} {n c : Nat} {k : IntKind} {bs : List Int} (h : Rds W k (.slice A n c) bs) (hp : 0 < bs.length) :
    ∃ b off, A = some ⟨b, off, none⟩ ∧ b < W.heap.size ∧ ∀ j, j < bs.length → W.cell? ⟨b, off + j, none⟩ = some (.int k (bs.getD j 0)) := by
  obtain ⟨A', c', e, _, _, h1, h2, h3⟩ := h
  injection e with e1 e2 e3
  subst e1
  obtain ⟨ad, rfl, hc⟩ := h3 hp
  obtain ⟨b, off, spot⟩ := ad
  have hspot : spot = none := by simpa [Addr.add] using World.cell?_spot (hc 0 hp)
  subst hspot
  refine ⟨b, off, rfl, ?_, fun j hj => ?_⟩
  · have := World.block_lt_of_cell? W _ (hc 0 hp)
    rwa [Go.WideShapes.add_plain] at this
  · have := hc j hj
    rw [Go.WideShapes.add_plain] at this
    rw [this, List.getD_eq_getElem?_getD, List.getElem?_eq_getElem hj, Option.getD_some]

theorem own_ne_blk' {w : World} {b : Nat} {e t : TypeId} {s n c g ga : Nat} {xs : List Value} {cs : Array Value} (h : w.ownsRow b e s (.slice (some ⟨ga, 0, none⟩) n c) n xs) (hb : w.heap[g]? = some (.cells cs t (0, 0))) (hne : e ≠ t) : g ≠ ga := by
  intro e1
  obtain ⟨cells, hc⟩ := own_typed h ga rfl
  rw [← e1, hb] at hc
  simp at hc
  exact hne hc.2.symm

set_option maxHeartbeats 2000000 in
set_option maxRecDepth 100000 in
theorem put_no (p n gb gA gM : Nat) (v : Value) (bs : List Int) (W : World) (hb : W.heap[gb]? = some (.cells #[v] 25 (0, 0))) (hv : Rds W .u8 v bs) (hp : p ≤ bs.length) (h64 : bs.length ≤ 65536) (hno : bs.length < p + 3) :
    Calls Try.prog 30 #[.int .i64 (p : Int), .pointer (some ⟨gb, 0, none⟩), .pointer (some ⟨gA, 0, none⟩), .pointer (some ⟨gM, 0, none⟩)] W (fun e W' => e = .returned (.tuple #[]) ∧ W' = W) := by
  obtain ⟨A, c, rfl, hc1, hc2, hr⟩ := hv
  have k1 := cell_of_one hb
  have t0 : (bs.length : Int) < (p : Int) + 3 := by omega
  have HR := Lib.hid hr
  have HB := Lib.hid hb
  clear hr hb
  go_enter Try.func30, Try.ntmps30
  go_wp2
  refine bodyPost_ret (results_none rfl _ _ _) rfl ?_
  exact ⟨rfl, rfl⟩

set_option maxHeartbeats 2000000 in
set_option maxRecDepth 100000 in
theorem put_yes (p n k gb gA gM gm ga c B : Nat) (v : Value) (bs ah : List Int) (f : Int → Int → Int → Option Nat) (W : World) (hb : W.heap[gb]? = some (.cells #[v] 25 (0, 0))) (hv : Rds W .u8 v bs) (hw : ∀ x ∈ bs, Byte x) (hp : p + 3 ≤ bs.length) (h64 : bs.length ≤ 65536)
    (hA : W.heap[gA]? = some (.cells #[.slice (some ⟨ga, 0, none⟩) n c] 33 (0, 0))) (ho : W.ownsRow B 3 1 (.slice (some ⟨ga, 0, none⟩) n c) n (ah.map (Value.int .i64))) (hn : n = bs.length)
    (hM : W.heap[gM]? = some (.cells #[.map (some gm)] 70 (0, 0))) (hm : IsM W gm k f) (hk : k ≤ 100000) (hq : ∀ q, at3 f bs p = some q → q ≤ 65536) :
    Calls Try.prog 30 #[.int .i64 (p : Int), .pointer (some ⟨gb, 0, none⟩), .pointer (some ⟨gA, 0, none⟩), .pointer (some ⟨gM, 0, none⟩)] W (fun e W' => e = .returned (.tuple #[]) ∧ Fr (fun i => i = ga ∨ i = gm) W W' ∧
      W'.ownsRow B 3 1 (.slice (some ⟨ga, 0, none⟩) n c) n ((putA f bs ah p).map (Value.int .i64)) ∧ IsM W' gm (k + 1) (putF f bs p)) := by
  subst hn
  have hbl : 0 < bs.length := by omega
  obtain ⟨A, c1, rfl, hc1, hc2, hr⟩ := hv
  obtain ⟨b, off, rfl, hblt, hcells⟩ := Rds.at_old (W := W) (A := A) (n := bs.length) (c := c1) (k := .u8) (bs := bs) ⟨A, c1, rfl, hc1, hc2, hr⟩ hbl
  have k1 := cell_of_one hb
  have k2 := cell_of_one hA
  have k3 := cell_of_one hM
  have x0 := hcells p (by omega)
  have x1 := hcells (p + 1) (by omega)
  have x2 := hcells (p + 2) (by omega)
  rw [← Nat.add_assoc] at x1 x2
  have t0 : ¬ (bs.length : Int) < (p : Int) + 3 := by omega
  have t1 : (p : Int) ≤ (bs.length : Int) := by omega
  have t2 : (p : Int) < (bs.length : Int) := by omega
  have hgw : ∀ j, j < bs.length → Byte (bs.getD j 0) := fun j hj => by
    rw [List.getD_eq_getElem?_getD, List.getElem?_eq_getElem hj, Option.getD_some]
    exact hw _ (List.getElem_mem hj)
  have w0 := hgw p (by omega)
  have w1 := hgw (p + 1) (by omega)
  have w2 := hgw (p + 2) (by omega)
  have hRF : putF f bs p = upd f (bs.getD p 0) (bs.getD (p + 1) 0) (bs.getD (p + 2) 0) p := if_pos hp
  have hRA : putA f bs ah p = ah.set p (prevOf f bs p) := if_pos hp
  have hPV : prevOf f bs p = match f (bs.getD p 0) (bs.getD (p + 1) 0) (bs.getD (p + 2) 0) with | some q => (q : Int) | none => -1 := rfl
  have hq' : ∀ q, f (bs.getD p 0) (bs.getD (p + 1) 0) (bs.getD (p + 2) 0) = some q → q ≤ 65536 := hq
  have HRF := Lib.hid hRF
  have HRA := Lib.hid hRA
  have HPV := Lib.hid hPV
  have HQ := Lib.hid hq'
  have HR := Lib.hid hr
  have HB := Lib.hid hb
  clear hr hb hcells hgw hRF hRA hPV hq' hq
  have haa := run_arrayAt (P := Try.prog) (w := W) 72 5 3 (some ⟨b, off + p, none⟩) (bs.length - p) (c1 - p) Try.underlying72 (by omega)
  generalize bs.getD p 0 = X at *
  generalize bs.getD (p + 1) 0 = Y at *
  generalize bs.getD (p + 2) 0 = Z at *
  have HMF := Lib.hid hM
  have HAF := Lib.hid hA
  clear hM hA
  go_enter Try.func30, Try.ntmps30
  go_upto_region 2 with fail
  obtain ⟨gk, hgk⟩ : ∃ gk, gk = W.heap.size := ⟨_, rfl⟩
  rw [← hgk]
  generalize hW1 : W.alloc (.cells #[.int .u8 X, .int .u8 Y, .int .u8 Z] 72) = W1
  have f1 : Fr (fun i => i = ga ∨ i = gm) W W1 := by rw [← hW1]; exact (Fr.refl _ _).alloc _
  have hk1 : W1.heap[gk]? = some (.cells #[.int .u8 X, .int .u8 Y, .int .u8 Z] 72 (0, 0)) := by rw [← hW1, hgk]; exact heap_alloc_new W _
  have ho1 : W1.ownsRow B 3 1 (.slice (some ⟨ga, 0, none⟩) bs.length c) bs.length (ah.map (Value.int .i64)) := by rw [← hW1]; exact ho.alloc _
  have hA1 : W1.heap[gA]? = some (.cells #[.slice (some ⟨ga, 0, none⟩) bs.length c] 33 (0, 0)) := by rw [← hW1]; exact blk_alloc HAF.out _
  have hM1 : W1.heap[gM]? = some (.cells #[.map (some gm)] 70 (0, 0)) := by rw [← hW1]; exact blk_alloc HMF.out _
  have hm1 : IsM W1 gm k f := by rw [← hW1]; exact hm.fr ((Fr.refl (fun _ => False) W).alloc _) (fun h => h)
  have hgg : ga ≠ gm := by
    rcases ho.2 with ⟨e, _⟩ | ⟨g, cap, cur, e, _, hg, _⟩
    · simp at e
    · simp at e
      rw [← e.1] at hg
      exact hm.ne hg
  clear hW1 k1 k2 k3 x0 x1 x2 haa ho hm
  have HGK := Lib.hid hgk
  clear hgk
  have k2 := cell_of_one hA1
  have z2 := ho1.frozenAt p
  obtain ⟨u1, hu1⟩ : ∃ u, W1.cell? ⟨ga, p, none⟩ = some u := by
    rw [ho1.cellAt p (by omega)]
    exact ⟨_, List.getElem?_eq_getElem (by rw [ho1.1]; omega)⟩
  obtain ⟨ho2, hg2⟩ := ho1.stored p (.int .i64 (-1))
  have nA : gA ≠ ga := own_ne_blk' ho1 hA1 (by decide)
  have nM : gM ≠ ga := own_ne_blk' ho1 hM1 (by decide)
  have nK : gk ≠ ga := own_ne_blk' ho1 hk1 (by decide)
  have hA2 := blk_grown hA1 hg2 (by simpa using nA)
  have hM2 := blk_grown hM1 hg2 (by simpa using nM)
  have hk2 := blk_grown hk1 hg2 (by simpa using nK)
  have hm2 : IsM (W1.setCell ⟨ga, p, none⟩ (.int .i64 (-1))) gm k f := hm1.fr (S := fun i => i = ga) ((Fr.refl (fun i => i = ga) W1).set (p := ⟨ga, p, none⟩) (.inl rfl) _) (fun e => hgg e.symm)
  have f2 : Fr (fun i => i = ga ∨ i = gm) W (W1.setCell ⟨ga, p, none⟩ (.int .i64 (-1))) := f1.set (.inl (.inl rfl)) _
  have HO1 := Lib.hid ho1
  have HA1 := Lib.hid hA1
  have HM1 := Lib.hid hM1
  have HK1 := Lib.hid hk1
  clear ho1 hA1 hM1 hk1 hm1 f1
  go_upto_region 3 with fail
  generalize W1.setCell ⟨ga, p, none⟩ (.int .i64 (-1)) = W2 at *
  have k4 := cell_of_one hM2
  have k6 := cell_of_one hA2
  have c0 : W2.cell? ⟨gk, 0, none⟩ = some (.int .u8 X) := (blk_cell hk2 0).trans rfl
  have c1 : W2.cell? ⟨gk, 1, none⟩ = some (.int .u8 Y) := (blk_cell hk2 1).trans rfl
  have c2 : W2.cell? ⟨gk, 2, none⟩ = some (.int .u8 Z) := (blk_cell hk2 2).trans rfl
  have HA2 := Lib.hid hA2
  have HM2 := Lib.hid hM2
  have HK2 := Lib.hid hk2
  clear hA2 hM2 hk2
  have z5 := ho2.frozenAt p
  obtain ⟨u2, hu2⟩ : ∃ u, W2.cell? ⟨ga, p, none⟩ = some u := by
    rw [ho2.cellAt p (by omega)]
    exact ⟨_, List.getElem?_eq_getElem (by rw [ho2.1]; omega)⟩
  cases hf : f X Y Z with
  | none =>
    rw [hf] at HPV
    go_upto_if 27 with (at_lookup; refine isM_lookup rfl _ _ rfl rfl hm2 w0 w1 w2 rfl ?_; rw [hf])
    go_wp2_with (at_mapUpdate; refine isM_store rfl _ _ _ rfl rfl hm2 (by omega) w0 w1 w2 rfl (by omega) rfl ?_)
    intro w6 hm6 hg6
    go_wp2
    go_end0
    refine ⟨rfl, f2.grown hg6 (fun k hk => by cases hk; exact .inl (.inr rfl)), ?_, by rw [HRF.out]; exact hm6⟩
    rw [HRA.out, HPV.out, List.map_set]
    exact own_other ho2 hg6 (by simpa [Value.ownBlock] using hgg)
  | some q =>
    rw [hf] at HPV
    obtain ⟨ho3, hg3⟩ := ho2.stored p (.int .i64 (q : Int))
    have hM3 := blk_grown HM2.out hg3 (by simpa using nM)
    have hk3 := blk_grown HK2.out hg3 (by simpa using nK)
    have hm3 : IsM (W2.setCell ⟨ga, p, none⟩ (.int .i64 (q : Int))) gm k f := hm2.fr (S := fun i => i = ga) ((Fr.refl (fun i => i = ga) W2).set (p := ⟨ga, p, none⟩) (.inl rfl) _) (fun e => hgg e.symm)
    have f3 : Fr (fun i => i = ga ∨ i = gm) W (W2.setCell ⟨ga, p, none⟩ (.int .i64 (q : Int))) := f2.set (.inl (.inl rfl)) _
    go_upto_if 27 with (at_lookup; refine isM_lookup rfl _ _ rfl rfl hm2 w0 w1 w2 rfl ?_; rw [hf])
    go_upto_region 6 with fail
    generalize W2.setCell ⟨ga, p, none⟩ (.int .i64 (q : Int)) = W3 at *
    have k7 := cell_of_one hM3
    have d0 : W3.cell? ⟨gk, 0, none⟩ = some (.int .u8 X) := (blk_cell hk3 0).trans rfl
    have d1 : W3.cell? ⟨gk, 1, none⟩ = some (.int .u8 Y) := (blk_cell hk3 1).trans rfl
    have d2 : W3.cell? ⟨gk, 2, none⟩ = some (.int .u8 Z) := (blk_cell hk3 2).trans rfl
    clear hM3 hk3
    go_wp2_with (at_mapUpdate; refine isM_store rfl _ _ _ rfl rfl hm3 (by omega) w0 w1 w2 rfl (by omega) rfl ?_)
    intro w6 hm6 hg6
    go_wp2
    go_end0
    refine ⟨rfl, f3.grown hg6 (fun k hk => by cases hk; exact .inl (.inr rfl)), ?_, by rw [HRF.out]; exact hm6⟩
    rw [HRA.out, HPV.out, List.map_set]
    rw [List.set_set] at ho3
    exact own_other ho3 hg6 (by simpa [Value.ownBlock] using hgg)

end Go.Proofs.Ytpjjiighojkagaa
