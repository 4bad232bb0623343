/- LentFreshes, LentPuts, LentOp. -/
import Derived.Test.YtlagkfiafelnnaaDoorMark
import Derived.Test.YtlagkfiafelnnaaDoorSameOp
import Derived.OwnWalk
set_option linter.unusedVariables false
set_option linter.unusedSimpArgs false
namespace Go.Proofs.YtlagkfiafelnnaaDoor
open Go.RowKit Go.Proofs.YtlagkfiafelnnaaDoorW.PrintWords

theorem RdsN.cut {W : World} {k n m c : Nat} {A : Option Addr} {cs ds : List Value} (h : RdsN W k (.slice A (n + m) c) (n + m) (cs ++ ds)) (hl : cs.length = n * k) : RdsN W k (.slice A n c) n cs := by
  obtain ⟨A', c', e, h1, h2, h3, h4, h5⟩ := h
  injection e with e1 e2 e3
  subst e1 e3
  refine ⟨A, c, rfl, by omega, h2, h3, hl, fun hp => ?_⟩
  obtain ⟨b, off, e, hb, hr⟩ := h5 (by omega)
  exact ⟨b, off, e, hb, fun j v hj => hr j v (by rw [List.getElem?_append_left (List.getElem?_eq_some_iff.1 hj).1]; exact hj)⟩
theorem RdsN.news {W : World} {k n c : Nat} {A : Option Addr} {cs : List Value} (h : RdsN W k (.slice A n c) n cs) : (A = none → n = 0 ∧ c = 0) ∧ ∀ ad, A = some ad → ∀ j u, cs[j]? = some u → W.cell? (ad.add j) = some u := by
  obtain ⟨A', c', e, h1, h2, h3, h4, h5⟩ := h
  injection e with e1 e2 e3
  subst e1 e3
  refine ⟨fun e => ⟨?_, h3 e⟩, fun ad e j u hu => ?_⟩
  · rcases Nat.eq_zero_or_pos n with h0 | h0
    · exact h0
    · obtain ⟨b, off, e2, _⟩ := h5 h0
      rw [e] at e2; cases e2
  · have hj := (List.getElem?_eq_some_iff.1 hu).1
    have hp : 0 < n := by
      rcases Nat.eq_zero_or_pos n with h0 | h0
      · rw [h0, Nat.zero_mul] at h4; omega
      · exact h0
    obtain ⟨b, off, e2, hb, hr⟩ := h5 hp
    rw [e] at e2
    obtain rfl := Option.some.inj e2
    rw [Go.WideShapes.add_plain]
    exact hr j u hu
theorem new_cells (W : World) (cs : List Value) (ty : TypeId) : ∀ j u, cs[j]? = some u → (W.alloc (.cells cs.toArray ty)).cell? ((⟨W.heap.size, 0, none⟩ : Addr).add j) = some u := fun j u hu => by
  rw [add_plain, blk_cell (heap_alloc_new W _), List.getElem?_toArray]
  exact hu

def marksF (j : Nat) : List Fre := (List.range j).map fun (i : Nat) => mFre 1 (i : Int)
theorem marksF_succ (j : Nat) : marksF (j + 1) = marksF j ++ [mFre 1 (j : Int)] := by simp [marksF, List.range_succ]
theorem marksF_length (j : Nat) : (marksF j).length = j := by simp [marksF]
theorem marksF_wf : ∀ f ∈ marksF 12, f.wf := fun f hf => by
  obtain ⟨i, hi, rfl⟩ := List.mem_map.1 hf
  have := List.mem_range.1 hi
  exact mFre_wf _ _ (by omega) (by omega) (by omega) (by omega)
/-- A list that was lent: xs, and the marks behind. -/
def IsLentF (W : World) (base b : Nat) (xs : List Fre) : Prop :=
  W.ownsRow base 64 36 (.slice (some ⟨b, 0, none⟩) (xs.length + 12) (xs.length + 12)) (xs.length + 12) ((xs ++ marksF 12).flatMap Fre.cells) ∧ ∀ f ∈ xs, f.wf
theorem IsLentF.fr {S : Nat → Prop} {W W1 : World} {base b : Nat} {xs : List Fre} (h : IsLentF W base b xs) (hf : Fr S W W1) (hn : ¬ S b) : IsLentF W1 base b xs :=
  ⟨hf.own h.1 (fun k hk hs => by have : b = k := by simpa [Value.ownBlock] using hk
                                 rw [this] at hn; exact hn hs), h.2⟩
theorem IsLentF.below {W W1 : World} {base b : Nat} {xs : List Fre} (h : IsLentF W base b xs) (hf : Below W.heap.size W W1) : IsLentF W1 base b xs := h.fr (Fr.of_below hf (fun _ => False)) (fun h => h)
theorem IsLentF.ge {W : World} {base b : Nat} {xs : List Fre} (h : IsLentF W base b xs) : base ≤ b := own_base h.1 b rfl
theorem IsLentF.lt {W : World} {base b : Nat} {xs : List Fre} (h : IsLentF W base b xs) : b < W.heap.size := own_lt h.1 b rfl
theorem IsLentF.rds {W : World} {base b : Nat} {xs : List Fre} (h : IsLentF W base b xs) : RdsF W (.slice (some ⟨b, 0, none⟩) xs.length (xs.length + 12)) xs := by
  refine ⟨RdsN.cut (m := 12) (ds := (marksF 12).flatMap Fre.cells) ?_ (flat_lenV _ (fun x hx => (h.2 x hx).len)), h.2⟩
  have := own_rdsN h.1
  rwa [List.flatMap_append] at this
/-- All of it, the marks too. -/
theorem IsLentF.all {W : World} {base b : Nat} {xs : List Fre} (h : IsLentF W base b xs) : RdsF W (.slice (some ⟨b, 0, none⟩) (xs ++ marksF 12).length (xs.length + 12)) (xs ++ marksF 12) := by
  have e : (xs ++ marksF 12).length = xs.length + 12 := by rw [List.length_append, marksF_length]
  refine ⟨?_, fun f hf => (List.mem_append.1 hf).elim (h.2 f) (marksF_wf f)⟩
  rw [e]
  exact own_rdsN h.1
def LentRelF (W : World) (B b : Nat) (xs : List Fre) (v3 v4 : Value) (wr : World) : Prop :=
  ∃ i : Nat, i ≤ 12 ∧ v4 = .int .i64 (i : Int) ∧ v3 = .slice (some ⟨b, 0, none⟩) (xs.length + i) (xs.length + 12) ∧
    wr.ownsRow B 64 36 (.slice (some ⟨b, 0, none⟩) (xs.length + i) (xs.length + 12)) (xs.length + i) ((xs ++ marksF i).flatMap Fre.cells) ∧ Below B W wr ∧ B ≤ wr.heap.size

set_option maxHeartbeats 2000000 in
set_option maxRecDepth 100000 in
theorem lentF_any (v : Value) (xs : List Fre) (W : World) (h : RdsF W v xs) (hl : xs.length ≤ 1000000) :
    Calls Tryd.prog 27 #[v] W fun e W' => ∃ b, e = .returned (.slice (some ⟨b, 0, none⟩) xs.length (xs.length + 12)) ∧ IsLentF W' W.heap.size b xs ∧ Below W.heap.size W W' := by
  obtain ⟨i0, hi, hz⟩ := Option.map_eq_some_iff.1 infoF
  simp only [Prod.mk.injEq] at hz
  obtain ⟨hz0, hz1, hz2⟩ := hz
  obtain ⟨A, c, rfl, hnc, hcm⟩ := h.form
  obtain ⟨hA, hcells⟩ := h.1.news
  have hwf := h.2
  have hlen : (xs.flatMap Fre.cells).length = xs.length * 36 := flat_lenV _ (fun x hx => (hwf x hx).len)
  have hone : ∀ u ∈ xs.flatMap Fre.cells, u.oneCell' = true := fun u hu => by obtain ⟨f, _, hf⟩ := List.mem_flatMap.1 hu; exact f.one u hf
  have HWF := Lib.hid hwf
  clear h hwf hnc hcm
  go_enter Tryd.func27, Tryd.ntmps27
  go_wp2_with (at_make; refine wpList_make_own _ rfl _ _ 23 rfl W.heap.size 64 i0 _ 36 Tryd.underlying23 hi hz0 hz1 _ _ _ (xs.length + 12) rfl rfl (by omega) (by rw [hz2]; omega) (by simp only [maxLen]; omega) (Nat.le_refl _) ?_)
  intro w1 ho1 hg1
  have f1 : Below W.heap.size W w1 := (Below.refl _ _).grown hg1 (Nat.le_refl _) (fun k hk => by simp at hk)
  go_wp2_with (at_builtin; refine wpList_append_fits_any _ rfl _ _ 23 rfl W.heap.size 64 i0 36 Tryd.underlying23 hi hz1 W.heap.size 0 (xs.length + 12) [] rfl ho1 A xs.length c (xs.flatMap Fre.cells) rfl hlen hA (fun ad e j u hu => pw_cell_below f1 (hcells ad e j u hu)) hone (by omega) ?_)
  intro w2 ho2 hg2
  have f2 : Below W.heap.size W w2 := f1.grown hg2 f1.size (fun k hk => Nat.le_of_eq (by simpa using hk))
  try simp only [Nat.zero_add, List.nil_append] at ho2
  go_wp2_with fail
  try rw [Nat.zero_add]
  go_loopw [3, 4] (fun v3 v4 wr => LentRelF W W.heap.size W.heap.size xs v3 v4 wr) (fun _ v4 _ => 12 - (intOf v4).toNat)
  case atStart => exact ⟨0, by omega, rfl, rfl, by simpa [marksF] using ho2, f2, f2.size⟩
  case round =>
    clear ho1 hg1 f1 ho2 hg2 f2 hcells hA hone hlen
    obtain ⟨i, hi12, rfl, rfl, ho, bb, ss⟩ := hrel
    have HO := Lib.hid ho
    have HBB := Lib.hid bb
    have HSS := Lib.hid ss
    clear ho bb ss
    by_cases hlt : i < 12
    · go_wp2_with fail
      refine (markFresh_any 1 (i : Int) _ (by omega) (by omega) (by omega) (by omega)).mono ?_
      rintro e w3 ⟨rfl, q3⟩
      have HO3 := Lib.hid (pw_own_below HO.out q3)
      have HB3 : Hid (Below W.heap.size W w3) := HBB.out.trans (q3.mono HSS.out)
      clear q3 HO HBB
      have hmw := (mFre_wf 1 (i : Int) (by omega) (by omega) (by omega) (by omega)).len
      simp only []
      rename_i hKK
      refine hKK _ _ ?_
      refine wpList_slice1 rfl 23 64 (.tmp 18) rfl (mFre 1 (i : Int)).cells 36 Tryd.underlying23 zero64 (by omega) (by omega) rfl hmw ?_
      clear hKK
      go_wp2_with (at_builtin; refine wpList_append_fits _ rfl _ _ 23 rfl W.heap.size 64 i0 36 Tryd.underlying23 hi hz1 W.heap.size (xs.length + i) (xs.length + 12) ((xs ++ marksF i).flatMap Fre.cells) rfl (HO3.out.alloc _) ⟨w3.heap.size, 0, none⟩ 1 1 (mFre 1 (i : Int)).cells rfl (by rw [hmw]) (new_cells _ _ _) (mFre 1 (i : Int)).one (by omega) ?_)
      intro w4 ho4 hg4
      have bb4 : Below W.heap.size W w4 := (HB3.out.alloc HB3.out.size _).grown hg4 (by rw [World.alloc, Array.size_push]; have := HB3.out.size; omega) (fun k hk => Nat.le_of_eq (by simpa using hk))
      have ho4' : w4.ownsRow W.heap.size 64 36 (.slice (some ⟨W.heap.size, 0, none⟩) (xs.length + i + 1) (xs.length + 12)) (xs.length + i + 1) ((xs ++ marksF (i + 1)).flatMap Fre.cells) := by
        rw [marksF_succ, ← List.append_assoc, List.flatMap_append, List.flatMap_singleton, List.flatMap_append, List.append_assoc]
        exact ho4
      have HO4 := Lib.hid ho4'
      have HB4 := Lib.hid bb4
      clear ho4 ho4' bb4 hg4
      go_wp2
      go_roundw
      case rel => exact ⟨i + 1, by omega, by go_num, by simp [Nat.add_assoc], HO4.out, HB4.out, HB4.out.size⟩
      case measure => simp [intOf]; omega
    · have hie : i = 12 := by omega
      subst hie
      have t2 : (xs.length : Int) ≤ (xs.length : Int) + 12 := by omega
      go_wp2
      go_ret
      exact ⟨W.heap.size, by simp, ⟨HO.out, HWF.out⟩, HBB.out⟩

def marksP (j : Nat) : List Pu := (List.range j).map fun (i : Nat) => mPu 1 (i : Int)
theorem marksP_succ (j : Nat) : marksP (j + 1) = marksP j ++ [mPu 1 (j : Int)] := by simp [marksP, List.range_succ]
theorem marksP_length (j : Nat) : (marksP j).length = j := by simp [marksP]
theorem marksP_wf : ∀ f ∈ marksP 12, f.wf := fun f hf => by
  obtain ⟨i, hi, rfl⟩ := List.mem_map.1 hf
  have := List.mem_range.1 hi
  exact mPu_wf _ _ (by omega) (by omega) (by omega) (by omega)
/-- A list that was lent: xs, and the marks behind. -/
def IsLentP (W : World) (base b : Nat) (xs : List Pu) : Prop :=
  W.ownsRow base 72 35 (.slice (some ⟨b, 0, none⟩) (xs.length + 12) (xs.length + 12)) (xs.length + 12) ((xs ++ marksP 12).flatMap Pu.cells) ∧ ∀ f ∈ xs, f.wf
theorem IsLentP.fr {S : Nat → Prop} {W W1 : World} {base b : Nat} {xs : List Pu} (h : IsLentP W base b xs) (hf : Fr S W W1) (hn : ¬ S b) : IsLentP W1 base b xs :=
  ⟨hf.own h.1 (fun k hk hs => by have : b = k := by simpa [Value.ownBlock] using hk
                                 rw [this] at hn; exact hn hs), h.2⟩
theorem IsLentP.below {W W1 : World} {base b : Nat} {xs : List Pu} (h : IsLentP W base b xs) (hf : Below W.heap.size W W1) : IsLentP W1 base b xs := h.fr (Fr.of_below hf (fun _ => False)) (fun h => h)
theorem IsLentP.ge {W : World} {base b : Nat} {xs : List Pu} (h : IsLentP W base b xs) : base ≤ b := own_base h.1 b rfl
theorem IsLentP.lt {W : World} {base b : Nat} {xs : List Pu} (h : IsLentP W base b xs) : b < W.heap.size := own_lt h.1 b rfl
theorem IsLentP.rds {W : World} {base b : Nat} {xs : List Pu} (h : IsLentP W base b xs) : RdsP W (.slice (some ⟨b, 0, none⟩) xs.length (xs.length + 12)) xs := by
  refine ⟨RdsN.cut (m := 12) (ds := (marksP 12).flatMap Pu.cells) ?_ (flat_lenV _ (fun x hx => (h.2 x hx).len)), h.2⟩
  have := own_rdsN h.1
  rwa [List.flatMap_append] at this
/-- All of it, the marks too. -/
theorem IsLentP.all {W : World} {base b : Nat} {xs : List Pu} (h : IsLentP W base b xs) : RdsP W (.slice (some ⟨b, 0, none⟩) (xs ++ marksP 12).length (xs.length + 12)) (xs ++ marksP 12) := by
  have e : (xs ++ marksP 12).length = xs.length + 12 := by rw [List.length_append, marksP_length]
  refine ⟨?_, fun f hf => (List.mem_append.1 hf).elim (h.2 f) (marksP_wf f)⟩
  rw [e]
  exact own_rdsN h.1
def LentRelP (W : World) (B b : Nat) (xs : List Pu) (v3 v4 : Value) (wr : World) : Prop :=
  ∃ i : Nat, i ≤ 12 ∧ v4 = .int .i64 (i : Int) ∧ v3 = .slice (some ⟨b, 0, none⟩) (xs.length + i) (xs.length + 12) ∧
    wr.ownsRow B 72 35 (.slice (some ⟨b, 0, none⟩) (xs.length + i) (xs.length + 12)) (xs.length + i) ((xs ++ marksP i).flatMap Pu.cells) ∧ Below B W wr ∧ B ≤ wr.heap.size

set_option maxHeartbeats 2000000 in
set_option maxRecDepth 100000 in
theorem lentP_any (v : Value) (xs : List Pu) (W : World) (h : RdsP W v xs) (hl : xs.length ≤ 1000000) :
    Calls Tryd.prog 28 #[v] W fun e W' => ∃ b, e = .returned (.slice (some ⟨b, 0, none⟩) xs.length (xs.length + 12)) ∧ IsLentP W' W.heap.size b xs ∧ Below W.heap.size W W' := by
  obtain ⟨i0, hi, hz⟩ := Option.map_eq_some_iff.1 infoP
  simp only [Prod.mk.injEq] at hz
  obtain ⟨hz0, hz1, hz2⟩ := hz
  obtain ⟨A, c, rfl, hnc, hcm⟩ := h.form
  obtain ⟨hA, hcells⟩ := h.1.news
  have hwf := h.2
  have hlen : (xs.flatMap Pu.cells).length = xs.length * 35 := flat_lenV _ (fun x hx => (hwf x hx).len)
  have hone : ∀ u ∈ xs.flatMap Pu.cells, u.oneCell' = true := fun u hu => by obtain ⟨f, _, hf⟩ := List.mem_flatMap.1 hu; exact f.one u hf
  have HWF := Lib.hid hwf
  clear h hwf hnc hcm
  go_enter Tryd.func28, Tryd.ntmps28
  go_wp2_with (at_make; refine wpList_make_own _ rfl _ _ 24 rfl W.heap.size 72 i0 _ 35 Tryd.underlying24 hi hz0 hz1 _ _ _ (xs.length + 12) rfl rfl (by omega) (by rw [hz2]; omega) (by simp only [maxLen]; omega) (Nat.le_refl _) ?_)
  intro w1 ho1 hg1
  have f1 : Below W.heap.size W w1 := (Below.refl _ _).grown hg1 (Nat.le_refl _) (fun k hk => by simp at hk)
  go_wp2_with (at_builtin; refine wpList_append_fits_any _ rfl _ _ 24 rfl W.heap.size 72 i0 35 Tryd.underlying24 hi hz1 W.heap.size 0 (xs.length + 12) [] rfl ho1 A xs.length c (xs.flatMap Pu.cells) rfl hlen hA (fun ad e j u hu => pw_cell_below f1 (hcells ad e j u hu)) hone (by omega) ?_)
  intro w2 ho2 hg2
  have f2 : Below W.heap.size W w2 := f1.grown hg2 f1.size (fun k hk => Nat.le_of_eq (by simpa using hk))
  try simp only [Nat.zero_add, List.nil_append] at ho2
  go_wp2_with fail
  try rw [Nat.zero_add]
  go_loopw [3, 4] (fun v3 v4 wr => LentRelP W W.heap.size W.heap.size xs v3 v4 wr) (fun _ v4 _ => 12 - (intOf v4).toNat)
  case atStart => exact ⟨0, by omega, rfl, rfl, by simpa [marksP] using ho2, f2, f2.size⟩
  case round =>
    clear ho1 hg1 f1 ho2 hg2 f2 hcells hA hone hlen
    obtain ⟨i, hi12, rfl, rfl, ho, bb, ss⟩ := hrel
    have HO := Lib.hid ho
    have HBB := Lib.hid bb
    have HSS := Lib.hid ss
    clear ho bb ss
    by_cases hlt : i < 12
    · go_wp2_with fail
      refine (markPut_any 1 (i : Int) _ (by omega) (by omega) (by omega) (by omega)).mono ?_
      rintro e w3 ⟨rfl, q3⟩
      have HO3 := Lib.hid (pw_own_below HO.out q3)
      have HB3 : Hid (Below W.heap.size W w3) := HBB.out.trans (q3.mono HSS.out)
      clear q3 HO HBB
      have hmw := (mPu_wf 1 (i : Int) (by omega) (by omega) (by omega) (by omega)).len
      simp only []
      rename_i hKK
      refine hKK _ _ ?_
      refine wpList_slice1 rfl 24 72 (.tmp 18) rfl (mPu 1 (i : Int)).cells 35 Tryd.underlying24 zero72 (by omega) (by omega) rfl hmw ?_
      clear hKK
      go_wp2_with (at_builtin; refine wpList_append_fits _ rfl _ _ 24 rfl W.heap.size 72 i0 35 Tryd.underlying24 hi hz1 W.heap.size (xs.length + i) (xs.length + 12) ((xs ++ marksP i).flatMap Pu.cells) rfl (HO3.out.alloc _) ⟨w3.heap.size, 0, none⟩ 1 1 (mPu 1 (i : Int)).cells rfl (by rw [hmw]) (new_cells _ _ _) (mPu 1 (i : Int)).one (by omega) ?_)
      intro w4 ho4 hg4
      have bb4 : Below W.heap.size W w4 := (HB3.out.alloc HB3.out.size _).grown hg4 (by rw [World.alloc, Array.size_push]; have := HB3.out.size; omega) (fun k hk => Nat.le_of_eq (by simpa using hk))
      have ho4' : w4.ownsRow W.heap.size 72 35 (.slice (some ⟨W.heap.size, 0, none⟩) (xs.length + i + 1) (xs.length + 12)) (xs.length + i + 1) ((xs ++ marksP (i + 1)).flatMap Pu.cells) := by
        rw [marksP_succ, ← List.append_assoc, List.flatMap_append, List.flatMap_singleton, List.flatMap_append, List.append_assoc]
        exact ho4
      have HO4 := Lib.hid ho4'
      have HB4 := Lib.hid bb4
      clear ho4 ho4' bb4 hg4
      go_wp2
      go_roundw
      case rel => exact ⟨i + 1, by omega, by go_num, by simp [Nat.add_assoc], HO4.out, HB4.out, HB4.out.size⟩
      case measure => simp [intOf]; omega
    · have hie : i = 12 := by omega
      subst hie
      have t2 : (xs.length : Int) ≤ (xs.length : Int) + 12 := by omega
      go_wp2
      go_ret
      exact ⟨W.heap.size, by simp, ⟨HO.out, HWF.out⟩, HBB.out⟩

end Go.Proofs.YtlagkfiafelnnaaDoor
