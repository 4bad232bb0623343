/- The document's writer, and TurnBytes: what each does, over the memory. -/
import Derived.Test.YtbpckacgdkikdaaRef
import Derived.Test.YtbpckacgdkikdaaTru
import Derived.Test.YtbpckacgdkikdaaFlat
import Derived.Test.YtbpckacgdkikdaaLent
set_option linter.unusedVariables false
set_option linter.unusedSimpArgs false
namespace Go.Proofs.Ytbpckacgdkikdaa
open Go.RowKit Go.Proofs.YtbpckacgdkikdaaW.PrintWords Bits

theorem infoBool : (Try.prog.info? 4).map (fun i => (i.zero, i.size, i.bytes)) = some (some (.bool false), 1, 1) := by kernel_rfl

theorem Grew.fr {w w' : World} {v v' : Value} {n m : Nat} (h : Grew w w' v v' n m) : Fr (fun k => v.ownBlock = some k) w w' := by
  rcases h with ⟨b, cap, e1, e2, hg⟩ | ⟨hg, _⟩
  · exact (Fr.refl _ w).grown hg (fun i hi => .inl (by rw [e1]; exact hi))
  · exact (Fr.refl _ w).grown hg (fun i hi => by simp at hi)
theorem Grew.own {w w' : World} {v v' : Value} {n m : Nat} (h : Grew w w' v v' n m) : v'.ownBlock = v.ownBlock ∨ ∀ k, v'.ownBlock = some k → w.heap.size ≤ k := by
  rcases h with ⟨b, cap, e1, e2, hg⟩ | ⟨hg, b, e, hb⟩
  · exact .inl (by rw [e1, e2]; rfl)
  · exact .inr (fun k hk => by rw [e] at hk; injection hk with hk; omega)

/-- The document's writer at block g: its truths are the slice v. -/
def IsRw (W : World) (base g : Nat) (v : Value) (l : List Bool) : Prop :=
  W.heap[g]? = some (.cells #[v] 42 (0, 0)) ∧ base ≤ g ∧ W.ownsRow base 4 1 v l.length (l.map Value.bool)
theorem IsRw.ne {W : World} {base g : Nat} {v : Value} {l : List Bool} (h : IsRw W base g v l) : v.ownBlock ≠ some g := by
  intro e
  obtain ⟨cells, hc⟩ := own_typed h.2.2 g e
  rw [h.1] at hc
  simp at hc
theorem IsRw.fr {S : Nat → Prop} {W W1 : World} {base g : Nat} {v : Value} {l : List Bool} (h : IsRw W base g v l) (hf : Fr S W W1) (hg : ¬ S g) (hv : ∀ k, v.ownBlock = some k → ¬ S k) : IsRw W1 base g v l :=
  ⟨hf.heap h.1 hg, h.2.1, hf.own h.2.2 hv⟩

/-- What a call has made of the document's writer. -/
structure RPut (base g : Nat) (v : Value) (l : List Bool) (W : World) (v' : Value) (W' : World) : Prop where
  is : IsRw W' base g v' l
  fr : Fr (fun k => k = g ∨ v.ownBlock = some k) W W'
  own : v'.ownBlock = v.ownBlock ∨ ∀ k, v'.ownBlock = some k → W.heap.size ≤ k

theorem RPut.step {base g : Nat} {v v' x' : Value} {l : List Bool} {q : Bool} {W wr w' : World} (h : RPut base g v l W v' wr)
    (ho : w'.ownsRow base 4 1 x' (l.length + 1) (l.map Value.bool ++ [.bool q])) (hg : Grew (wr.alloc (.cells #[.bool q] 4)) w' v' x' l.length 1) :
    RPut base g v (l ++ [q]) W x' (w'.setCell ⟨g, 0, none⟩ x') := by
  have hne := h.is.ne
  have hb' := hg.fr.heap (blk_alloc h.is.1 _) hne
  have hs := blk_set hb' 0 x'
  have hsz := h.fr.size
  have hlt := blk_lt h.is.1
  have hx : x'.ownBlock ≠ some g := by
    intro e
    obtain ⟨cells, hc⟩ := own_typed ho g e
    rw [hb'] at hc
    simp at hc
  refine ⟨⟨by simpa using hs, h.is.2.1, ?_⟩, ?_, ?_⟩
  · rw [List.length_append, List.map_append]
    exact own_setCell ho (fun e => hx e.symm) _
  · have f1 : Fr (fun k => k = g ∨ v.ownBlock = some k) W (wr.alloc (.cells #[.bool q] 4)) := h.fr.alloc _
    have f2 := f1.trans hg.fr (fun i hi => by
      rcases h.own with e | e
      · exact .inl (.inr (by rw [← e]; exact hi))
      · exact .inr (e i hi))
    exact f2.set (.inl (.inl rfl)) _
  · rcases hg.own with e | e
    · rw [e]; exact h.own
    · exact .inr (fun k hk => by have := e k hk; simp at this; omega)

theorem bit_test32 {x : Int} {k : Nat} (h0 : 0 ≤ x) (h1 : x < 4294967296) : (bits BinOp.and IntKind.u32 (x / 2 ^ k) 1 == 1) = decide (x.toNat / 2 ^ k % 2 = 1) := by
  obtain ⟨z, rfl⟩ := Int.eq_ofNat_of_zero_le h0
  have e : ((z : Nat) : Int) / 2 ^ k = ((z / 2 ^ k : Nat) : Int) := by simp
  have hz : z / 2 ^ k ≤ z := Nat.div_le_self _ _
  rw [e, show (1 : Int) = ((1 : Nat) : Int) from rfl, u32_and_nat _ _ (by omega) (by omega), nat_mask1, Int.toNat_natCast]
  by_cases h : z / 2 ^ k % 2 = 1 <;> simp [h]
  omega

set_option maxHeartbeats 1000000 in
set_option maxRecDepth 100000 in
theorem rput_nat (base g : Nat) (v : Value) (l : List Bool) (n : Nat) (x : Int) (W : World) (h1 : n ≤ 32) (hx0 : 0 ≤ x) (hx : x < 4294967296) (hL : l.length ≤ 8000000) (h : IsRw W base g v l) (hbase : base ≤ W.heap.size) :
    Calls Try.prog 21 #[.pointer (some ⟨g, 0, none⟩), .int .u32 x, .int .i64 (n : Int)] W fun e W' => e = .returned (.bool true) ∧ ∃ v', RPut base g v (l ++ tru x.toNat n) W v' W' := by
  have d1 : decide ((n : Int) < 0) = false := decide_eq_false (by omega)
  have d2 : decide (32 < (n : Int)) = false := decide_eq_false (by omega)
  have HH := Lib.hid h
  clear h
  go_enter Try.func21, Try.ntmps21
  go_wp2_with fail
  clear d1 d2
  go_loopg [7] n (fun gk v7 wr => ∃ (k : Nat) (v' : Value), Hid (gk + k = n) ∧ v7 = .int .i64 (k : Int) ∧ k ≤ n ∧ Hid (RPut base g v (l ++ tru x.toNat k) W v' wr))
  case atStart => exact ⟨0, v, by simp [Hid], rfl, Nat.zero_le _, ⟨by simpa [tru] using HH.out, Fr.refl _ _, .inl rfl⟩⟩
  case round =>
    obtain ⟨k, v', HG, rfl, hk, HR⟩ := hrel
    by_cases hlt : k < n
    · have t0 : (k : Int) < (n : Int) := by omega
      have c0 : wr.cell? ⟨g, 0, none⟩ = some v' := (blk_cell HR.out.is.1 0).trans rfl
      obtain ⟨A, c, hvv⟩ := own_slice HR.out.is.2.2
      have hml : (l ++ tru x.toNat k).length ≤ 8000032 := by rw [List.length_append, tru_length]; omega
      have hbs : base ≤ wr.heap.size := Nat.le_trans hbase HR.out.fr.size
      obtain ⟨q, hq⟩ : ∃ q, q = decide (x.toNat / 2 ^ k % 2 = 1) := ⟨_, rfl⟩
      have ht : (bits BinOp.and IntKind.u32 (x / 2 ^ k) 1 == 1) = q := by rw [hq]; exact bit_test32 hx0 hx
      have HQ : Hid (tru x.toNat (k + 1) = tru x.toNat k ++ [q]) := by simp only [Hid]; rw [hq, tru_succ]
      have HVV := Lib.hid hvv
      clear hq
      have HO := Lib.hid HR.out.is.2.2
      obtain ⟨m, hm⟩ : ∃ m, m = (l ++ tru x.toNat k).length := ⟨_, rfl⟩
      have HM := Lib.hid hm
      rw [← hm] at hvv hml
      rw [hvv] at c0
      clear hvv hm
      go_wp2_with (at_builtin; refine wpList_append_ext base rfl _ _ 40 4 (.bool false) 1 1 rfl Try.underlying40 infoBool rfl (by decide) (by decide) (.slice A m c) m ((l ++ tru x.toNat k).map Value.bool) rfl ((by have := HO.out; rw [HVV.out, ← HM.out] at this; exact this.alloc _)) ⟨wr.heap.size, 0, none⟩ 1 1 [.bool q] rfl (by decide) rfl (cell_one_new _ _ _) (by simp [Value.oneCell']) (by simp; omega) (by omega) ?_)
      intro x' w' ho' hg'
      have hg2 : Grew (wr.alloc (.cells #[.bool q] 4)) w' v' x' (l ++ tru x.toNat k).length 1 := by rw [HVV.out, ← HM.out]; exact hg'
      have hb' := hg2.fr.heap (blk_alloc HR.out.is.1 _) HR.out.is.ne
      have z0 := blk_frozen hb' 0
      have k0 : w'.cell? ⟨g, 0, none⟩ = some v' := (blk_cell hb' 0).trans rfl
      have HS : Hid (RPut base g v (l ++ tru x.toNat (k + 1)) W x' (w'.setCell ⟨g, 0, none⟩ x')) := by
        have := HR.out.step (by rw [← HM.out, List.map_append, List.append_assoc]; exact ho') hg2
        simp only [Hid]
        rw [HQ.out, ← List.append_assoc]
        exact this
      obtain ⟨A2, c2, rfl⟩ := own_slice ho'
      clear ho' hg' hg2 hb' c0 ht
      go_wp2
      go_roundg (gk - 1)
      case measure => have := HG.out; omega
      case rel => exact ⟨k + 1, _, by have := HG.out; simp only [Hid]; omega, by go_num, by omega, HS⟩
    · have hke : k = n := by omega
      have t0 : ¬ (k : Int) < (n : Int) := by omega
      have HK : Hid (RPut base g v (l ++ tru x.toNat n) W v' wr) := by rw [← hke]; exact HR
      clear hke
      go_wp2
      go_ret
      exact ⟨rfl, v', HK.out⟩

theorem rput_any (base g : Nat) (v : Value) (l : List Bool) (x n : Int) (W : World) (h0 : 0 ≤ n) (h1 : n ≤ 32) (hx0 : 0 ≤ x) (hx : x < 4294967296) (hL : l.length ≤ 8000000) (h : IsRw W base g v l) (hbase : base ≤ W.heap.size) :
    Calls Try.prog 21 #[.pointer (some ⟨g, 0, none⟩), .int .u32 x, .int .i64 n] W fun e W' => e = .returned (.bool true) ∧ ∃ v', RPut base g v (l ++ tru x.toNat n.toNat) W v' W' := by
  obtain ⟨n, rfl⟩ := Int.eq_ofNat_of_zero_le h0
  exact rput_nat base g v l n x W (by omega) hx0 hx hL h hbase

set_option maxHeartbeats 400000 in
set_option maxRecDepth 100000 in
theorem rput_no (g : Nat) (x n : Int) (W : World) (hn : n < 0 ∨ 32 < n) :
    Calls Try.prog 21 #[.pointer (some ⟨g, 0, none⟩), .int .u32 x, .int .i64 n] W fun e W' => e = .returned (.bool false) ∧ W = W' := by
  rcases hn with hn | hn
  · have h1 : decide (n < 0) = true := decide_eq_true hn
    go_enter Try.func21, Try.ntmps21
    go_wp2
    go_ret
    exact ⟨rfl, rfl⟩
  · have h1 : decide (n < 0) = false := decide_eq_false (by omega)
    have h2 : decide (32 < n) = true := decide_eq_true hn
    go_enter Try.func21, Try.ntmps21
    go_wp2
    go_ret
    exact ⟨rfl, rfl⟩

set_option maxHeartbeats 1000000 in
set_option maxRecDepth 100000 in
theorem rwalign_any (base g : Nat) (v : Value) (l : List Bool) (W : World) (hL : l.length ≤ 8000000) (h : IsRw W base g v l) (hbase : base ≤ W.heap.size) :
    Calls Try.prog 20 #[.pointer (some ⟨g, 0, none⟩)] W fun e W' => e = .returned (.tuple #[]) ∧ ∃ v', RPut base g v (l ++ List.replicate ((8 - l.length % 8) % 8) false) W v' W' := by
  obtain ⟨n, hn⟩ : ∃ n, n = (8 - l.length % 8) % 8 := ⟨_, rfl⟩
  rw [← hn]
  have HN := Lib.hid hn
  have HH := Lib.hid h
  clear h hn
  go_enter Try.func20, Try.ntmps20
  go_wp2_with fail
  go_loopg [] n (fun gk wr => ∃ (k : Nat) (v' : Value), Hid (gk + k = n) ∧ k ≤ n ∧ Hid (RPut base g v (l ++ List.replicate k false) W v' wr))
  case atStart => exact ⟨0, v, by simp [Hid], Nat.zero_le _, ⟨by simpa using HH.out, Fr.refl _ _, .inl rfl⟩⟩
  case round =>
    obtain ⟨k, v', HG, hk, HR⟩ := hrel
    have c0 : wr.cell? ⟨g, 0, none⟩ = some v' := (blk_cell HR.out.is.1 0).trans rfl
    obtain ⟨A, c, hvv⟩ := own_slice HR.out.is.2.2
    obtain ⟨m, hm⟩ : ∃ m, m = (l ++ List.replicate k false).length := ⟨_, rfl⟩
    have hml : m = l.length + k := by rw [hm, List.length_append, List.length_replicate]
    have hm8 : m ≤ 8000008 := by have := HN.out; omega
    have HVV := Lib.hid hvv
    have HM := Lib.hid hm
    have HML := Lib.hid hml
    rw [← hm] at hvv
    rw [hvv] at c0
    clear hvv hm hml
    have hbs : base ≤ wr.heap.size := Nat.le_trans hbase HR.out.fr.size
    have HO := Lib.hid HR.out.is.2.2
    by_cases hlt : k < n
    · have t0 : (((m : Int) % 8) != 0) = true := by
        rw [bne_iff_ne]
        have := HN.out
        have := HML.out
        omega
      go_wp2_with (at_builtin; refine wpList_append_ext base rfl _ _ 40 4 (.bool false) 1 1 rfl Try.underlying40 infoBool rfl (by decide) (by decide) (.slice A m c) m ((l ++ List.replicate k false).map Value.bool) rfl ((by have := HO.out; rw [HVV.out, ← HM.out] at this; exact this.alloc _)) ⟨wr.heap.size, 0, none⟩ 1 1 [.bool false] rfl (by decide) rfl (cell_one_new _ _ _) (by simp [Value.oneCell']) (by simp; omega) (by omega) ?_)
      intro x' w' ho' hg'
      have hg2 : Grew (wr.alloc (.cells #[.bool false] 4)) w' v' x' (l ++ List.replicate k false).length 1 := by rw [HVV.out, ← HM.out]; exact hg'
      have hb' := hg2.fr.heap (blk_alloc HR.out.is.1 _) HR.out.is.ne
      have z0 := blk_frozen hb' 0
      have k0 : w'.cell? ⟨g, 0, none⟩ = some v' := (blk_cell hb' 0).trans rfl
      have HS : Hid (RPut base g v (l ++ List.replicate (k + 1) false) W x' (w'.setCell ⟨g, 0, none⟩ x')) := by
        have := HR.out.step (by rw [← HM.out, List.map_append, List.append_assoc, List.map_replicate]; exact ho') hg2
        simp only [Hid]
        rw [List.replicate_succ', ← List.append_assoc]
        exact this
      obtain ⟨A2, c2, rfl⟩ := own_slice ho'
      clear ho' hg' hg2 hb' c0 t0
      go_wp2
      go_roundg (gk - 1)
      case measure => have := HG.out; omega
      case rel => exact ⟨k + 1, _, by have := HG.out; simp only [Hid]; omega, by omega, HS⟩
    · have hke : k = n := by omega
      have t0 : (((m : Int) % 8) != 0) = false := by
        rw [bne_eq_false_iff_eq]
        have := HN.out
        have := HML.out
        omega
      have HK : Hid (RPut base g v (l ++ List.replicate n false) W v' wr) := by rw [← hke]; exact HR
      clear hke
      go_wp2
      go_end0
      exact ⟨rfl, v', HK.out⟩

theorem infoU8 : (Try.prog.info? 5).map (fun i => (i.zero, i.size, i.bytes)) = some (some (.int .u8 0), 1, 1) := by kernel_rfl

theorem bit_or8 {d r : Nat} (hd : d < 2 ^ r) (hr : r < 8) : bits BinOp.or IntKind.u8 (d : Int) (2 ^ r % 256) = ((d + 2 ^ r : Nat) : Int) := by
  have hb : (2 : Nat) ^ r ≤ 2 ^ 7 := Nat.pow_le_pow_right (by decide) (by omega)
  have e : (2 : Int) ^ r % 256 = ((2 ^ r : Nat) : Int) := by
    have : ((2 : Int) ^ r) = ((2 ^ r : Nat) : Int) := by simp
    rw [this]; omega
  rw [e, u8_or_nat d _ (by omega) (by omega), Nat.or_comm, nat_join r _ _ (Nat.mod_self _) hd, Nat.add_comm]

set_option maxHeartbeats 1000000 in
set_option maxRecDepth 100000 in
theorem rbytes_any (base g : Nat) (v : Value) (l : List Bool) (W : World) (hL : l.length ≤ 8000000) (h : IsRw W base g v l) :
    Calls Try.prog 22 #[.pointer (some ⟨g, 0, none⟩)] W (BytesPost W.heap.size (byts (ofT l) l.length) W) := by
  obtain ⟨B, hB⟩ : ∃ B, B = W.heap.size := ⟨_, rfl⟩
  rw [← hB]
  obtain ⟨K, hK⟩ : ∃ K, K = (l.length + 7) / 8 := ⟨_, rfl⟩
  have HK := Lib.hid hK
  have HBB := Lib.hid hB
  obtain ⟨A, c, hv⟩ := own_slice h.2.2
  have c0 : W.cell? ⟨g, 0, none⟩ = some (.slice A l.length c) := by rw [blk_cell h.1 0, hv]; rfl
  have HH := Lib.hid h
  have HV := Lib.hid hv
  have hKb : K ≤ 2000000 := by omega
  have hq : ((l.length : Int) + 7) / 8 = (K : Int) := by omega
  have hmk := print_make (P := Try.prog) 22 5 .u8 1 Try.underlying22 infoU8 (by decide) K (by omega)
  have o2 := own_made W B 5 .u8 K (by omega) (by omega)
  clear hv h hK
  go_enter Try.func22, Try.ntmps22
  go_upto_region 2 with fail
  rw [← hB] at o2 ⊢
  generalize hW2 : W.alloc _ = w2 at *
  have f2 : Fr (fun _ => False) W w2 := by rw [← hW2]; exact (Fr.refl _ _).alloc _
  have HO2 := Lib.hid o2
  have HF2 := Lib.hid f2
  clear hmk hW2 c0 hB o2 f2 hq
  go_wp2_with fail
  go_loopg [4] l.length (fun gk v4 wr => ∃ i : Nat, Hid (gk + i = l.length) ∧ v4 = .int .i64 (i : Int) ∧ i ≤ l.length ∧ Hid (wr.ownsRow B 5 1 (.slice (some ⟨B, 0, none⟩) K K) K ((leb (ofT (l.take i)) K).map (Value.int .u8))) ∧ Hid (Fr (fun k => k = B) W wr))
  case atStart => exact ⟨0, by simp [Hid], rfl, Nat.zero_le _, by simp only [Hid]; rw [List.take_zero, show ofT [] = 0 from rfl, leb_zero]; exact HO2.out, HF2.out.mono (fun _ h => h.elim)⟩
  case round =>
    clear HO2 HF2
    obtain ⟨i, HG, rfl, hi, HO, HF⟩ := hrel
    have hgB : ¬ g = B := by have := blk_lt HH.out.1; have := HBB.out; omega
    have hvB : ∀ k, v.ownBlock = some k → ¬ k = B := fun k hk => by have := own_lt HH.out.2.2 k hk; have := HBB.out; omega
    have hr := HH.out.fr HF.out hgB hvB
    have c0 : wr.cell? ⟨g, 0, none⟩ = some (.slice A l.length c) := by rw [blk_cell hr.1 0, HV.out]; rfl
    have HR := Lib.hid hr
    clear hr hgB hvB
    by_cases hlt : i < l.length
    · have t0 : (i : Int) < (l.length : Int) := by omega
      obtain ⟨gb, cb', e1, _, _⟩ := HR.out.2.2.form (by omega)
      rw [HV.out] at e1
      obtain ⟨rfl, rfl⟩ : A = some ⟨gb, 0, none⟩ ∧ c = cb' := by injection e1 with h1 h2 h3; exact ⟨h1, h3⟩
      clear e1
      have ho := HR.out.2.2
      rw [HV.out] at ho
      have k1 : wr.cell? ⟨gb, i, none⟩ = some (.bool l[i]) := by
        rw [ho.cellAt i (by omega), List.getElem?_map, List.getElem?_eq_getElem hlt]; rfl
      have hs := ofT_take_succ hlt
      have HS := Lib.hid hs
      obtain ⟨q, hq⟩ : ∃ q, q = l[i] := ⟨_, rfl⟩
      rw [← hq] at k1
      have HQ := Lib.hid hq
      clear hs ho hq
      have hiK : i / 8 < K := by have := HK.out; omega
      cases q
      · go_wp2_with fail
        go_roundg (gk - 1)
        case measure => have := HG.out; omega
        case rel => exact ⟨i + 1, by have := HG.out; simp only [Hid]; omega, by go_num, by omega, by simp only [Hid]; rw [HS.out, ← HQ.out]; simpa using HO.out, HF⟩
      · have hN := ofT_take_lt l (i := i) (by omega)
        obtain ⟨N, hNe⟩ : ∃ N, N = ofT (l.take i) := ⟨_, rfl⟩
        rw [← hNe] at hN
        have hd := digit_lt hN
        have hset := leb_set hN hiK
        have hcell : wr.cell? ⟨B, i / 8, none⟩ = some (.int .u8 ((N / 256 ^ (i / 8) % 256 : Nat) : Int)) := by
          rw [HO.out.cellAt (i / 8) (by omega), ← hNe, List.getElem?_map, leb_getElem? _ _ _ hiK]; rfl
        have p8 : (2 : Nat) ^ (i % 8) ≤ 2 ^ 7 := Nat.pow_le_pow_right (by decide) (by omega)
        have hor := bit_or8 (d := N / 256 ^ (i / 8) % 256) (r := i % 8) (Nat.lt_of_le_of_lt (Nat.mod_le _ _) hd) (by omega)
        obtain ⟨d, hde⟩ : ∃ d, d = N / 256 ^ (i / 8) % 256 := ⟨_, rfl⟩
        rw [← hde] at hcell hor hset
        have hz := HO.out.frozenAt (i / 8)
        obtain ⟨o3, g3⟩ := HO.out.stored (i / 8) (.int .u8 ((d + 2 ^ (i % 8) : Nat) : Int))
        have hdlt : d < 256 := by rw [hde]; exact Nat.mod_lt _ (by decide)
        have o4 : (wr.setCell ⟨B, i / 8, none⟩ (.int .u8 ((d + 2 ^ (i % 8) : Nat) : Int))).ownsRow B 5 1 (.slice (some ⟨B, 0, none⟩) K K) K ((leb (ofT (l.take (i + 1))) K).map (Value.int .u8)) := by
          rw [HS.out, ← HQ.out, if_pos rfl, ← hNe, hset, List.map_set]
          rw [← hNe] at o3
          exact o3
        have f4 : Fr (fun k => k = B) W (wr.setCell ⟨B, i / 8, none⟩ (.int .u8 ((d + 2 ^ (i % 8) : Nat) : Int))) := HF.out.set (p := ⟨B, i / 8, none⟩) (.inl rfl) _
        rw [← hor] at o4 f4
        have HO4 := Lib.hid o4
        have HF4 := Lib.hid f4
        have z1 : (0 : Int) ≤ (i : Int) / 8 := by omega
        have z2 : (i : Int) / 8 < (K : Int) := by omega
        have z3 : ((i : Int) / 8).toNat = i / 8 := by omega
        clear hN hset hd hor p8 o3 g3 o4 f4 hde hNe
        go_wp2_with fail
        go_roundg (gk - 1)
        case measure => have := HG.out; omega
        case rel => exact ⟨i + 1, by have := HG.out; simp only [Hid]; omega, by go_num, by omega, HO4, HF4⟩
    · have hie : i = l.length := by omega
      have t0 : ¬ (i : Int) < (l.length : Int) := by omega
      have HE : Hid (wr.ownsRow B 5 1 (.slice (some ⟨B, 0, none⟩) K K) (byts (ofT l) l.length).length ((byts (ofT l) l.length).map (Value.int .u8))) := by
        have := HO.out
        rw [hie, List.take_length] at this
        simp only [Hid]
        unfold byts
        rw [leb_length, ← HK.out]
        exact this
      have HBE : Hid (Below B W wr) := HF.out.below (by have := HBB.out; omega) (fun k hk => by omega)
      clear hie
      go_wp2
      go_ret
      exact ⟨_, rfl, HE.out, HBE.out⟩

/-! ### TurnBytes -/
set_option maxHeartbeats 1000000 in
set_option maxRecDepth 100000 in
theorem turn_any (base n : Nat) (v : Value) (xs : List Int) (W : World) (h : W.ownsRow base 5 1 v n (xs.map (Value.int .u8))) (hn : n ≤ 8000000) :
    Calls Try.prog 23 #[v] W fun e W' => e = .returned (.tuple #[]) ∧ (∃ zs : List Int, W'.ownsRow base 5 1 v n (zs.map (Value.int .u8))) ∧ Fr (fun k => v.ownBlock = some k) W W' := by
  have HH := Lib.hid h
  obtain ⟨A, c, rfl⟩ := own_slice h
  clear h
  go_enter Try.func23, Try.ntmps23
  go_wp2_with fail
  go_loopg [2] n (fun gk v2 wr => ∃ (i : Nat) (zs : List Int), Hid (gk + i = n) ∧ v2 = .int .i64 (i : Int) ∧ i ≤ n ∧ Hid (wr.ownsRow base 5 1 (.slice A n c) n (zs.map (Value.int .u8))) ∧ Hid (Fr (fun k => (Value.slice A n c).ownBlock = some k) W wr))
  case atStart => exact ⟨0, xs, by simp [Hid], rfl, Nat.zero_le _, HH.out, Fr.refl _ _⟩
  case round =>
    clear HH
    obtain ⟨i, zs, HG, rfl, hi, HO, HF⟩ := hrel
    by_cases hlt : i < n
    · have t0 : (i : Int) < (n : Int) := by omega
      obtain ⟨gb, cb', e1, _, _⟩ := HO.out.form (by omega)
      obtain ⟨rfl, rfl⟩ : A = some ⟨gb, 0, none⟩ ∧ c = cb' := by injection e1 with h1 h2 h3; exact ⟨h1, h3⟩
      clear e1
      have hl : zs.length = n := by have := HO.out.1; simpa using this
      have k1 : wr.cell? ⟨gb, i, none⟩ = some (.int .u8 (zs.getD i 0)) := by
        rw [HO.out.cellAt i (by omega), List.getElem?_map, List.getD_eq_getElem?_getD, List.getElem?_eq_getElem (by omega)]; rfl
      have z1 := HO.out.frozenAt i
      generalize zs.getD i 0 = y at *
      obtain ⟨u, hu⟩ : ∃ u, u = bits BinOp.xor IntKind.u8 y 255 := ⟨_, rfl⟩
      obtain ⟨o3, g3⟩ := HO.out.stored i (.int .u8 u)
      have o4 : (wr.setCell ⟨gb, i, none⟩ (.int .u8 u)).ownsRow base 5 1 (.slice (some ⟨gb, 0, none⟩) n c) n ((zs.set i u).map (Value.int .u8)) := by rw [List.map_set]; exact o3
      have f4 : Fr (fun k => (Value.slice (some ⟨gb, 0, none⟩) n c).ownBlock = some k) W (wr.setCell ⟨gb, i, none⟩ (.int .u8 u)) := HF.out.set (p := ⟨gb, i, none⟩) (.inl rfl) _
      rw [hu] at o4 f4
      have HO4 := Lib.hid o4
      have HF4 := Lib.hid f4
      clear o3 g3 o4 f4 hu hl
      go_wp2_with fail
      go_roundg (gk - 1)
      case measure => have := HG.out; omega
      case rel => exact ⟨i + 1, _, by have := HG.out; simp only [Hid]; omega, by go_num, by omega, HO4, HF4⟩
    · have t0 : ¬ (i : Int) < (n : Int) := by omega
      go_wp2
      go_end0
      exact ⟨rfl, ⟨zs, HO.out⟩, HF.out⟩

end Go.Proofs.Ytbpckacgdkikdaa
