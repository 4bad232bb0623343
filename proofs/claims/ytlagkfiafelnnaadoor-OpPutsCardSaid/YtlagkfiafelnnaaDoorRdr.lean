/- op.reader: take, number, key. -/
import Derived.Test.YtlagkfiafelnnaaDoorOpPut
import Derived.Laws.Cover3
import Derived.Laws.MakeOwn
set_option linter.unusedVariables false
set_option linter.unusedSimpArgs false
namespace Go.Proofs.YtlagkfiafelnnaaDoor
open Go.RowKit Go.Proofs.YtlagkfiafelnnaaDoorW.PrintWords

/-- Block g is an op.reader in the state s: what is left lies in older memory. -/
def IsRdr (W : World) (g : Nat) (s : St) : Prop :=
  ∃ A c, W.heap[g]? = some (.cells #[.slice A s.l.length c, .bool s.bad] 104 (0, 0)) ∧ s.l.length ≤ c ∧ c ≤ 9223372036854775807 ∧ (A = none → c = 0) ∧
    (0 < s.l.length → ∃ b off, A = some ⟨b, off, none⟩ ∧ b < g ∧ W.rangeAt b off (s.l.map (Value.int .u8)))
theorem rds_of_range {W : World} {b off n c : Nat} {l : List Int} (hn : l.length = n) (hc : n ≤ c) (hc2 : c ≤ 9223372036854775807) (h : W.rangeAt b off (l.map (Value.int .u8))) : Rds W .u8 (.slice (some ⟨b, off, none⟩) n c) l := by
  subst hn
  refine ⟨_, c, rfl, hc, fun h => by simp at h, rfl, by omega, fun _ => ⟨_, rfl, fun j hj => ?_⟩⟩
  rw [Addr.add_mid]
  refine h j _ ?_
  rw [List.getElem?_map, List.getElem?_eq_getElem hj, List.getD_eq_getElem?_getD, List.getElem?_eq_getElem hj]
  rfl

theorem infoB : (Tryd.prog.info? 5).map (fun i => (i.zero, i.size, i.bytes)) = some (some (.int .u8 0), 1, 1) := by kernel_rfl
theorem made_range (W : World) (n : Nat) (h : n ≤ 1000) : (W.alloc (.cells (madeCells #[.int .u8 0] n) 5)).rangeAt W.heap.size 0 ((List.replicate n (0 : Int)).map (Value.int .u8)) := by
  have h := own_made W W.heap.size 5 .u8 n (Nat.le_refl _) (by omega)
  intro j v hj
  rw [Nat.zero_add, h.cellAt j (by have := (List.getElem?_eq_some_iff.1 hj).1; simpa using this)]
  exact hj
theorem IsRdr.gone {W W' : World} {g : Nat} {s : St} (h : IsRdr W g s) (hb : W'.heap[g]? = W.heap[g]?) (hf : ∀ a v, a.block < g → W.cell? a = some v → W'.cell? a = some v) : IsRdr W' g s := by
  obtain ⟨A, c, h0, h1, h2, h3, h4⟩ := h
  refine ⟨A, c, hb.trans h0, h1, h2, h3, fun hp => ?_⟩
  obtain ⟨b, off, e, hl, hr⟩ := h4 hp
  exact ⟨b, off, e, hl, fun j v hj => hf _ _ hl (hr j v hj)⟩
theorem IsRdr.lt {W : World} {g : Nat} {s : St} (h : IsRdr W g s) : g < W.heap.size := by
  obtain ⟨A, c, h0, _⟩ := h
  exact blk_lt h0
theorem IsRdr.alloc {W : World} {g : Nat} {s : St} (h : IsRdr W g s) (o : Obj) : IsRdr (W.alloc o) g s :=
  h.gone (heap_alloc_old W o h.lt) (fun a v _ hc => pw_cell_below ((Below.refl _ W).alloc (Nat.le_refl _) o) hc)
theorem IsRdr.below {W W' : World} {g : Nat} {s : St} (h : IsRdr W g s) (hb : Below W.heap.size W W') : IsRdr W' g s :=
  h.gone (hb.block g h.lt) (fun a v _ hc => pw_cell_below hb hc)
theorem IsRdr.fr {S : Nat → Prop} {W W' : World} {g : Nat} {s : St} (h : IsRdr W g s) (hf : Fr S W W') (hS : ∀ k, k ≤ g → ¬ S k) : IsRdr W' g s :=
  h.gone (hf.block g h.lt (hS g (Nat.le_refl _))) (fun a v ha hc => hf.cell hc (hS _ (Nat.le_of_lt ha)))

/-- What take tells. -/
def TakePost (g n : Nat) (s : St) (W : World) (e : Ending) (W' : World) : Prop :=
  ∃ b off c, e = .returned (.slice (some ⟨b, off, none⟩) n c) ∧ n ≤ c ∧ c ≤ 9223372036854775807 ∧ W'.rangeAt b off ((take_ n s).map (Value.int .u8)) ∧ IsRdr W' g (drop_ n s) ∧ Fr (fun k => k = g) W W'

set_option maxHeartbeats 1000000 in
set_option maxRecDepth 100000 in
theorem take_any (g n : Nat) (s : St) (W : World) (h : IsRdr W g s) (hn : 1 ≤ n) (hn2 : n ≤ 32) :
    Calls Tryd.prog 83 #[.pointer (some ⟨g, 0, none⟩), .int .i64 (n : Int)] W (TakePost g n s W) := by
  have hglt := h.lt
  obtain ⟨A, c, hb, h1, h2, h3, h4⟩ := h
  obtain ⟨l, bad⟩ := s
  dsimp only at hb h1 h4 ⊢
  have c0 := blk_cell hb 0
  have c1 := blk_cell hb 1
  have f1 := blk_frozen hb 1
  have f0 := blk_frozen hb 0
  simp only [List.getElem?_toArray, List.getElem?_cons_zero, List.getElem?_cons_succ] at c0 c1
  have hmk := print_make (P := Tryd.prog) 30 5 .u8 1 Tryd.underlying30 infoB (by omega) n (by omega)
  have hfin : ∀ W1 : World, W1.heap.size = W.heap.size → W1.heap[g]? = some (.cells #[.slice A l.length c, .bool true] 104 (0, 0)) → Fr (fun k => k = g) W W1 → (take_ n ⟨l, bad⟩ = List.replicate n 0 ∧ drop_ n ⟨l, bad⟩ = ⟨l, true⟩) →
      TakePost g n ⟨l, bad⟩ W (.returned (.slice (some ⟨W.heap.size, 0, none⟩) n n)) (W1.alloc (.cells (madeCells #[.int .u8 0] n) 5)) := by
    intro W1 hsz hk hf ⟨e1, e2⟩
    rw [← hsz]
    refine ⟨_, 0, n, rfl, Nat.le_refl _, by omega, by rw [e1]; exact made_range W1 n (by omega), ?_, hf.alloc _⟩
    rw [e2]
    refine IsRdr.alloc ⟨A, c, hk, h1, h2, h3, fun hp => ?_⟩ _
    obtain ⟨b, off, e, hl, hr⟩ := h4 hp
    exact ⟨b, off, e, hl, fun j v hj => hf.cell (hr j v hj) (by show ¬ b = g; omega)⟩
  have HFIN := Lib.hid hfin
  have HB := Lib.hid hb
  have H4 := Lib.hid h4
  clear hb h4 hfin hglt
  cases bad
  · by_cases hlt : l.length < n
    · have z1 : (l.length : Int) < (n : Int) := by omega
      go_enter Tryd.func83, Tryd.ntmps83
      go_wp2
      go_ret
      exact HFIN.out _ (by simp) (blk_set HB.out 1 _) ((Fr.refl (fun k => k = g) _).set (p := ⟨g, 1, none⟩) (.inl rfl) _) ⟨by unfold take_; rw [if_pos (by simp; omega)], by unfold drop_; rw [if_pos (by simp; omega)]⟩
    · have z1 : ¬ (l.length : Int) < (n : Int) := by omega
      obtain ⟨b, off, rfl, hl, hr⟩ := H4.out (by omega)
      have HR := Lib.hid hr
      have hbg : b ≠ g := by omega
      clear hr
      have z2 : (n : Int) ≤ (c : Int) := by omega
      have z3 : (n : Int) ≤ (l.length : Int) := by omega
      have hgood : ∀ off', (off' = off + n ∨ c = n) → TakePost g n ⟨l, false⟩ W (.returned (.slice (some ⟨b, off, none⟩) n c)) ((W.setCell ⟨g, 1, none⟩ (.bool false)).setCell ⟨g, 0, none⟩ (.slice (some ⟨b, off', none⟩) (l.length - n) (c - n))) := by
        intro off' ho
        have t1 : take_ n ⟨l, false⟩ = l.take n := by unfold take_; rw [if_neg (by simp; omega)]
        have t2 : drop_ n ⟨l, false⟩ = ⟨l.drop n, false⟩ := by unfold drop_; rw [if_neg (by simp; omega)]
        have hf : Fr (fun k => k = g) W ((W.setCell ⟨g, 1, none⟩ (.bool false)).setCell ⟨g, 0, none⟩ (.slice (some ⟨b, off', none⟩) (l.length - n) (c - n))) := ((Fr.refl (fun k => k = g) W).set (p := ⟨g, 1, none⟩) (.inl rfl) _).set (p := ⟨g, 0, none⟩) (.inl rfl) _
        refine ⟨b, off, c, rfl, by omega, h2, ?_, ?_, hf⟩
        · rw [t1]
          intro j v hj
          refine hf.cell (HR.out j v ?_) hbg
          rw [List.map_take, List.getElem?_take] at hj
          split at hj
          · exact hj
          · simp at hj
        · rw [t2]
          refine ⟨some ⟨b, off', none⟩, c - n, ?_, by simp; omega, by omega, by simp, fun hp => ⟨b, off', rfl, hl, ?_⟩⟩
          · rw [blk_set (blk_set HB.out 1 _) 0]
            simp
          · rcases ho with rfl | ho
            · intro j v hj
              refine hf.cell (a := ⟨b, off + n + j, none⟩) ?_ hbg
              rw [Nat.add_assoc]
              refine HR.out (n + j) v ?_
              rw [List.map_drop, List.getElem?_drop] at hj
              exact hj
            · simp at hp
              omega
      have HG := Lib.hid hgood
      clear hgood
      by_cases hcap : c = n
      · have HC := Lib.hid hcap
        have z4 : ¬ (n : Int) < (c : Int) := by omega
        have z5 : (c : Int) ≤ (n : Int) := by omega
        clear hcap
        go_enter Tryd.func83, Tryd.ntmps83
        go_wp2
        go_ret
        exact HG.out _ (.inr HC.out)
      · have z4 : (n : Int) < (c : Int) := by omega
        go_enter Tryd.func83, Tryd.ntmps83
        go_wp2
        go_ret
        exact HG.out _ (.inl rfl)
  · go_enter Tryd.func83, Tryd.ntmps83
    go_wp2
    go_ret
    exact HFIN.out _ (by simp) (blk_set HB.out 1 _) ((Fr.refl (fun k => k = g) _).set (p := ⟨g, 1, none⟩) (.inl rfl) _) ⟨rfl, rfl⟩

theorem val_bd : ∀ (n : Nat) (l : List Int), l.length = n → Bs l → 0 ≤ val l ∧ val l < 256 ^ n
  | 0, l, h, _ => by
    obtain rfl := List.eq_nil_of_length_eq_zero h
    simp [val]
  | n + 1, l, h, hb => by
    obtain ⟨l', c, rfl⟩ : ∃ l' c, l = l' ++ [c] := by
      have : l ≠ [] := fun e => by rw [e] at h; simp at h
      exact ⟨l.dropLast, l.getLast this, (List.dropLast_concat_getLast this).symm⟩
    have h1 := val_bd n l' (by simpa using h) (fun x hx => hb x (by simp [hx]))
    have h2 := hb c (by simp)
    rw [val_snoc, Int.pow_succ]
    omega
theorem val_small {n : Nat} {l : List Int} (h : l.length = n) (hb : Bs l) (hn : n ≤ 4) : 0 ≤ val l ∧ val l < 4294967296 := by
  obtain ⟨h1, h2⟩ := val_bd n l h hb
  have : (256 : Int) ^ n ≤ 4294967296 := by
    have h3 : n = 0 ∨ n = 1 ∨ n = 2 ∨ n = 3 ∨ n = 4 := by omega
    rcases h3 with rfl | rfl | rfl | rfl | rfl <;> decide
  omega
theorem or_byte (a c : Int) (h1 : 0 ≤ a) (h2 : a < 1099511627776) (h3 : 0 ≤ c) (h4 : c < 256) : bits .or .i64 (256 * a) c = 256 * a + c := by
  obtain ⟨A, rfl⟩ := Int.eq_ofNat_of_zero_le h1
  obtain ⟨C, rfl⟩ := Int.eq_ofNat_of_zero_le h3
  have e : (256 * (A : Int)) = ((256 * A : Nat) : Int) := by omega
  rw [e]
  have hj := nat_join 8 (256 * A) C (by omega) (by omega)
  show IntKind.i64.wrap ((BitVec.ofInt 64 ((256 * A : Nat) : Int) ||| BitVec.ofInt 64 (C : Int)).toNat : Int) = _
  rw [BitVec.toNat_or, ofInt_u64 _ (by omega), ofInt_u64 _ (by omega), hj, IntKind.wrap_i64]
  omega

set_option maxHeartbeats 1000000 in
set_option maxRecDepth 100000 in
theorem rnumber_any (g k : Nat) (s : St) (W : World) (h : IsRdr W g s) (hs : Bs s.l) (hk : 1 ≤ k) (hk2 : k ≤ 4) :
    Calls Tryd.prog 44 #[.pointer (some ⟨g, 0, none⟩), .int .i64 (k : Int)] W fun e W' => e = .returned (.int .i64 (val (take_ k s))) ∧ IsRdr W' g (drop_ k s) ∧ Fr (fun i => i = g) W W' := by
  have hbs : Bs (take_ k s) := hs.take_
  have hlen : (take_ k s).length = k := take_len
  have HBS := Lib.hid hbs
  have HLEN := Lib.hid hlen
  have HTK := Lib.hid (take_any g k s W h hk (by omega))
  clear h hbs hlen hs
  go_enter Tryd.func44, Tryd.ntmps44
  go_wp2_with fail
  refine HTK.out.mono ?_
  rintro e w1 ⟨b, off, c, rfl, q1, q2, q3, q4, q5⟩
  have H3 := Lib.hid q3
  have H4 := Lib.hid q4
  have H5 := Lib.hid q5
  clear q3 q4 q5 HTK
  go_wp2_with fail
  go_loopw [12, 5] (fun v12 v5 wr => ∃ i : Nat, v12 = .int .i64 (i : Int) ∧ v5 = .int .i64 (val ((take_ k s).take i)) ∧ i ≤ k ∧ wr = w1) (fun v12 _ _ => k - (intOf v12).toNat)
  case atStart => exact ⟨0, rfl, by simp [val], by omega, rfl⟩
  case round =>
    obtain ⟨i, rfl, rfl, hi, rfl⟩ := hrel
    by_cases hlt : i < k
    · have hil : i < (take_ k s).length := by rw [HLEN.out]; exact hlt
      have hc : wr.cell? ⟨b, off + i, none⟩ = some (.int .u8 (take_ k s)[i]) := H3.out i _ (by rw [List.getElem?_map, List.getElem?_eq_getElem hil]; rfl)
      have hb := HBS.out _ (List.getElem_mem hil)
      have hsn : val ((take_ k s).take (i + 1)) = 256 * val ((take_ k s).take i) + (take_ k s)[i] := by
        rw [List.take_succ_eq_append_getElem hil, val_snoc]
      obtain ⟨x, hx⟩ : ∃ x, x = (take_ k s)[i] := ⟨_, rfl⟩
      rw [← hx] at hc hb hsn
      have hvb := val_small (n := i) (l := (take_ k s).take i) (by rw [List.length_take, HLEN.out]; omega) (HBS.out.take i) (by omega)
      obtain ⟨v, hv⟩ : ∃ v, v = val ((take_ k s).take i) := ⟨_, rfl⟩
      rw [← hv] at hsn hvb
      rw [← hv]
      have HSN := Lib.hid hsn
      clear hsn hx hv
      obtain ⟨b1, b2⟩ := hb
      obtain ⟨v1, v2⟩ := hvb
      have hor := or_byte v x v1 (by omega) b1 b2
      have hor' : bits .or .i64 (v * 256) x = v * 256 + x := by rw [Int.mul_comm v 256]; exact hor
      have HOR := Lib.hid hor'
      clear hor hor' hil
      have z1 : (i : Int) < (k : Int) := by omega
      go_wp2
      exact ⟨⟨i + 1, by go_num, by rw [HOR.out, HSN.out, Int.mul_comm v 256], by omega, trivial⟩, by simp [intOf]; omega⟩
    · obtain rfl : i = k := by omega
      go_wp2
      go_ret
      exact ⟨by rw [List.take_of_length_le (by rw [HLEN.out]; omega)]; rfl, H4.out, H5.out⟩

set_option maxHeartbeats 1000000 in
set_option maxRecDepth 100000 in
theorem rkey_any (g : Nat) (s : St) (W : World) (h : IsRdr W g s) :
    Calls Tryd.prog 84 #[.pointer (some ⟨g, 0, none⟩)] W fun e W' => e = .returned (keyV (take_ 32 s)) ∧ IsRdr W' g (drop_ 32 s) ∧ Fr (fun i => i = g) W W' := by
  have hlen : (take_ 32 s).length = 32 := take_len
  have hlt := h.lt
  have f0 : Fr (fun i => i = g) W (W.alloc (.cells (List.replicate 32 (Value.int .u8 0)).toArray 60)) := (Fr.refl _ W).alloc _
  have HTK := Lib.hid (take_any g 32 s _ (h.alloc (.cells (List.replicate 32 (Value.int .u8 0)).toArray 60)) (by omega) (by omega))
  have HLEN := Lib.hid hlen
  have HF := Lib.hid f0
  clear h hlen f0
  go_enter Tryd.func84, Tryd.ntmps84
  go_upto_region 1 with fail
  change _root_.Go.Code.wp _ _ _ _ (W.alloc (.cells (List.replicate 32 (Value.int .u8 0)).toArray 60))
  have hk0 := heap_alloc_new W (.cells (List.replicate 32 (Value.int .u8 0)).toArray 60)
  have HK0 := Lib.hid hk0
  clear hk0
  have hgw : g ≠ W.heap.size := by omega
  generalize W.alloc (.cells (List.replicate 32 (Value.int .u8 0)).toArray 60) = W1 at *
  obtain ⟨gR, hgR⟩ : ∃ gR, gR = W.heap.size := ⟨_, rfl⟩
  rw [← hgR] at HK0 hgw ⊢
  have HGR := Lib.hid hgR
  have HLT := Lib.hid hlt
  clear hgR hlt
  go_wp2_with fail
  refine HTK.out.mono ?_
  rintro e w1 ⟨b, off, c, rfl, q1, q2, q3, q4, q5⟩
  have H3 := Lib.hid q3
  have H4 := Lib.hid q4
  have H5 := Lib.hid q5
  have H6 := Lib.hid (q5.heap HK0.out (fun h => hgw h.symm))
  have haa := fun w => run_arrayAt (P := Tryd.prog) w 60 5 32 (some ⟨b, off, none⟩) 32 c Tryd.underlying60 (by omega)
  have hs60 : (Tryd.prog.info? 60).map (·.size) = some ((take_ 32 s).map (Value.int .u8)).length := by rw [List.length_map, HLEN.out]; exact size60
  have HS := Lib.hid hs60
  have HS2 : Hid ((Tryd.prog.info? 60).map (·.size) = some ((take_ 32 s).map (Value.int .u8)).toArray.size) := by simp only [Hid, List.size_toArray]; exact hs60
  have HZ : Hid ((List.replicate 32 (Value.int .u8 0)).toArray.size = ((take_ 32 s).map (Value.int .u8)).toArray.size) := by simp [Hid, HLEN.out]
  clear q3 q4 q5 HTK hs60
  go_wp2_with (first | refine wpList_load_mid rfl 60 _ rfl b off rfl _ _ H3.out Tryd.underlying60 rfl HS.out ?_ | refine wpList_store_blk rfl 60 _ _ rfl gR _ ((take_ 32 s).map (Value.int .u8)).toArray 60 rfl rfl H6.out HZ.out HS2.out (all_oneCell_toArray (u8_one _)) ?_)
  intro w' k' fr'
  have HF2 := Lib.hid fr'
  have HK2 := Lib.hid k'
  clear fr' k'
  go_wp2
  refine bodyPost_ret_by (results_cell_row rfl _ _ gR 60 ((take_ 32 s).map (Value.int .u8)).toArray (0, 0) _ rfl HK2.out Tryd.underlying60 rfl HS2.out) rfl ⟨rfl, ?_, ?_⟩
  · exact H4.out.fr HF2.out (fun k hk e => by have h1 := HGR.out; have h2 := HLT.out; omega)
  · exact (HF.out.trans H5.out (fun i h => .inl h)).trans HF2.out (fun i h => .inr (by rw [h, HGR.out]; exact Nat.le_refl _))
end Go.Proofs.YtlagkfiafelnnaaDoor
