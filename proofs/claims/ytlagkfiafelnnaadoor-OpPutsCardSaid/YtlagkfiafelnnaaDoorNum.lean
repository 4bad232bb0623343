/- op.writer.number; bytes.Buffer.Bytes; bytes.Clone: what they do. -/
import Derived.Test.YtlagkfiafelnnaaDoorRig
import Derived.Test.YtlagkfiafelnnaaDoorShelf
import Derived.StillTailTactics
set_option linter.unusedVariables false
set_option linter.unusedSimpArgs false
namespace Go.Proofs.YtlagkfiafelnnaaDoor
open Go.RowKit Go.Proofs.YtlagkfiafelnnaaDoorW.PrintWords

/-- Block b is an op.writer that holds the bytes l. -/
def IsW (W : World) (B b : Nat) (l : List Int) : Prop := LibA.IsBuffer 57 (fun _ => none) 5 B b 0 (l.map (Value.int .u8)) W
theorem u8_one (l : List Int) : ∀ v ∈ l.map (Value.int .u8), v.oneCell' = true := by
  intro v hv
  obtain ⟨x, _, rfl⟩ := List.mem_map.1 hv
  rfl
theorem IsW.lt {W : World} {B b : Nat} {l : List Int} (h : IsW W B b l) : b < W.heap.size := LibA.IsBuffer.lt h
theorem IsW.ge {W : World} {B b : Nat} {l : List Int} (h : IsW W B b l) : B ≤ b := h.1
theorem IsW.tag {W : World} {B b g : Nat} {l : List Int} {cs : Array Value} {t : TypeId} {fz : Nat × Nat} (h : IsW W B b l) (hg : W.heap[g]? = some (.cells cs t fz)) (ht : t ≠ 57) : g ≠ b := by
  obtain ⟨_, v, lr, h3, _⟩ := h
  intro e
  rw [e] at hg
  exact ht (h3.tag hg)
theorem IsW.alloc {W : World} {B b : Nat} {l : List Int} (h : IsW W B b l) (o : Obj) : IsW (W.alloc o) B b l := by
  obtain ⟨hB, v, lr, h3, h4, h5⟩ := h
  exact ⟨hB, v, lr, h3.of_heap (heap_alloc_old W o h3.lt), h4.alloc o, h5⟩
theorem IsW.drewN {W : World} {B b : Nat} {l : List Int} (h : IsW W B b l) (d : Nat) : IsW (W.drewN d) B b l := h
theorem writeByte_any (B b : Nat) (l : List Int) (c : Int) (W : World) (h : IsW W B b l) (hB : B ≤ W.heap.size) (hl : l.length ≤ 1000000000) :
    Calls Tryd.prog 58 #[.pointer (some ⟨b, 0, none⟩), .int .u8 c] W fun e W' => e = .returned .nilIface ∧ IsW W' B b (l ++ [c]) ∧ Below B W W' ∧ Lib.OthersKept 5 (some b) W W' :=
  (Tryd.Buffer_WriteByte_at 57 _ B b 0 _ c W h hB (u8_one l) (by rw [List.length_map]; omega)).mono fun e W' hq => ⟨hq.1, by unfold IsW; rw [List.map_append]; exact hq.2.1, hq.2.2⟩

set_option maxHeartbeats 2000000 in
set_option maxRecDepth 100000 in
theorem number_any (B b g k : Nat) (l ns : List Int) (W : World) (hw : IsW W B b l) (hB : B ≤ W.heap.size) (hg : W.heap[g]? = some (.cells (ns.map (Value.int .i64)).toArray 3 (0, 0))) (hk0 : 1 ≤ k) (hk : k ≤ 8) (hn : ns.length ≤ 2) (hl : l.length ≤ 1000000) :
    Calls Tryd.prog 32 #[.pointer (some ⟨b, 0, none⟩), .int .i64 (k : Int), .slice (some ⟨g, 0, none⟩) ns.length ns.length] W fun e W' => e = .returned (.tuple #[]) ∧ IsW W' B b (l ++ ns.flatMap (num k)) ∧ Below B W W' ∧ Lib.OthersKept 5 (some b) W W' := by
  have HW := Lib.hid hw
  have HG := Lib.hid hg
  have HB := Lib.hid hB
  clear hw hg hB
  go_enter Tryd.func32, Tryd.ntmps32
  go_wp2
  go_loopw [11] (fun v11 wr => ∃ i : Nat, v11 = .int .i64 (i : Int) ∧ i ≤ ns.length ∧ Hid (IsW wr B b (l ++ (ns.take i).flatMap (num k))) ∧ Hid (Below B W wr) ∧ Hid (Lib.OthersKept 5 (some b) W wr)) (fun v11 _ => ns.length - (intOf v11).toNat)
  case atStart => exact ⟨0, rfl, by omega, by simpa [Hid] using HW.out, Below.refl _ _, Lib.OthersKept.refl _ _ _⟩
  case round =>
    obtain ⟨i, rfl, hi, HWi, HBi, HKi⟩ := hrel
    by_cases hlt : i < ns.length
    · have hgw : wr.heap[g]? = some (.cells (ns.map (Value.int .i64)).toArray 3 (0, 0)) := HKi.out g _ HG.out (fun e => (HW.out.tag HG.out (by decide)) (Option.some.inj e)) (fun c fz e => by simp at e)
      have hc := blk_cell hgw i
      rw [List.getElem?_toArray, List.getElem?_map, List.getElem?_eq_getElem hlt] at hc
      simp only [Option.map_some] at hc
      have htk : ns.take (i + 1) = ns.take i ++ [ns[i]] := by rw [List.take_succ_eq_append_getElem hlt]
      have HTK := Lib.hid htk
      clear htk hgw
      generalize ns[i] = n at hc HTK
      have z1 : (i : Int) < (ns.length : Int) := by omega
      go_wp2
      obtain ⟨wo, hwo⟩ : ∃ wo : World, wo = wr := ⟨_, rfl⟩
      rw [← hwo] at HWi HBi HKi hc
      rw [← hwo]
      clear hwo
      go_loopw [8] (fun v8 wr => ∃ j : Nat, v8 = .int .i64 ((k : Int) - 1 - (j : Int)) ∧ j ≤ k ∧ Hid (IsW wr B b (l ++ (ns.take i).flatMap (num k) ++ (num k n).take j)) ∧ Hid (Below B W wr) ∧ Hid (Lib.OthersKept 5 (some b) W wr)) (fun v8 _ => ((intOf v8) + 1).toNat)
      case atStart => exact ⟨0, by simp, by omega, by simpa [Hid] using HWi.out, HBi, HKi⟩
      case round =>
        obtain ⟨j, rfl, hj, HWj, HBj, HKj⟩ := hrel
        by_cases hlt2 : j < k
        · obtain ⟨q, hq⟩ : ∃ q : Nat, k = q + 1 + j := ⟨k - 1 - j, by omega⟩
          have eq1 : (k : Int) - 1 - (j : Int) = (q : Int) := by omega
          rw [eq1]
          have z2 : (0 : Int) ≤ (q : Int) := by omega
          have z3 : (q : Int) < 8 := by omega
          have HQ := Lib.hid hq
          clear eq1 hq
          go_wp2
          have ws : IntKind.i64.wrap (8 * (q : Int)) = 8 * (q : Int) := IntWalk.i64_in _ (by omega)
          have ws0 : (0 : Int) ≤ 8 * (q : Int) := by omega
          go_still_tail 8, (by kernel_rfl)
          obtain ⟨c, hc2⟩ : ∃ c, c = IntKind.u8.wrap (n / 2 ^ (8 * (q : Int)).toNat) := ⟨_, rfl⟩
          rw [← hc2]
          have hcn : (num k n).take (j + 1) = (num k n).take j ++ [c] := by
            rw [List.take_succ_eq_append_getElem (by rw [num_length]; exact hlt2)]
            congr 2
            simp only [num, List.getElem_map, List.getElem_range]
            rw [hc2, show (8 * (q : Int)).toNat = 8 * q from by omega, Int.pow_mul, show k - 1 - j = q from by have := HQ.out; omega, IntKind.wrap_u8]
            rfl
          have HCN := Lib.hid hcn
          clear hcn hc2 ws ws0 hc
          change wpList _ _ _ _ _ (wr.drewN 1)
          have hwd : Hid (IsW (wr.drewN 1) B b (l ++ (ns.take i).flatMap (num k) ++ (num k n).take j)) := HWj.out.drewN 1
          have hbd : Hid (Below B W (wr.drewN 1)) := pw_below_drewN HBj.out 1
          have hkd : Hid (Lib.OthersKept 5 (some b) W (wr.drewN 1)) := HKj.out
          generalize wr.drewN 1 = w2 at *
          have hlen : (l ++ (ns.take i).flatMap (num k) ++ (num k n).take j).length ≤ 1000000000 := by
            have h1 : ((ns.take i).flatMap (num k)).length = (ns.take i).length * k := flat_len (fun x _ => num_length k x)
            have h2 : (ns.take i).length ≤ 2 := by rw [List.length_take]; omega
            have h3 : ((num k n).take j).length ≤ 8 := by rw [List.length_take, num_length]; omega
            have h4 : (ns.take i).length * k ≤ 2 * 8 := Nat.mul_le_mul h2 hk
            simp only [List.length_append]
            omega
          have hBw : B ≤ w2.heap.size := Nat.le_trans HB.out (hbd.out).size
          go_wp2_with (go_at_call 58; refine (writeByte_any B b _ c w2 hwd.out hBw hlen).mono ?_; rintro e w' ⟨rfl, a1, a2, a3⟩; have A1 := Lib.hid a1; have A2 := Lib.hid a2; have A3 := Lib.hid a3; clear a1 a2 a3)
          go_roundw
          case rel => exact ⟨j + 1, by have := HQ.out; congr 1; omega, by omega, by simp only [Hid]; rw [HCN.out, ← List.append_assoc]; exact A1.out, hbd.out.trans A2.out, hkd.out.trans A3.out⟩
          case measure => simp [intOf]
        · obtain rfl : j = k := by omega
          have hfin : l ++ (ns.take i).flatMap (num j) ++ (num j n).take j = l ++ (ns.take (i + 1)).flatMap (num j) := by
            rw [HTK.out, List.take_of_length_le (l := num j n) (by rw [num_length]; omega)]
            simp
          have HF := Lib.hid hfin
          clear hfin
          have eq1 : (j : Int) - 1 - (j : Int) = -1 := by omega
          rw [eq1]
          clear eq1
          go_wp2
          go_roundw
          case rel => exact ⟨i + 1, by go_num, by omega, by simp only [Hid]; rw [← HF.out]; exact HWj.out, HBj, HKj⟩
          case measure => simp [intOf]; omega
    · obtain rfl : i = ns.length := by omega
      go_wp2
      go_end0
      exact ⟨rfl, by have := HWi.out; rwa [List.take_length] at this, HBi.out, HKi.out⟩
end Go.Proofs.YtlagkfiafelnnaaDoor
