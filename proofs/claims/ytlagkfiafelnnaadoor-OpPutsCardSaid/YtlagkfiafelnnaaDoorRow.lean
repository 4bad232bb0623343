/- What a row's arguments are, opened: slices of whole numbers. No function of the program is in sight. -/
import Derived.Test.YtlagkfiafelnnaaDoorFr
import Derived.WalkKit
import Derived.ProofKit
import Derived.OpenShut
set_option linter.unusedVariables false
set_option linter.unusedSimpArgs false
namespace Go.Proofs.YtlagkfiafelnnaaDoor
open Go.RowKit Go.Proofs.YtlagkfiafelnnaaDoorW.PrintWords

def IsRow (k : IntKind) (w : World) (a : Option Addr) (len cap : Nat) (zs : List Int) : Prop :=
  (a = none ∧ len = 0 ∧ cap = 0 ∧ zs = []) ∨
  ∃ x, a = some x ∧ len ≤ cap ∧ cap ≤ maxLen ∧ zs.length = cap ∧ (∀ i, i < zs.length → w.cell? (x.add i) = some (.int k (zs.getD i 0))) ∧ ∀ n ∈ zs, (Lit.int k n).wf = true

theorem IsRow.rds {k : IntKind} {w : World} {a : Option Addr} {len cap : Nat} {zs : List Int} (h : IsRow k w a len cap zs) : (zs.take len).length = len ∧ Rds w k (.slice a len cap) (zs.take len) ∧ ∀ n ∈ zs.take len, (Lit.int k n).wf = true := by
  rcases h with ⟨rfl, rfl, rfl, rfl⟩ | ⟨x, rfl, h1, h2, h3, h4, h5⟩
  · exact ⟨rfl, Rds.nil _ _, by simp⟩
  · have hl : (zs.take len).length = len := by rw [List.length_take]; omega
    refine ⟨hl, ?_, fun n hn => h5 n (List.mem_of_mem_take hn)⟩
    have : Rds w k (.slice (some x) (zs.take len).length cap) (zs.take len) := by
      refine ⟨some x, cap, rfl, by omega, fun h => by simp at h, rfl, by rw [hl]; simp only [maxLen] at h2; omega, fun hp => ⟨x, rfl, fun j hj => ?_⟩⟩
      rw [hl] at hj
      rw [h4 j (by omega)]
      simp [List.getD_eq_getElem?_getD, List.getElem?_take, hj]
    rwa [hl] at this

theorem wf_u8 {n : Int} (h : (Lit.int .u8 n).wf = true) : 0 ≤ n ∧ n < 256 := by
  have := bounds_u8 h
  omega

end Go.Proofs.YtlagkfiafelnnaaDoor
