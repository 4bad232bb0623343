/- Regions that draw their order: what follows behind a letter; a stronger condition on the way; append of two rows at an operation. -/
import Derived.Test.YtlagkfiafelnnaaDoorBlk
import Derived.Deep.RegionHeld3
set_option linter.unusedVariables false
set_option linter.unusedSimpArgs false
namespace Go
theorem Proofs.YtlagkfiafelnnaaDoor.wpAnyH_mono {P : Program} {md : Region.Mode} {ops : Array Oper} {Q : Exit → Act → World → Prop} {S S' : World → Prop} (hS : ∀ w, S' w → S w) :
    ∀ (fuel : Nat) (listed : Array Bool) (a : Act) (w : World), wpAnyH P md ops Q S' fuel listed a w → wpAnyH P md ops Q S fuel listed a w
  | 0, _, _, _, h => h
  | fuel + 1, _, _, _, h => ⟨h.1, fun i hi => wpOp_mono (fun a' w' h' => ⟨hS _ h'.1, Proofs.YtlagkfiafelnnaaDoor.wpAnyH_mono hS fuel _ a' w' h'.2⟩) (h.2 i hi)⟩
/-- The beginning of a region that draws its order, what follows it behind a letter. -/
theorem Proofs.YtlagkfiafelnnaaDoor.wp_region_gen {id : Nat} {ops : Array Oper} {P : Program} {Q : Exit → Act → World → Prop} {S : World → Prop} {a : Act} {w : World} (hm : P.follows .mixedOrders = true) (hP : ∀ c (a : Act) (t : Tmp) v w, Q (.panic c) (a.put (some t) v) w → Q (.panic c) a w)
    (h : ∀ Q' : Exit → Act → World → Prop, RowKit.Hid (∀ c (a : Act) (t : Tmp) v w, Q' (.panic c) (a.put (some t) v) w → Q' (.panic c) a w) → RowKit.Hid (∀ a w, Q .normal a w → Q' .normal a w) → wpAnyH P .any ops Q' S ops.size (Array.replicate ops.size false) a { w with drawn := w.drawn + 1 }) :
    (Code.region id ops true).wp P Q a w :=
  wp_region_held hm (h Q hP (fun _ _ h => h))
end Go
