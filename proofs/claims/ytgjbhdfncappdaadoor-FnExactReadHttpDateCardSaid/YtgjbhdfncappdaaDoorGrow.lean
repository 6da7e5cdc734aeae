/- A region that draws its order: what holds of the world may be told anew, and more of it, behind a call that made memory. No condition. -/
import Derived.Test.YtgjbhdfncappdaaDoorVMore
namespace Go.Proofs.YtgjbhdfncappdaaDoor.Foreign
open Go.RowKit Go.Proofs.YtgjbhdfncappdaaDoorV.PrintWords Go.Proofs.YtgjbhdfncappdaaDoorV.PrintLast
variable {P : Program} {ops : Array Oper} {Q : Exit → Act → World → Prop} {md : Region.Mode} {S S' : World → Prop}
theorem grow_all (hs : ∀ w, S' w → S w) : ∀ (n : Nat) (l : Array Bool) (a : Act) (w : World), S' w → wpAnyLast P md ops Q S' [] n l a w → wpAnyLast P md ops Q S [] n l a w
  | 0, _, _, _, _, h => h
  | n + 1, l, a, w, h1, h => ⟨h.1, fun i hi => wpOp_mono (fun a' w' h2 => ⟨fun _ _ => hs w' (h2.1 (by simp) h1), grow_all hs n _ a' w' (h2.1 (by simp) h1) h2.2⟩) (h.2 i hi)⟩
theorem grow_ {n : Nat} {l : Array Bool} {a : Act} {w : World} (hs : ∀ w, S' w → S w) (h1 : S' w) (h : S' w → wpAnyLast P md ops Q S' [] n l a w) : wpAnyLast P md ops Q S [] n l a w :=
  grow_all hs n l a w h1 (h h1)
end Go.Proofs.YtgjbhdfncappdaaDoor.Foreign
