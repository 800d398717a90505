/- Words of mine beside the kit's steps through a region that draws its order: the condition on the world may be another one from some operation on. -/
import Derived.Test.YtdlfjokhgmngcaaGreatDoorWWords
import Derived.Test.YtdlfjokhgmngcaaGreatDoorWLast
namespace Go.Proofs.YtdlfjokhgmngcaaGreatDoor.Lx
open Go.RowKit Go.Proofs.YtdlfjokhgmngcaaGreatDoorW.PrintWords Go.Proofs.YtdlfjokhgmngcaaGreatDoorW.PrintLast
set_option linter.unusedVariables false
section
variable {P : Program} {ops : Array Oper} {Q : Exit → Act → World → Prop} {md : Region.Mode} {ds : List Nat}
theorem last_of_any : ∀ (fuel : Nat) (listed : Array Bool) (a : Act) (w : World), wpAny P md ops Q fuel listed a w → wpAnyLast P md ops Q (fun _ => True) ds fuel listed a w
  | 0, _, _, _, h => h
  | fuel + 1, _, _, _, h => ⟨h.1, fun i hi => wpOp_mono (fun a' w' h' => ⟨fun _ _ => trivial, last_of_any fuel _ a' w' h'⟩) (h.2 i hi)⟩
theorem switch_ {S2 : World → Prop} {fuel : Nat} {l : Array Bool} {a : Act} {w : World} (hS : S2 w) (h : S2 w → wpAnyLast P md ops Q S2 [] fuel l a w) : wpAnyLast P md ops Q (fun _ => True) [] fuel l a w :=
  last_of_any _ _ _ _ (wpAny_of_last _ _ _ _ (h hS))
end
end Go.Proofs.YtdlfjokhgmngcaaGreatDoor.Lx
