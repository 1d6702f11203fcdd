/- Words for regions that draw their order: what a value reads as. -/
import Derived.Test.YtijeabhfddaoaaaK7
import Derived.Test.YtijeabhfddaoaaaFam
namespace Go.Proofs.Ytijeabhfddaoaaa
set_option linter.unusedVariables false
open Go.RowKit Go.Proofs.YtijeabhfddaoaaaW.PrintWords Go.Proofs.Sh

def isB (l : List F) : Value → World → Prop := fun v W => Rb W v l
theorem last_B (l : List F) : Lasts (isB l) := fun _ _ _ h hB => Rk.below h hB
def isI (l : List Int) : Value → World → Prop := fun v W => Ri W v l
theorem last_I (l : List Int) : Lasts (isI l) := fun _ _ _ h hB => Rk.below h hB
def isBB (l : List (List F)) : Value → World → Prop := fun v W => Rbb W v l
theorem last_BB (l : List (List F)) : Lasts (isBB l) := fun _ _ _ h hB => Rk.below h hB
def isF : Value → World → Prop := fun v W => ∃ b, v = fp b ∧ IsField W b
theorem last_F : Lasts isF := fun _ _ _ ⟨b, h1, h2⟩ hB => ⟨b, h1, h2.below hB⟩
/-- A pair of bytes and something. -/
def isTB (l : List F) (c : Value) : Value → World → Prop := fun v W => ∃ z, v = .tuple #[z, c] ∧ Rb W z l
theorem last_TB (l : List F) (c : Value) : Lasts (isTB l c) := fun _ _ _ ⟨z, h1, h2⟩ hB => ⟨z, h1, Rk.below h2 hB⟩
def isTBB (l : List (List F)) (c : Value) : Value → World → Prop := fun v W => ∃ z, v = .tuple #[z, c] ∧ Rbb W z l
theorem last_TBB (l : List (List F)) (c : Value) : Lasts (isTBB l c) := fun _ _ _ ⟨z, h1, h2⟩ hB => ⟨z, h1, Rk.below h2 hB⟩
/-- Bytes of one's own. -/
def isO (w : World) (l : List F) : Value → World → Prop := fun v W => Ob w W v l
theorem last_O (w : World) (l : List F) : Lasts (isO w l) := fun _ _ _ h hB => Own.below h hB
def isOO (w : World) (l : List (List F)) : Value → World → Prop := fun v W => Obb w W v l
theorem last_OO (w : World) (l : List (List F)) : Lasts (isOO w l) := fun _ _ _ h hB => Own.below h hB
theorem alloc_b (W : World) (o : Obj) : Below W.heap.size W (W.alloc o) := below_alloc (Below.refl _ _) o
end Go.Proofs.Ytijeabhfddaoaaa
