/- Plain laws: the examples of the chapter. -/
import Derived.Test.YtpcfjflfeecinaaDoorS6
namespace Go.Proofs.YtpcfjflfeecinaaDoor.S
def exTab : Tab := { rules := [⟨1, [97], [97], 0⟩, ⟨1, [110], [110], 0⟩, ⟨1, [110, 110], [110], 1⟩, ⟨3, [110], [110], 0⟩, ⟨3, [110], [110, 97], 2⟩], drops := [], ends := [], drop := 0, order := 0, initial := 0 }
theorem ex_valid : validS exTab = true := by kernel_rfl
theorem ex1 : bestS exTab 1 [97, 110, 97] 1 [97, 110, 97] = (⟨0, [0, 1, 0], [0, 1, 0], [97, 110, 97]⟩, 0) := by kernel_rfl
theorem ex2 : bestS exTab 1 [97, 110, 110, 97] 1 [97, 110, 97] = (⟨1, [0, 2, 0], [0, 1, 0], [97, 110, 97]⟩, 0) := by kernel_rfl
theorem ex3 : bestS exTab 1 [110, 97] 3 [110] = (⟨2, [1, 0], [4], [110, 97]⟩, 0) := by kernel_rfl
theorem ex4 : bestS exTab 1 [97] 3 [110] = (Der.zero, 11) := by kernel_rfl
theorem ex5 : checkS exTab 1 [110, 97] 3 [110] ⟨2, [1, 0], [4], [110, 97]⟩ = true := by kernel_rfl
theorem ex6 : checkS exTab 1 [110, 97] 3 [110, 110] ⟨2, [1, 0], [4], [110, 97]⟩ = false := by kernel_rfl
end Go.Proofs.YtpcfjflfeecinaaDoor.S
