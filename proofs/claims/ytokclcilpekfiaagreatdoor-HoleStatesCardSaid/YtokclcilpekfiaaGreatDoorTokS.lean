/- The table that tok.Step lays, and two small facts on a new block. No condition. -/
import Derived.Test.YtokclcilpekfiaaGreatDoorTok6
import Derived.Deep.WholeRow
namespace Go.Proofs.YtokclcilpekfiaaGreatDoor
open Go.RowKit
set_option linter.unusedVariables false
set_option linter.unusedSimpArgs false
def stepFns : Array Value := #[.func (.func 97) #[] #[], .func (.func 98) #[] #[], .func (.func 99) #[] #[], .func (.func 100) #[] #[], .func (.func 101) #[] #[], .func (.func 102) #[] #[], .func (.func 103) #[] #[], .func (.func 104) #[] #[], .func (.func 105) #[] #[], .func (.func 106) #[] #[], .func (.func 107) #[] #[], .func (.func 101) #[] #[], .func (.func 101) #[] #[], .func (.func 108) #[] #[], .func (.func 109) #[] #[], .func (.func 110) #[] #[], .func (.func 111) #[] #[], .func (.func 112) #[] #[], .func (.func 113) #[] #[], .func (.func 114) #[] #[], .func (.func 115) #[] #[], .func (.func 116) #[] #[], .func (.func 117) #[] #[]]
def stepNils : Array Value := #[.nilFunc, .nilFunc, .nilFunc, .nilFunc, .nilFunc, .nilFunc, .nilFunc, .nilFunc, .nilFunc, .nilFunc, .nilFunc, .nilFunc, .nilFunc, .nilFunc, .nilFunc, .nilFunc, .nilFunc, .nilFunc, .nilFunc, .nilFunc, .nilFunc, .nilFunc, .nilFunc]
theorem step_row (W : World) (n : Nat) (hn : n = W.heap.size) (c c' : Array Value) (t : TypeId) : (W.alloc (.cells c t)).setRow n c' = W.alloc (.cells c' t) := by subst hn; exact World.setRow_alloc_new _ _ _ _
theorem step_last (W : World) (n : Nat) (hn : n = W.heap.size) (o : Obj) : (W.alloc o).heap[n]? = some o := by subst hn; exact heap_alloc_last W o
end Go.Proofs.YtokclcilpekfiaaGreatDoor
