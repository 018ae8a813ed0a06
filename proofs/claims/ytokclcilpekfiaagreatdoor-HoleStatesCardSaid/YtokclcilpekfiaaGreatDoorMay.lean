/- The contract of ctx.may. Condition: the pointer holds a context. -/
import Derived.Test.YtokclcilpekfiaaGreatDoorMayO
import Derived.Test.YtokclcilpekfiaaGreatDoorMayU
import Derived.Test.YtokclcilpekfiaaGreatDoorMayJ
import Derived.Test.YtokclcilpekfiaaGreatDoorMayS
namespace Go.Proofs.YtokclcilpekfiaaGreatDoor
open Go.RowKit
theorem ctx_may (b off : Nat) (c : Cx) (w : World) (h : CxAt w b off c) : Calls Tryz.prog 22 #[.pointer (some ⟨b, off, none⟩)] w fun e w' => e = .returned (.bool (cMay c)) ∧ Below w.heap.size w w' := by
  rcases Bool.eq_false_or_eq_true c.ref with r | r
  · by_cases k1 : c.kind = 1
    · exact ctx_may_ut b off c r (by simp [k1]) (by simp [k1]) (by simp [k1]) w h
    · by_cases k2 : c.kind = 2
      · exact ctx_may_jt b off c r (by simp [k2]) (by simp [k2]) (by simp [k2]) w h
      · by_cases k3 : c.kind = 3
        · exact ctx_may_st b off c r (by simp [k3]) (by simp [k3]) (by simp [k3]) w h
        · exact ctx_may_ot b off c r (by simpa using k1) (by simpa using k2) (by simpa using k3) w h
  · by_cases k1 : c.kind = 1
    · exact ctx_may_uf b off c r (by simp [k1]) (by simp [k1]) (by simp [k1]) w h
    · by_cases k2 : c.kind = 2
      · exact ctx_may_jf b off c r (by simp [k2]) (by simp [k2]) (by simp [k2]) w h
      · by_cases k3 : c.kind = 3
        · exact ctx_may_sf b off c r (by simp [k3]) (by simp [k3]) (by simp [k3]) w h
        · exact ctx_may_of b off c r (by simpa using k1) (by simpa using k2) (by simpa using k3) w h
end Go.Proofs.YtokclcilpekfiaaGreatDoor
