/- Contracts of package ctx: address, inLang, inUrl, Start. Conditions: the byte is one; the pointer holds a context. -/
import Derived.Test.YtokclcilpekfiaaGreatDoorModel2
import Derived.Test.YtokclcilpekfiaaGreatDoorEq
namespace Go.Proofs.YtokclcilpekfiaaGreatDoor
open Go.RowKit
set_option linter.unusedVariables false
set_option linter.unusedSimpArgs false
theorem pickv2 (x a b : Int) : x = a ∨ x = b ∨ ((x == a) = false ∧ (x == b) = false ∧ (x != a) = true ∧ (x != b) = true) := by
  by_cases h : x = a
  · exact .inl h
  · by_cases h' : x = b
    · exact .inr (.inl h')
    · exact .inr (.inr ⟨by simpa using h, by simpa using h', by simpa using h, by simpa using h'⟩)
theorem pickv3 (x a b c : Int) : x = a ∨ x = b ∨ x = c ∨ ((x == a) = false ∧ (x == b) = false ∧ (x == c) = false ∧ (x != a) = true ∧ (x != b) = true ∧ (x != c) = true) := by
  rcases pickv2 x a b with h | h | ⟨h1, h2, h3, h4⟩
  · exact .inl h
  · exact .inr (.inl h)
  · by_cases h : x = c
    · exact .inr (.inr (.inl h))
    · exact .inr (.inr (.inr ⟨h1, h2, by simpa using h, h3, h4, by simpa using h⟩))
theorem pickv4 (x a b c d : Int) : x = a ∨ x = b ∨ x = c ∨ x = d ∨ ((x == a) = false ∧ (x == b) = false ∧ (x == c) = false ∧ (x == d) = false ∧ (x != a) = true ∧ (x != b) = true ∧ (x != c) = true ∧ (x != d) = true) := by
  rcases pickv2 x a b with h | h | ⟨h1, h2, h3, h4⟩
  · exact .inl h
  · exact .inr (.inl h)
  · rcases pickv2 x c d with h | h | ⟨h5, h6, h7, h8⟩
    · exact .inr (.inr (.inl h))
    · exact .inr (.inr (.inr (.inl h)))
    · exact .inr (.inr (.inr (.inr ⟨h1, h2, h5, h6, h3, h4, h7, h8⟩)))
set_option maxHeartbeats 1000000 in
set_option maxRecDepth 100000 in
theorem ctx_address (u c : Int) (w : World) : Calls Tryz.prog 77 #[.int .i64 u, .int .u8 c] w fun e w' => e = .returned (.tuple #[.int .i64 (cAddress u c).1, .bool (cAddress u c).2]) ∧ w = w' := by
  rcases pickv4 u 3 4 2 0 with rfl | rfl | rfl | rfl | ⟨u1, u2, u3, u4, u5, u6, u7, u8⟩ <;> rcases pickv3 c 38 58 47 with rfl | rfl | rfl | ⟨k1, k2, k3, k4, k5, k6⟩ <;>
  first
    | (rcases pickv2 c 63 35 with rfl | rfl | ⟨k7, k8, k9, k10⟩
       · (
          go_enter Tryz.func77, Tryz.ntmps77
          go_wp2
          go_ret2
          exact ⟨by simp [cAddress, cOpen, *], rfl⟩)
       · (
          go_enter Tryz.func77, Tryz.ntmps77
          go_wp2
          go_ret2
          exact ⟨by simp [cAddress, cOpen, *], rfl⟩)
       · rcases Bool.eq_false_or_eq_true (decide (32 < c)) with k11 | k11 <;>
           (
            go_enter Tryz.func77, Tryz.ntmps77
            go_wp2
            go_ret2
            exact ⟨by simp [cAddress, cOpen, *], rfl⟩))
    | (
      go_enter Tryz.func77, Tryz.ntmps77
      go_wp2
      go_ret2
      exact ⟨by simp [cAddress, cOpen, *], rfl⟩)

set_option maxHeartbeats 1000000 in
set_option maxRecDepth 100000 in
theorem ctx_inLang (b off : Nat) (c : Cx) (x y z : Int)  (w : World) (h : CxAt w b off c) : Calls Tryz.prog 46 #[.pointer (some ⟨b, off, none⟩), .int .i64 x, .int .i64 y, .int .i64 z] w fun e w' => e = .returned (.tuple #[.int .i64 (cInLang c x y z).1, .int .i64 (cInLang c x y z).2]) ∧ w = w' := by
  have h_ := h
  obtain ⟨⟨g0, -⟩, g6, g7, g8, g9⟩ := h_
  have H := Lib.hid h
  clear h
  rcases Bool.eq_false_or_eq_true (c.lang == 0) with k0 | k0 <;> rcases Bool.eq_false_or_eq_true (c.kind == 3) with k1 | k1 <;> rcases Bool.eq_false_or_eq_true (c.kind == 2) with k2 | k2 <;> rcases Bool.eq_false_or_eq_true (c.lang == 1) with k3 | k3 <;> rcases Bool.eq_false_or_eq_true (c.lang == 2) with k4 | k4 <;>
  (skip
   go_enter Tryz.func46, Tryz.ntmps46
   go_wp2
   all_goals (go_ret2; exact ⟨by simp [cInLang, *], rfl⟩))
end Go.Proofs.YtokclcilpekfiaaGreatDoor
