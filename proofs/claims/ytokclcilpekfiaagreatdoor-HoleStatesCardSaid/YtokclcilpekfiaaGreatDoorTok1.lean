/- Contracts of the small functions on bytes, names and states (packages utf, elem, tok). Conditions: a byte is one (0 to 255). -/
import Derived.Test.YtokclcilpekfiaaGreatDoorModel
import Derived.Test.YtokclcilpekfiaaGreatDoorShelf
namespace Go.Proofs.YtokclcilpekfiaaGreatDoor
open Go.RowKit
set_option linter.unusedVariables false
set_option linter.unusedSimpArgs false

set_option maxHeartbeats 1000000 in
set_option maxRecDepth 100000 in
theorem utf_LowerByte (c : Int) (w : World) (h0 : 0 ≤ c) (h1 : c ≤ 255) : Calls Tryz.prog 92 #[.int .u8 c] w fun e w' => e = .returned (.int .u8 (low c)) ∧ w = w' := by
  by_cases hA : 65 ≤ c
  · by_cases hB : c ≤ 90
    · have e : low c = c - 65 + 97 := by unfold low; rw [if_pos ⟨hA, hB⟩]; omega
      rw [e]; clear e
      go_enter Tryz.func92, Tryz.ntmps92
      go_wp2
      go_ret
      exact ⟨rfl, rfl⟩
    · have e : low c = c := by unfold low; rw [if_neg (fun h => hB h.2)]
      rw [e]; clear e
      go_enter Tryz.func92, Tryz.ntmps92
      go_wp2
      go_ret
      exact ⟨rfl, rfl⟩
  · have e : low c = c := by unfold low; rw [if_neg (fun h => hA h.1)]
    rw [e]; clear e
    go_enter Tryz.func92, Tryz.ntmps92
    go_wp2
    go_ret
    exact ⟨rfl, rfl⟩

set_option maxHeartbeats 1000000 in
set_option maxRecDepth 100000 in
theorem utf_Letter (c : Int) (w : World) (h0 : 0 ≤ c) (h1 : c ≤ 255) : Calls Tryz.prog 62 #[.int .u8 c] w fun e w' => e = .returned (.bool (letter c)) ∧ w = w' := by
  rcases Bool.eq_false_or_eq_true (decide (97 ≤ low c)) with h0_ | h0_ <;> rcases Bool.eq_false_or_eq_true (decide (low c ≤ 122)) with h1_ | h1_ <;>
  (have e : letter c = (decide (97 ≤ low c) && decide (low c ≤ 122)) := rfl
   rw [e, h0_, h1_]
   go_enter Tryz.func62, Tryz.ntmps62
   go_wp2_with (go_at_call 92; refine (utf_LowerByte _ _ (by omega) (by omega)).mono ?_; rintro e w1 ⟨rfl, rfl⟩)
   go_ret
   exact ⟨rfl, rfl⟩)

set_option maxHeartbeats 1000000 in
set_option maxRecDepth 100000 in
theorem utf_Digit (c : Int) (w : World) (h0 : 0 ≤ c) (h1 : c ≤ 255) : Calls Tryz.prog 63 #[.int .u8 c] w fun e w' => e = .returned (.bool (digit c)) ∧ w = w' := by
  rcases Bool.eq_false_or_eq_true (decide (48 ≤ c)) with h0_ | h0_ <;> rcases Bool.eq_false_or_eq_true (decide (c ≤ 57)) with h1_ | h1_ <;>
  (have e : digit c = (decide (48 ≤ c) && decide (c ≤ 57)) := rfl
   rw [e, h0_, h1_]
   go_enter Tryz.func63, Tryz.ntmps63
   go_wp2
   go_ret
   exact ⟨rfl, rfl⟩)

set_option maxHeartbeats 1000000 in
set_option maxRecDepth 100000 in
theorem tok_blank (c : Int) (w : World) (h0 : 0 ≤ c) (h1 : c ≤ 255) : Calls Tryz.prog 159 #[.int .u8 c] w fun e w' => e = .returned (.bool (blank c)) ∧ w = w' := by
  rcases Bool.eq_false_or_eq_true (c == 32) with h0_ | h0_ <;> rcases Bool.eq_false_or_eq_true (decide (9 ≤ c)) with h1_ | h1_ <;> rcases Bool.eq_false_or_eq_true (decide (c ≤ 13)) with h2_ | h2_ <;> rcases Bool.eq_false_or_eq_true (c == 11) with h3_ | h3_ <;>
  (have e : blank c = (c == 32 || (decide (9 ≤ c) && (decide (c ≤ 13) && !(c == 11)))) := rfl
   have h4_ : (c != 11) = !(c == 11) := rfl
   rw [h3_] at h4_
   rw [e, h0_, h1_, h2_, h3_]
   clear e
   go_enter Tryz.func159, Tryz.ntmps159
   go_wp2
   go_ret
   exact ⟨rfl, rfl⟩)

set_option maxHeartbeats 1000000 in
set_option maxRecDepth 100000 in
theorem elem_Kind (s : ByteArray) (w : World) : Calls Tryz.prog 132 #[.string s] w fun e w' => e = .returned (.int .i64 (elemKind s)) ∧ w = w' := by
  unfold elemKind
  rcases Bool.eq_false_or_eq_true (s.toList == [98, 114]) with h0 | h0
  · simp only [*, if_true, if_false, Bool.false_eq_true]
    go_enter Tryz.func132, Tryz.ntmps132
    go_wp2
    go_ret
    exact ⟨rfl, rfl⟩
  · skip
    rcases Bool.eq_false_or_eq_true (s.toList == [105, 109, 103]) with h1 | h1
    · simp only [*, if_true, if_false, Bool.false_eq_true]
      go_enter Tryz.func132, Tryz.ntmps132
      go_wp2
      go_ret
      exact ⟨rfl, rfl⟩
    · skip
      rcases Bool.eq_false_or_eq_true (s.toList == [105, 110, 112, 117, 116]) with h2 | h2
      · simp only [*, if_true, if_false, Bool.false_eq_true]
        go_enter Tryz.func132, Tryz.ntmps132
        go_wp2
        go_ret
        exact ⟨rfl, rfl⟩
      · skip
        rcases Bool.eq_false_or_eq_true (s.toList == [104, 114]) with h3 | h3
        · simp only [*, if_true, if_false, Bool.false_eq_true]
          go_enter Tryz.func132, Tryz.ntmps132
          go_wp2
          go_ret
          exact ⟨rfl, rfl⟩
        · skip
          rcases Bool.eq_false_or_eq_true (s.toList == [109, 101, 116, 97]) with h4 | h4
          · simp only [*, if_true, if_false, Bool.false_eq_true]
            go_enter Tryz.func132, Tryz.ntmps132
            go_wp2
            go_ret
            exact ⟨rfl, rfl⟩
          · skip
            rcases Bool.eq_false_or_eq_true (s.toList == [108, 105, 110, 107]) with h5 | h5
            · simp only [*, if_true, if_false, Bool.false_eq_true]
              go_enter Tryz.func132, Tryz.ntmps132
              go_wp2
              go_ret
              exact ⟨rfl, rfl⟩
            · skip
              rcases Bool.eq_false_or_eq_true (s.toList == [116, 105, 116, 108, 101]) with h6 | h6
              · simp only [*, if_true, if_false, Bool.false_eq_true]
                go_enter Tryz.func132, Tryz.ntmps132
                go_wp2
                go_ret
                exact ⟨rfl, rfl⟩
              · skip
                rcases Bool.eq_false_or_eq_true (s.toList == [116, 101, 120, 116, 97, 114, 101, 97]) with h7 | h7
                · simp only [*, if_true, if_false, Bool.false_eq_true]
                  go_enter Tryz.func132, Tryz.ntmps132
                  go_wp2
                  go_ret
                  exact ⟨rfl, rfl⟩
                · skip
                  rcases Bool.eq_false_or_eq_true (s.toList == [115, 99, 114, 105, 112, 116]) with h8 | h8
                  · simp only [*, if_true, if_false, Bool.false_eq_true]
                    go_enter Tryz.func132, Tryz.ntmps132
                    go_wp2
                    go_ret
                    exact ⟨rfl, rfl⟩
                  · skip
                    rcases Bool.eq_false_or_eq_true (s.toList == [115, 116, 121, 108, 101]) with h9 | h9
                    · simp only [*, if_true, if_false, Bool.false_eq_true]
                      go_enter Tryz.func132, Tryz.ntmps132
                      go_wp2
                      go_ret
                      exact ⟨rfl, rfl⟩
                    · skip
                      simp only [*, if_true, if_false, Bool.false_eq_true]
                      go_enter Tryz.func132, Tryz.ntmps132
                      go_wp2
                      go_ret
                      exact ⟨rfl, rfl⟩
end Go.Proofs.YtokclcilpekfiaaGreatDoor
