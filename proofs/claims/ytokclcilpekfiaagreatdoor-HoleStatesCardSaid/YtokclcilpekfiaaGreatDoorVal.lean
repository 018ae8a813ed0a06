/- Contracts of package value at three shapes of a value: a text, a list of nothing, a whole number. Condition: the pointer holds such a value. -/
import Derived.Test.YtokclcilpekfiaaGreatDoorBlk
import Derived.Test.YtokclcilpekfiaaGreatDoorUtf
namespace Go.Proofs.YtokclcilpekfiaaGreatDoor
open Go.RowKit
set_option linter.unusedVariables false
set_option linter.unusedSimpArgs false
/-- A value without items and keys, as cells. -/
def flat (k i u : Int) (t : ByteArray) : Array Value := #[.int .i64 k, .int .i64 i, .int .u64 u, .string t, .slice none 0 0, .slice none 0 0]
def FlatAt (w : World) (b off : Nat) (k i u : Int) (t : ByteArray) : Prop :=
  w.cell? ⟨b, off, none⟩ = some (.int .i64 k) ∧ w.cell? ⟨b, off + 1, none⟩ = some (.int .i64 i) ∧ w.cell? ⟨b, off + 2, none⟩ = some (.int .u64 u) ∧
  w.cell? ⟨b, off + 3, none⟩ = some (.string t) ∧ w.cell? ⟨b, off + 4, none⟩ = some (.slice none 0 0) ∧ w.cell? ⟨b, off + 5, none⟩ = some (.slice none 0 0)
theorem FlatAt.lt {w : World} {b off : Nat} {k i u : Int} {t : ByteArray} (h : FlatAt w b off k i u t) : b < w.heap.size := World.block_lt_of_cell? w ⟨b, off, none⟩ h.1
theorem FlatAt.of_cells {w w' : World} {b off : Nat} {k i u : Int} {t : ByteArray} (h : FlatAt w b off k i u t) (hc : ∀ o, w'.cell? ⟨b, o, none⟩ = w.cell? ⟨b, o, none⟩) : FlatAt w' b off k i u t :=
  ⟨(hc _).trans h.1, (hc _).trans h.2.1, (hc _).trans h.2.2.1, (hc _).trans h.2.2.2.1, (hc _).trans h.2.2.2.2.1, (hc _).trans h.2.2.2.2.2⟩
theorem FlatAt.below {w w' : World} {b off : Nat} {k i u : Int} {t : ByteArray} (h : FlatAt w b off k i u t) (hb : Below w.heap.size w w') : FlatAt w' b off k i u t :=
  h.of_cells fun o => hb.cell (p := ⟨b, o, none⟩) h.lt
def vInt (i : Int) : Bool := decide (-9007199254740991 ≤ i) && decide (i ≤ 9007199254740991)
set_option maxHeartbeats 1000000 in
set_option maxRecDepth 100000 in
theorem value_Int (i : Int) (w : World) : Calls Tryz.prog 154 #[.int .i64 i] w fun e w' => e = .returned (.bool (vInt i)) ∧ w = w' := by
  rcases Bool.eq_false_or_eq_true (decide (-9007199254740991 ≤ i)) with k0 | k0 <;> rcases Bool.eq_false_or_eq_true (decide (i ≤ 9007199254740991)) with k1 | k1 <;>
  (go_enter Tryz.func154, Tryz.ntmps154
   go_wp2
   go_ret
   exact ⟨by simp [vInt, *], rfl⟩)

set_option maxHeartbeats 1000000 in
set_option maxRecDepth 100000 in
theorem value_plainT (b off : Nat) (t : ByteArray)  (w : World) (h : FlatAt w b off 4 0 0 t)  : Calls Tryz.prog 153 #[.pointer (some ⟨b, off, none⟩)] w fun e w' => e = .returned (.bool true) ∧ w = w' := by
  have h_ := h
  obtain ⟨g0, g1, g2, g3, g4, g5⟩ := h_
  have H := Lib.hid h
  clear h
  go_enter Tryz.func153, Tryz.ntmps153
  go_wp2
  go_ret
  exact ⟨by simp [vInt, *], rfl⟩

set_option maxHeartbeats 1000000 in
set_option maxRecDepth 100000 in
theorem value_ownT (b off : Nat) (t : ByteArray)  (w : World) (h : FlatAt w b off 4 0 0 t) (ht : t.size ≤ 65536) : Calls Tryz.prog 95 #[.pointer (some ⟨b, off, none⟩)] w fun e w' => e = .returned (.bool true) ∧ w = w' := by
  have h_ := h
  obtain ⟨g0, g1, g2, g3, g4, g5⟩ := h_
  have H := Lib.hid h
  clear h
  have ht1 : (t.size : Int) ≤ 65536 := by omega
  have ht2 : decide ((t.size : Int) ≤ 65536) = true := by simpa using ht1
  go_enter Tryz.func95, Tryz.ntmps95
  go_wp2_with (first | (go_at_call 153; refine (value_plainT _ _ t _ H.out).mono ?_; rintro e w1 ⟨rfl, rfl⟩) | (go_at_call 154; refine (value_Int _ _).mono ?_; rintro e w1 ⟨rfl, rfl⟩))
  go_ret
  exact ⟨by simp [vInt, *], rfl⟩

set_option maxHeartbeats 1000000 in
set_option maxRecDepth 100000 in
theorem value_plainL (b off : Nat)   (w : World) (h : FlatAt w b off 5 0 0 ⟨#[]⟩)  : Calls Tryz.prog 153 #[.pointer (some ⟨b, off, none⟩)] w fun e w' => e = .returned (.bool true) ∧ w = w' := by
  have h_ := h
  obtain ⟨g0, g1, g2, g3, g4, g5⟩ := h_
  have H := Lib.hid h
  clear h
  go_enter Tryz.func153, Tryz.ntmps153
  go_wp2
  go_ret
  exact ⟨by simp [vInt, *], rfl⟩

set_option maxHeartbeats 1000000 in
set_option maxRecDepth 100000 in
theorem value_ownL (b off : Nat)   (w : World) (h : FlatAt w b off 5 0 0 ⟨#[]⟩)  : Calls Tryz.prog 95 #[.pointer (some ⟨b, off, none⟩)] w fun e w' => e = .returned (.bool true) ∧ w = w' := by
  have h_ := h
  obtain ⟨g0, g1, g2, g3, g4, g5⟩ := h_
  have H := Lib.hid h
  clear h
  go_enter Tryz.func95, Tryz.ntmps95
  go_wp2_with (first | (go_at_call 153; refine (value_plainL _ _  _ H.out).mono ?_; rintro e w1 ⟨rfl, rfl⟩) | (go_at_call 154; refine (value_Int _ _).mono ?_; rintro e w1 ⟨rfl, rfl⟩))
  go_ret
  exact ⟨by simp [vInt, *], rfl⟩

set_option maxHeartbeats 1000000 in
set_option maxRecDepth 100000 in
theorem value_plainN (b off : Nat) (i : Int)  (w : World) (h : FlatAt w b off 2 i 0 ⟨#[]⟩)  : Calls Tryz.prog 153 #[.pointer (some ⟨b, off, none⟩)] w fun e w' => e = .returned (.bool true) ∧ w = w' := by
  have h_ := h
  obtain ⟨g0, g1, g2, g3, g4, g5⟩ := h_
  have H := Lib.hid h
  clear h
  rcases Bool.eq_false_or_eq_true (i == 0) with k0 | k0 <;>
  (skip
   go_enter Tryz.func153, Tryz.ntmps153
   go_wp2
   go_ret
   exact ⟨by simp [vInt, *], rfl⟩)

set_option maxHeartbeats 1000000 in
set_option maxRecDepth 100000 in
theorem value_ownN (b off : Nat) (i : Int)  (w : World) (h : FlatAt w b off 2 i 0 ⟨#[]⟩)  : Calls Tryz.prog 95 #[.pointer (some ⟨b, off, none⟩)] w fun e w' => e = .returned (.bool (vInt i)) ∧ w = w' := by
  have h_ := h
  obtain ⟨g0, g1, g2, g3, g4, g5⟩ := h_
  have H := Lib.hid h
  clear h
  go_enter Tryz.func95, Tryz.ntmps95
  go_wp2_with (first | (go_at_call 153; refine (value_plainN _ _ i _ H.out).mono ?_; rintro e w1 ⟨rfl, rfl⟩) | (go_at_call 154; refine (value_Int _ _).mono ?_; rintro e w1 ⟨rfl, rfl⟩))
  go_ret
  exact ⟨by simp [vInt, *], rfl⟩
end Go.Proofs.YtokclcilpekfiaaGreatDoor
