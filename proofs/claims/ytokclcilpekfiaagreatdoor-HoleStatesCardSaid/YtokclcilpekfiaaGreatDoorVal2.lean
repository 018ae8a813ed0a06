/- Contracts of package value at three shapes of a value: may, May, Said. Condition: the pointer holds such a value. -/
import Derived.Test.YtokclcilpekfiaaGreatDoorVal
import Derived.LoopTactic
namespace Go.Proofs.YtokclcilpekfiaaGreatDoor
open Go.RowKit
set_option linter.unusedVariables false
set_option linter.unusedSimpArgs false
theorem new_last (w : World) (o : Obj) (n : Nat) (h : n = w.heap.size) : (w.alloc o).heap[n]? = some o := by
  subst h
  show (w.heap.push o)[w.heap.size]? = _
  simp
set_option maxHeartbeats 1000000 in
set_option maxRecDepth 100000 in
theorem value_mayT (b off bl : Nat) (t : ByteArray) (w : World) (h : FlatAt w b off 4 0 0 t) (hl : w.heap[bl]? = some (.cells #[.int .i64 1024] 3 (0, 0))) (hne : b ≠ bl) (ht : t.size ≤ 65536) : Calls Tryz.prog 66 #[.pointer (some ⟨b, off, none⟩), .int .i64 1, .pointer (some ⟨bl, 0, none⟩)] w fun e w' => e = .returned (.bool true) ∧ Tch bl w w' := by
  have l0 := cell_of_one hl
  have l1 := free_of_one hl
  have l2 := lt_of_block hl
  have H2 : FlatAt (w.setCell ⟨bl, 0, none⟩ (.int .i64 1023)) b off 4 0 0 t := h.of_cells fun o => World.cell?_of_block (Below.heap_setCell _ _ _ _ hne)
  have h_ := H2
  obtain ⟨g0, g1, g2, g3, g4, g5⟩ := h_
  have H := Lib.hid H2
  clear h H2 hl
  go_enter Tryz.func66, Tryz.ntmps66
  go_wp2_with (first | (go_at_call 95; refine (value_ownT _ _ t _ H.out ht).mono ?_; rintro e w1 ⟨rfl, rfl⟩))
  go_loop [31] (fun v => v = .int .i64 0) (fun _ => 0)
  case atStart => rfl
  case round =>
    obtain rfl := hrel
    go_wp2
    go_ret
    exact ⟨by simp [*], (Tch.refl _ _).setCell _ _ _⟩

set_option maxHeartbeats 1000000 in
set_option maxRecDepth 100000 in
theorem value_mayL (b off bl : Nat)  (w : World) (h : FlatAt w b off 5 0 0 ⟨#[]⟩) (hl : w.heap[bl]? = some (.cells #[.int .i64 1024] 3 (0, 0))) (hne : b ≠ bl)  : Calls Tryz.prog 66 #[.pointer (some ⟨b, off, none⟩), .int .i64 1, .pointer (some ⟨bl, 0, none⟩)] w fun e w' => e = .returned (.bool true) ∧ Tch bl w w' := by
  have l0 := cell_of_one hl
  have l1 := free_of_one hl
  have l2 := lt_of_block hl
  have H2 : FlatAt (w.setCell ⟨bl, 0, none⟩ (.int .i64 1023)) b off 5 0 0 ⟨#[]⟩ := h.of_cells fun o => World.cell?_of_block (Below.heap_setCell _ _ _ _ hne)
  have h_ := H2
  obtain ⟨g0, g1, g2, g3, g4, g5⟩ := h_
  have H := Lib.hid H2
  clear h H2 hl
  go_enter Tryz.func66, Tryz.ntmps66
  go_wp2_with (first | (go_at_call 95; refine (value_ownL _ _  _ H.out ).mono ?_; rintro e w1 ⟨rfl, rfl⟩))
  go_loop [31] (fun v => v = .int .i64 0) (fun _ => 0)
  case atStart => rfl
  case round =>
    obtain rfl := hrel
    go_wp2
    go_ret
    exact ⟨by simp [*], (Tch.refl _ _).setCell _ _ _⟩

set_option maxHeartbeats 1000000 in
set_option maxRecDepth 100000 in
theorem value_mayN (b off bl : Nat) (i : Int) (w : World) (h : FlatAt w b off 2 i 0 ⟨#[]⟩) (hl : w.heap[bl]? = some (.cells #[.int .i64 1024] 3 (0, 0))) (hne : b ≠ bl)  : Calls Tryz.prog 66 #[.pointer (some ⟨b, off, none⟩), .int .i64 1, .pointer (some ⟨bl, 0, none⟩)] w fun e w' => e = .returned (.bool (vInt i)) ∧ Tch bl w w' := by
  have l0 := cell_of_one hl
  have l1 := free_of_one hl
  have l2 := lt_of_block hl
  have H2 : FlatAt (w.setCell ⟨bl, 0, none⟩ (.int .i64 1023)) b off 2 i 0 ⟨#[]⟩ := h.of_cells fun o => World.cell?_of_block (Below.heap_setCell _ _ _ _ hne)
  have h_ := H2
  obtain ⟨g0, g1, g2, g3, g4, g5⟩ := h_
  have H := Lib.hid H2
  clear h H2 hl
  rcases Bool.eq_false_or_eq_true (vInt i) with k0 | k0
  · skip
    go_enter Tryz.func66, Tryz.ntmps66
    go_wp2_with (first | (go_at_call 95; refine (value_ownN _ _ i _ H.out ).mono ?_; rintro e w1 ⟨rfl, rfl⟩))
    go_loop [31] (fun v => v = .int .i64 0) (fun _ => 0)
    case atStart => rfl
    case round =>
      obtain rfl := hrel
      go_wp2
      go_ret
      exact ⟨by simp [*], (Tch.refl _ _).setCell _ _ _⟩
  · skip
    go_enter Tryz.func66, Tryz.ntmps66
    go_wp2_with (first | (go_at_call 95; refine (value_ownN _ _ i _ H.out ).mono ?_; rintro e w1 ⟨rfl, rfl⟩))
    go_ret
    exact ⟨by simp [*], (Tch.refl _ _).setCell _ _ _⟩

set_option maxHeartbeats 1000000 in
set_option maxRecDepth 100000 in
theorem value_MayT (t : ByteArray) (w : World) (ht : t.size ≤ 65536) : Calls Tryz.prog 32 #[.agg (flat 4 0 0 t)] w fun e w' => e = .returned (.bool true) ∧ Below w.heap.size w w' := by
  unfold flat
  go_enter Tryz.func32, Tryz.ntmps32
  go_wp2_with (first | (go_at_call 66; refine (value_mayT _ _ _ t _ (by refine ⟨?_, ?_, ?_, ?_, ?_, ?_⟩ <;> (simp [go_sem]; done)) (new_last _ _ _ (by simp)) (by simp) ht).mono ?_; rintro e w1 ⟨rfl, ht1⟩))
  go_ret
  refine ⟨rfl, ?_⟩
  exact ((below_alloc1 _ _).alloc (by simp) _).trans (ht1.below (by simp) (by simp; omega))

set_option maxHeartbeats 1000000 in
set_option maxRecDepth 100000 in
theorem value_MayL  (w : World)  : Calls Tryz.prog 32 #[.agg (flat 5 0 0 ⟨#[]⟩)] w fun e w' => e = .returned (.bool true) ∧ Below w.heap.size w w' := by
  unfold flat
  go_enter Tryz.func32, Tryz.ntmps32
  go_wp2_with (first | (go_at_call 66; refine (value_mayL _ _ _  _ (by refine ⟨?_, ?_, ?_, ?_, ?_, ?_⟩ <;> (simp [go_sem]; done)) (new_last _ _ _ (by simp)) (by simp) ).mono ?_; rintro e w1 ⟨rfl, ht1⟩))
  go_ret
  refine ⟨rfl, ?_⟩
  exact ((below_alloc1 _ _).alloc (by simp) _).trans (ht1.below (by simp) (by simp; omega))

set_option maxHeartbeats 1000000 in
set_option maxRecDepth 100000 in
theorem value_MayN (i : Int) (w : World)  : Calls Tryz.prog 32 #[.agg (flat 2 i 0 ⟨#[]⟩)] w fun e w' => e = .returned (.bool (vInt i)) ∧ Below w.heap.size w w' := by
  unfold flat
  go_enter Tryz.func32, Tryz.ntmps32
  go_wp2_with (first | (go_at_call 66; refine (value_mayN _ _ _ i _ (by refine ⟨?_, ?_, ?_, ?_, ?_, ?_⟩ <;> (simp [go_sem]; done)) (new_last _ _ _ (by simp)) (by simp) ).mono ?_; rintro e w1 ⟨rfl, ht1⟩))
  go_ret
  refine ⟨rfl, ?_⟩
  exact ((below_alloc1 _ _).alloc (by simp) _).trans (ht1.below (by simp) (by simp; omega))
end Go.Proofs.YtokclcilpekfiaaGreatDoor
