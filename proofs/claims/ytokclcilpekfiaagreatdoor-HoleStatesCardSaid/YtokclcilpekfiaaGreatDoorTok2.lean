/- Contracts of the tokenizer's small functions (package tok): each returns the state that the plain function tells; what lay in memory stands. Conditions: the pointer holds a state, a byte is one. -/
import Derived.Test.YtokclcilpekfiaaGreatDoorTok1
namespace Go.Proofs.YtokclcilpekfiaaGreatDoor
open Go.RowKit
set_option linter.unusedVariables false
set_option linter.unusedSimpArgs false

set_option maxHeartbeats 1000000 in
set_option maxRecDepth 100000 in
theorem tok_at (x : Int) (w : World) : Calls Tryz.prog 131 #[.int .i64 x] w fun e w' => e = .returned (St.val (stAt x)) ∧ Below w.heap.size w w' := by
  go_enter Tryz.func131, Tryz.ntmps131
  go_wp2
  refine bodyPost_ret (v := St.val (stAt x)) (by simp [results, Tryz.results131, go_sem, stAt]) rfl ⟨rfl, ?_⟩; with_reducible (repeat (first | refine Below.setCell ?_ (by first | exact Nat.le_refl _ | (simp; done) | (simp; omega) | omega) _ | refine Below.drew ?_ | refine below_drewN ?_ _ | refine Below.alloc ?_ (by first | exact Nat.le_refl _ | (simp; done) | (simp; omega) | omega) _ | exact Below.refl _ _ | refine Below.trans ?_ (Below.mono (by assumption) (by first | exact Nat.le_refl _ | (simp; done) | (simp; omega) | omega))))

set_option maxHeartbeats 1000000 in
set_option maxRecDepth 100000 in
theorem tok_in (b off : Nat) (s : St) (x : Int) (w : World) (h : StAt w b off s) : Calls Tryz.prog 129 #[.pointer (some ⟨b, off, none⟩), .int .i64 x] w fun e w' => e = .returned (St.val (stIn s x)) ∧ Below w.heap.size w w' := by
  have hb := h.lt
  obtain ⟨g0, g1, g2, g3, g4, g5⟩ := h
  go_enter Tryz.func129, Tryz.ntmps129
  go_wp2
  refine wp_tail_drew 10 (by kernel_rfl) (by kernel_rfl) ?_
  simp only [List.take_succ_cons, List.take_zero, List.drop_succ_cons, List.drop_zero]
  repeat still_step
  refine wpStill_nil ?_
  go_wp2
  refine bodyPost_ret (v := St.val (stIn s x)) (by simp [results, Tryz.results129, go_sem, stIn]) rfl ⟨rfl, ?_⟩; with_reducible (repeat (first | refine Below.setCell ?_ (by first | exact Nat.le_refl _ | (simp; done) | (simp; omega) | omega) _ | refine Below.drew ?_ | refine below_drewN ?_ _ | refine Below.alloc ?_ (by first | exact Nat.le_refl _ | (simp; done) | (simp; omega) | omega) _ | exact Below.refl _ _ | refine Below.trans ?_ (Below.mono (by assumption) (by first | exact Nat.le_refl _ | (simp; done) | (simp; omega) | omega))))

set_option maxHeartbeats 1000000 in
set_option maxRecDepth 100000 in
theorem tok_attr (b off : Nat) (s : St) (x : Int) (n : ByteArray) (w : World) (h : StAt w b off s) : Calls Tryz.prog 128 #[.pointer (some ⟨b, off, none⟩), .int .i64 x, .string n] w fun e w' => e = .returned (St.val (stAttr s x n)) ∧ Below w.heap.size w w' := by
  have hb := h.lt
  obtain ⟨g0, g1, g2, g3, g4, g5⟩ := h
  go_enter Tryz.func128, Tryz.ntmps128
  go_wp2
  refine wp_tail_drew 11 (by kernel_rfl) (by kernel_rfl) ?_
  simp only [List.take_succ_cons, List.take_zero, List.drop_succ_cons, List.drop_zero]
  repeat still_step
  refine wpStill_nil ?_
  go_wp2
  refine bodyPost_ret (v := St.val (stAttr s x n)) (by simp [results, Tryz.results128, go_sem, stAttr]) rfl ⟨rfl, ?_⟩; with_reducible (repeat (first | refine Below.setCell ?_ (by first | exact Nat.le_refl _ | (simp; done) | (simp; omega) | omega) _ | refine Below.drew ?_ | refine below_drewN ?_ _ | refine Below.alloc ?_ (by first | exact Nat.le_refl _ | (simp; done) | (simp; omega) | omega) _ | exact Below.refl _ _ | refine Below.trans ?_ (Below.mono (by assumption) (by first | exact Nat.le_refl _ | (simp; done) | (simp; omega) | omega))))

set_option maxHeartbeats 1000000 in
set_option maxRecDepth 100000 in
theorem tok_held (b off : Nat) (s : St) (x : Int) (w : World) (h : StAt w b off s) : Calls Tryz.prog 130 #[.pointer (some ⟨b, off, none⟩), .int .i64 x] w fun e w' => e = .returned (St.val (stHeld s x)) ∧ Below w.heap.size w w' := by
  have hb := h.lt
  obtain ⟨g0, g1, g2, g3, g4, g5⟩ := h
  go_enter Tryz.func130, Tryz.ntmps130
  go_wp2
  refine bodyPost_ret (v := St.val (stHeld s x)) (by simp [results, Tryz.results130, go_sem, stHeld]) rfl ⟨rfl, ?_⟩; with_reducible (repeat (first | refine Below.setCell ?_ (by first | exact Nat.le_refl _ | (simp; done) | (simp; omega) | omega) _ | refine Below.drew ?_ | refine below_drewN ?_ _ | refine Below.alloc ?_ (by first | exact Nat.le_refl _ | (simp; done) | (simp; omega) | omega) _ | exact Below.refl _ _ | refine Below.trans ?_ (Below.mono (by assumption) (by first | exact Nat.le_refl _ | (simp; done) | (simp; omega) | omega))))

set_option maxHeartbeats 1000000 in
set_option maxRecDepth 100000 in
theorem tok_data  (v : Value) (c : Int) (h0 : 0 ≤ c) (h1 : c ≤ 255) (w : World) : Calls Tryz.prog 97 #[v, .int .u8 c] w fun e w' => e = .returned (St.val (tData c)) ∧ Below w.heap.size w w' := by
  rcases chain1 (c == 60) with k0 | k0 <;>
  (skip
   go_enter Tryz.func97, Tryz.ntmps97
   go_wp2_with (first | (go_at_call 131; refine (tok_at _ _).mono ?_; rintro e w1 ⟨rfl, hb1⟩; have hc1 := bcell hb1; have hz1 := hb1.size; (try simp at hz1); (try (have hz2 : w.heap.size < w1.heap.size := by omega)); (try (have hz3 : w.heap.size ≤ w1.heap.size := by omega)); (try (have hz4 : b < w1.heap.size := by omega)); (try (have hz5 : b ≤ w1.heap.size := by omega)); (try (have hz6 : w.heap.size + 1 < w1.heap.size := by omega)); (try (have hz7 : w.heap.size + 1 ≤ w1.heap.size := by omega))))
   all_goals (refine bodyPost_ret (v := St.val (tData c)) (by simp (maxDischargeDepth := 8) [results, Tryz.results97, go_sem, tData, *]) rfl ⟨by simp [go_sem, tData, *], ?_⟩; with_reducible (repeat (first | refine Below.setCell ?_ (by first | exact Nat.le_refl _ | (simp; done) | (simp; omega) | omega) _ | refine Below.drew ?_ | refine below_drewN ?_ _ | refine Below.alloc ?_ (by first | exact Nat.le_refl _ | (simp; done) | (simp; omega) | omega) _ | exact Below.refl _ _ | refine Below.trans ?_ (Below.mono (by assumption) (by first | exact Nat.le_refl _ | (simp; done) | (simp; omega) | omega))))))

set_option maxHeartbeats 1000000 in
set_option maxRecDepth 100000 in
theorem tok_closes (b off : Nat) (s : St)   (w : World) (h : StAt w b off s) : Calls Tryz.prog 160 #[.pointer (some ⟨b, off, none⟩)] w fun e w' => e = .returned (St.val (closes s)) ∧ Below w.heap.size w w' := by
  have hlt : b < w.heap.size := h.lt
  have hle : b ≤ w.heap.size := Nat.le_of_lt hlt
  have h_ := h
  obtain ⟨g0, g1, g2, g3, g4, g5⟩ := h_
  have H := Lib.hid h
  clear h
  rcases chain3 (s.fin) (elemKind s.name == 0) (elemKind s.name == 1) with k0 | ⟨k0, k1⟩ | ⟨k0, k1, k2⟩ | ⟨k0, k1, k2⟩ <;>
  (skip
   go_enter Tryz.func160, Tryz.ntmps160
   go_wp2_with (first | (go_at_call 132; refine (elem_Kind _ _).mono ?_; rintro e w1 ⟨rfl, rfl⟩) | (go_at_call 131; refine (tok_at _ _).mono ?_; rintro e w1 ⟨rfl, hb1⟩; have hc1 := bcell hb1; have hz1 := hb1.size; (try simp at hz1); (try (have hz2 : w.heap.size < w1.heap.size := by omega)); (try (have hz3 : w.heap.size ≤ w1.heap.size := by omega)); (try (have hz4 : b < w1.heap.size := by omega)); (try (have hz5 : b ≤ w1.heap.size := by omega)); (try (have hz6 : w.heap.size + 1 < w1.heap.size := by omega)); (try (have hz7 : w.heap.size + 1 ≤ w1.heap.size := by omega))))
   all_goals (refine bodyPost_ret (v := St.val (closes s)) (by simp (maxDischargeDepth := 8) [results, Tryz.results160, go_sem, closes, *]) rfl ⟨by simp [go_sem, closes, *], ?_⟩; with_reducible (repeat (first | refine Below.setCell ?_ (by first | exact Nat.le_refl _ | (simp; done) | (simp; omega) | omega) _ | refine Below.drew ?_ | refine below_drewN ?_ _ | refine Below.alloc ?_ (by first | exact Nat.le_refl _ | (simp; done) | (simp; omega) | omega) _ | exact Below.refl _ _ | refine Below.trans ?_ (Below.mono (by assumption) (by first | exact Nat.le_refl _ | (simp; done) | (simp; omega) | omega))))))

set_option maxHeartbeats 1000000 in
set_option maxRecDepth 100000 in
theorem tok_between (b off : Nat) (s : St) (c x : Int) (h0 : 0 ≤ c) (h1 : c ≤ 255) (w : World) (h : StAt w b off s) : Calls Tryz.prog 157 #[.pointer (some ⟨b, off, none⟩), .int .u8 c, .int .i64 x] w fun e w' => e = .returned (.tuple #[St.val (between s c x).1, .bool (between s c x).2]) ∧ Below w.heap.size w w' := by
  have hlt : b < w.heap.size := h.lt
  have hle : b ≤ w.heap.size := Nat.le_of_lt hlt
  have H := Lib.hid h
  clear h
  rcases chain3 (blank c) (c == 47) (c == 62) with k0 | ⟨k0, k1⟩ | ⟨k0, k1, k2⟩ | ⟨k0, k1, k2⟩ <;>
  (skip
   go_enter Tryz.func157, Tryz.ntmps157
   go_wp2_with (first | (go_at_call 159; refine (tok_blank _ _ (by omega) (by omega)).mono ?_; rintro e w1 ⟨rfl, rfl⟩) | (go_at_call 129; refine (tok_in _ _ s _ _ (by first | exact H.out | exact StAt.below H.out (by with_reducible (repeat (first | refine Below.setCell ?_ (by first | exact Nat.le_refl _ | (simp; done) | (simp; omega) | omega) _ | refine Below.drew ?_ | refine below_drewN ?_ _ | refine Below.alloc ?_ (by first | exact Nat.le_refl _ | (simp; done) | (simp; omega) | omega) _ | exact Below.refl _ _ | refine Below.trans ?_ (Below.mono (by assumption) (by first | exact Nat.le_refl _ | (simp; done) | (simp; omega) | omega))))))).mono ?_; rintro e w1 ⟨rfl, hb1⟩; have hc1 := bcell hb1; have hz1 := hb1.size; (try simp at hz1); (try (have hz2 : w.heap.size < w1.heap.size := by omega)); (try (have hz3 : w.heap.size ≤ w1.heap.size := by omega)); (try (have hz4 : b < w1.heap.size := by omega)); (try (have hz5 : b ≤ w1.heap.size := by omega)); (try (have hz6 : w.heap.size + 1 < w1.heap.size := by omega)); (try (have hz7 : w.heap.size + 1 ≤ w1.heap.size := by omega))) | (go_at_call 160; refine (tok_closes _ _ s _ (by first | exact H.out | exact StAt.below H.out (by with_reducible (repeat (first | refine Below.setCell ?_ (by first | exact Nat.le_refl _ | (simp; done) | (simp; omega) | omega) _ | refine Below.drew ?_ | refine below_drewN ?_ _ | refine Below.alloc ?_ (by first | exact Nat.le_refl _ | (simp; done) | (simp; omega) | omega) _ | exact Below.refl _ _ | refine Below.trans ?_ (Below.mono (by assumption) (by first | exact Nat.le_refl _ | (simp; done) | (simp; omega) | omega))))))).mono ?_; rintro e w1 ⟨rfl, hb1⟩; have hc1 := bcell hb1; have hz1 := hb1.size; (try simp at hz1); (try (have hz2 : w.heap.size < w1.heap.size := by omega)); (try (have hz3 : w.heap.size ≤ w1.heap.size := by omega)); (try (have hz4 : b < w1.heap.size := by omega)); (try (have hz5 : b ≤ w1.heap.size := by omega)); (try (have hz6 : w.heap.size + 1 < w1.heap.size := by omega)); (try (have hz7 : w.heap.size + 1 ≤ w1.heap.size := by omega))))
   all_goals (refine bodyPost_ret (v := .tuple #[St.val (between s c x).1, .bool (between s c x).2]) (by simp (maxDischargeDepth := 8) [results, Tryz.results157, go_sem, between, St.zero, *]) rfl ⟨by simp [go_sem, between, St.zero, *], ?_⟩; with_reducible (repeat (first | refine Below.setCell ?_ (by first | exact Nat.le_refl _ | (simp; done) | (simp; omega) | omega) _ | refine Below.drew ?_ | refine below_drewN ?_ _ | refine Below.alloc ?_ (by first | exact Nat.le_refl _ | (simp; done) | (simp; omega) | omega) _ | exact Below.refl _ _ | refine Below.trans ?_ (Below.mono (by assumption) (by first | exact Nat.le_refl _ | (simp; done) | (simp; omega) | omega))))))
end Go.Proofs.YtokclcilpekfiaaGreatDoor
