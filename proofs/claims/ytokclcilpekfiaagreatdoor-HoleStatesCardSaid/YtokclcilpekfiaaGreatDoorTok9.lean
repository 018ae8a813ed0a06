/- The contract of tok.Step: it returns the state that the plain function tStep tells. Condition: a byte is one. -/
import Derived.Test.YtokclcilpekfiaaGreatDoorTok7
import Derived.Test.YtokclcilpekfiaaGreatDoorTok8
namespace Go.Proofs.YtokclcilpekfiaaGreatDoor
open Go.RowKit
set_option linter.unusedVariables false
set_option linter.unusedSimpArgs false
set_option maxHeartbeats 1000000 in
set_option maxRecDepth 100000 in
theorem tok_Step_neg (s : St) (c : Int) (hs : s.at_ < 0) (w : World) : Calls Tryz.prog 76 #[St.val s, .int .u8 c] w fun e w' => e = .returned (St.val s) ∧ Below w.heap.size w w' := by
  have k0 : decide (s.at_ < 0) = true := by simpa using hs
  have hset := step_row ((w.alloc (.cells #[.int .i64 s.at_, .string s.name, .bool s.fin, .string s.attr, .string s.held, .int .i64 s.read] 29)).alloc (.cells #[.int .i64 0, .string ⟨#[]⟩, .bool false, .string ⟨#[]⟩, .string ⟨#[]⟩, .int .i64 0] 29)) (w.heap.size + 1 + 1) (by simp) stepNils stepFns 123
  have hlast := Lib.hid (step_last ((w.alloc (.cells #[.int .i64 s.at_, .string s.name, .bool s.fin, .string s.attr, .string s.held, .int .i64 s.read] 29)).alloc (.cells #[.int .i64 0, .string ⟨#[]⟩, .bool false, .string ⟨#[]⟩, .string ⟨#[]⟩, .int .i64 0] 29)) (w.heap.size + 1 + 1) (by simp) (.cells stepNils 123))
  simp only [stepNils, stepFns] at hset hlast
  go_enter Tryz.func76, Tryz.ntmps76
  go_wp2_with (first | (with_reducible refine wpList_store_row (o := ⟨none, .store 123 (.tmp 5) (.tmp 6), _, _, _, _⟩) rfl 123 (.tmp 5) (.tmp 6) rfl (w.heap.size + 1 + 1) #[.func (.func 97) #[] #[], .func (.func 98) #[] #[], .func (.func 99) #[] #[], .func (.func 100) #[] #[], .func (.func 101) #[] #[], .func (.func 102) #[] #[], .func (.func 103) #[] #[], .func (.func 104) #[] #[], .func (.func 105) #[] #[], .func (.func 106) #[] #[], .func (.func 107) #[] #[], .func (.func 101) #[] #[], .func (.func 101) #[] #[], .func (.func 108) #[] #[], .func (.func 109) #[] #[], .func (.func 110) #[] #[], .func (.func 111) #[] #[], .func (.func 112) #[] #[], .func (.func 113) #[] #[], .func (.func 114) #[] #[], .func (.func 115) #[] #[], .func (.func 116) #[] #[], .func (.func 117) #[] #[]] ?hx ?hy 123 _ hlast.out ?hi ?hs ?h1 ?_))
  case hx => rfl
  case hy => rfl
  case hi => kernel_rfl
  case hs => rfl
  case h1 => kernel_rfl
  go_wp2
  all_goals (refine bodyPost_ret (v := St.val s) (by simp (maxDischargeDepth := 8) [results, Tryz.results76, go_sem, *]) rfl ⟨by simp [go_sem, *], ?_⟩; with_reducible (repeat (first | refine Below.setCell ?_ (by first | exact Nat.le_refl _ | (simp; done) | (simp; omega) | omega) _ | refine Below.drew ?_ | refine below_drewN ?_ _ | refine Below.alloc ?_ (by first | exact Nat.le_refl _ | (simp; done) | (simp; omega) | omega) _ | exact Below.refl _ _ | refine Below.trans ?_ (Below.mono (by assumption) (by first | exact Nat.le_refl _ | (simp; done) | (simp; omega) | omega)))))

set_option maxHeartbeats 1000000 in
set_option maxRecDepth 100000 in
theorem tok_Step_big (s : St) (c : Int) (hs : 23 ≤ s.at_) (w : World) : Calls Tryz.prog 76 #[St.val s, .int .u8 c] w fun e w' => e = .returned (St.val s) ∧ Below w.heap.size w w' := by
  have k0 : decide (s.at_ < 0) = false := by simp; omega
  have k1 : decide (23 ≤ s.at_) = true := by simpa using hs
  have hset := step_row ((w.alloc (.cells #[.int .i64 s.at_, .string s.name, .bool s.fin, .string s.attr, .string s.held, .int .i64 s.read] 29)).alloc (.cells #[.int .i64 0, .string ⟨#[]⟩, .bool false, .string ⟨#[]⟩, .string ⟨#[]⟩, .int .i64 0] 29)) (w.heap.size + 1 + 1) (by simp) stepNils stepFns 123
  have hlast := Lib.hid (step_last ((w.alloc (.cells #[.int .i64 s.at_, .string s.name, .bool s.fin, .string s.attr, .string s.held, .int .i64 s.read] 29)).alloc (.cells #[.int .i64 0, .string ⟨#[]⟩, .bool false, .string ⟨#[]⟩, .string ⟨#[]⟩, .int .i64 0] 29)) (w.heap.size + 1 + 1) (by simp) (.cells stepNils 123))
  simp only [stepNils, stepFns] at hset hlast
  go_enter Tryz.func76, Tryz.ntmps76
  go_wp2_with (first | (with_reducible refine wpList_store_row (o := ⟨none, .store 123 (.tmp 5) (.tmp 6), _, _, _, _⟩) rfl 123 (.tmp 5) (.tmp 6) rfl (w.heap.size + 1 + 1) #[.func (.func 97) #[] #[], .func (.func 98) #[] #[], .func (.func 99) #[] #[], .func (.func 100) #[] #[], .func (.func 101) #[] #[], .func (.func 102) #[] #[], .func (.func 103) #[] #[], .func (.func 104) #[] #[], .func (.func 105) #[] #[], .func (.func 106) #[] #[], .func (.func 107) #[] #[], .func (.func 101) #[] #[], .func (.func 101) #[] #[], .func (.func 108) #[] #[], .func (.func 109) #[] #[], .func (.func 110) #[] #[], .func (.func 111) #[] #[], .func (.func 112) #[] #[], .func (.func 113) #[] #[], .func (.func 114) #[] #[], .func (.func 115) #[] #[], .func (.func 116) #[] #[], .func (.func 117) #[] #[]] ?hx ?hy 123 _ hlast.out ?hi ?hs ?h1 ?_))
  case hx => rfl
  case hy => rfl
  case hi => kernel_rfl
  case hs => rfl
  case h1 => kernel_rfl
  go_wp2
  all_goals (refine bodyPost_ret (v := St.val s) (by simp (maxDischargeDepth := 8) [results, Tryz.results76, go_sem, *]) rfl ⟨by simp [go_sem, *], ?_⟩; with_reducible (repeat (first | refine Below.setCell ?_ (by first | exact Nat.le_refl _ | (simp; done) | (simp; omega) | omega) _ | refine Below.drew ?_ | refine below_drewN ?_ _ | refine Below.alloc ?_ (by first | exact Nat.le_refl _ | (simp; done) | (simp; omega) | omega) _ | exact Below.refl _ _ | refine Below.trans ?_ (Below.mono (by assumption) (by first | exact Nat.le_refl _ | (simp; done) | (simp; omega) | omega)))))

theorem tok_Step (s : St) (c : Int) (h0 : 0 ≤ c) (h1 : c ≤ 255) (w : World) : Calls Tryz.prog 76 #[St.val s, .int .u8 c] w fun e w' => e = .returned (St.val (tStep s c)) ∧ Below w.heap.size w w' := by
  by_cases a1 : s.at_ < 0
  · have hm : tStep s c = s := by unfold tStep; simp [a1]
    rw [hm]; exact tok_Step_neg s c a1 w
  · by_cases a2 : 23 ≤ s.at_
    · have hm : tStep s c = s := by unfold tStep; simp [a2]
      rw [hm]; exact tok_Step_big s c a2 w
    · obtain ⟨a, n, f, t, hd, r⟩ := s
      simp only at a1 a2
      obtain ⟨k, rfl⟩ := Int.eq_ofNat_of_zero_le (show 0 ≤ a by omega)
      have hk : k < 23 := by omega
      have hm : ∀ x, (if decide ((k : Int) < 0) || decide (23 ≤ (k : Int)) then (⟨(k : Int), n, f, t, hd, r⟩ : St) else x) = x := fun x => by
        rw [if_neg]
        simp; omega
      unfold tStep
      rw [hm]
      clear hm a1 a2
      match k, hk with
      | 0, _ => exact tok_Step_0 n t hd f r c h0 h1 w
      | 1, _ => exact tok_Step_1 n t hd f r c h0 h1 w
      | 2, _ => exact tok_Step_2 n t hd f r c h0 h1 w
      | 3, _ => exact tok_Step_3 n t hd f r c h0 h1 w
      | 4, _ => exact tok_Step_4 n t hd f r c h0 h1 w
      | 5, _ => exact tok_Step_5 n t hd f r c h0 h1 w
      | 6, _ => exact tok_Step_6 n t hd f r c h0 h1 w
      | 7, _ => exact tok_Step_7 n t hd f r c h0 h1 w
      | 8, _ => exact tok_Step_8 n t hd f r c h0 h1 w
      | 9, _ => exact tok_Step_9 n t hd f r c h0 h1 w
      | 10, _ => exact tok_Step_10 n t hd f r c h0 h1 w
      | 11, _ => exact tok_Step_11 n t hd f r c h0 h1 w
      | 12, _ => exact tok_Step_12 n t hd f r c h0 h1 w
      | 13, _ => exact tok_Step_13 n t hd f r c h0 h1 w
      | 14, _ => exact tok_Step_14 n t hd f r c h0 h1 w
      | 15, _ => exact tok_Step_15 n t hd f r c h0 h1 w
      | 16, _ => exact tok_Step_16 n t hd f r c h0 h1 w
      | 17, _ => exact tok_Step_17 n t hd f r c h0 h1 w
      | 18, _ => exact tok_Step_18 n t hd f r c h0 h1 w
      | 19, _ => exact tok_Step_19 n t hd f r c h0 h1 w
      | 20, _ => exact tok_Step_20 n t hd f r c h0 h1 w
      | 21, _ => exact tok_Step_21 n t hd f r c h0 h1 w
      | 22, _ => exact tok_Step_22 n t hd f r c h0 h1 w
      | k + 23, hq => exact absurd hq (by omega)
end Go.Proofs.YtokclcilpekfiaaGreatDoor
