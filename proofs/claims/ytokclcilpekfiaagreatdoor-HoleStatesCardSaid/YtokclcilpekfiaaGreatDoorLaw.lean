/- Contracts of the laws' own helpers: Num, at, holeOf, text, num. Condition: a text is no longer than 2^48. -/
import Derived.Test.YtokclcilpekfiaaGreatDoorText2
import Derived.Test.YtokclcilpekfiaaGreatDoorEsc2
namespace Go.Proofs.YtokclcilpekfiaaGreatDoor
open Go.RowKit
set_option linter.unusedVariables false
set_option linter.unusedSimpArgs false
set_option maxHeartbeats 1000000 in
set_option maxRecDepth 100000 in
theorem law_Num (n : Int) (w : World) : Calls Tryz.prog 13 #[.int .i64 n] w fun e w' => e = .returned (.int .i64 n) ∧ w = w' := by
  go_enter Tryz.func13, Tryz.ntmps13
  go_wp2
  go_ret
  exact ⟨rfl, rfl⟩
def atM (s : ByteArray) : Cx × Int := cText Cx.zero s
def AtPost (s : ByteArray) (w : World) (e : Ending) (w' : World) : Prop := e = .returned (.tuple #[Cx.val (atM s).1, .int .i64 (atM s).2]) ∧ Below w.heap.size w w'
set_option maxHeartbeats 1000000 in
set_option maxRecDepth 100000 in
theorem law_at (s : ByteArray) (w : World) (hs : s.size ≤ 281474976710656) : Calls Tryz.prog 11 #[.string s] w (AtPost s w) := by
  go_enter Tryz.func11, Tryz.ntmps11
  go_wp2_with fail
  refine (ctx_Start _).mono ?_
  rintro e w1 ⟨rfl, hb1⟩
  have HZ1 := Lib.hid ((CxBlk.new w Cx.zero).below hb1)
  have HW1 : Hid (Below w.heap.size w w1) := (below_alloc1 _ _).trans (hb1.mono (by simp))
  clear hb1
  go_wp2_with fail
  refine (ctx_Text Cx.zero s _ hs).mono ?_
  rintro e w2 ⟨rfl, hb2⟩
  have HZ2 := Lib.hid (HZ1.out.below hb2)
  have HW2 : Hid (Below w.heap.size w w2) := HW1.out.trans (hb2.mono HW1.out.size)
  have hlt := HZ2.out.lt
  clear hb2
  obtain ⟨⟨z0, z1, z2, z3, z4, z5⟩, z6, z7, z8, z9⟩ := HZ2.out.at
  have zf := HZ2.out.free
  go_wp2_with fail
  refine wp_tail_drew 3 (by kernel_rfl) (by kernel_rfl) ?_
  simp only [List.take_succ_cons, List.take_zero, List.drop_succ_cons, List.drop_zero]
  still_step
  still_step
  still_call (flipw (law_Num _ _))
  refine wpStill_nil ?_
  go_wp2
  refine bodyPost_ret (v := .tuple #[Cx.val (atM s).1, .int .i64 (atM s).2]) (by simp (maxDischargeDepth := 8) [results, Tryz.results11, go_sem, atM, *]) rfl ⟨rfl, ?_⟩
  exact HW2.out.trans (by with_reducible (repeat (first | refine Below.setCell ?_ (by first | exact Nat.le_refl _ | (simp; done) | (simp; omega) | omega) _ | refine Below.drew ?_ | refine below_drewN ?_ _ | refine Below.alloc ?_ (by first | exact Nat.le_refl _ | (simp; done) | (simp; omega) | omega) _ | exact Below.refl _ _ | refine Below.trans ?_ (Below.mono (by assumption) (by first | exact Nat.le_refl _ | (simp; done) | (simp; omega) | omega)))))
def holeOfM (s : ByteArray) : Int × Int := if (atM s).2 = 0 then ((cHole (atM s).1).1, (cHole (atM s).1).2.2) else (-1, (atM s).2)
def HoleOfPost (s : ByteArray) (w : World) (e : Ending) (w' : World) : Prop := e = .returned (.tuple #[.int .i64 (holeOfM s).1, .int .i64 (holeOfM s).2]) ∧ Below w.heap.size w w'
set_option maxHeartbeats 1000000 in
set_option maxRecDepth 100000 in
theorem law_holeOf (s : ByteArray) (w : World) (hs : s.size ≤ 281474976710656) : Calls Tryz.prog 17 #[.string s] w (HoleOfPost s w) := by
  rcases Bool.eq_false_or_eq_true ((atM s).2 != 0) with k0 | k0
  · go_enter Tryz.func17, Tryz.ntmps17
    go_wp2_with (first | (go_at_call 11; refine (law_at s _ hs).mono ?_; rintro e w1 ⟨rfl, hb1⟩; have hs1 := hb1.size))
    go_ret2
    have k1 : ¬ (atM s).2 = 0 := by simpa using k0
    exact ⟨by simp [holeOfM, k1], by with_reducible (repeat (first | refine Below.setCell ?_ (by first | exact Nat.le_refl _ | (simp; done) | (simp; omega) | omega) _ | refine Below.drew ?_ | refine below_drewN ?_ _ | refine Below.alloc ?_ (by first | exact Nat.le_refl _ | (simp; done) | (simp; omega) | omega) _ | exact Below.refl _ _ | refine Below.trans ?_ (Below.mono (by assumption) (by first | exact Nat.le_refl _ | (simp; done) | (simp; omega) | omega))))⟩
  · go_enter Tryz.func17, Tryz.ntmps17
    go_wp2_with (first | (go_at_call 11; refine (law_at s _ hs).mono ?_; rintro e w1 ⟨rfl, hb1⟩; have hs1 := hb1.size) | (go_at_call 12; refine (ctx_Hole (atM s).1 _).mono ?_; rintro e w2 ⟨rfl, hb2⟩; have hs2 := hb2.size; simp only [World.size_alloc] at hs2) | (go_at_call 13; refine (law_Num _ _).mono ?_; rintro e w3 ⟨rfl, rfl⟩))
    go_ret2
    have k1 : (atM s).2 = 0 := by simpa using k0
    exact ⟨by simp [holeOfM, k1], by with_reducible (repeat (first | refine Below.setCell ?_ (by first | exact Nat.le_refl _ | (simp; done) | (simp; omega) | omega) _ | refine Below.drew ?_ | refine below_drewN ?_ _ | refine Below.alloc ?_ (by first | exact Nat.le_refl _ | (simp; done) | (simp; omega) | omega) _ | exact Below.refl _ _ | refine Below.trans ?_ (Below.mono (by assumption) (by first | exact Nat.le_refl _ | (simp; done) | (simp; omega) | omega))))⟩
set_option maxHeartbeats 1000000 in
set_option maxRecDepth 100000 in
theorem law_text (t : ByteArray) (w : World) : Calls Tryz.prog 19 #[.string t] w fun e w' => e = .returned (.agg (flat 4 0 0 t)) ∧ Below w.heap.size w w' := by
  go_enter Tryz.func19, Tryz.ntmps19
  go_wp2
  refine bodyPost_ret (v := .agg (flat 4 0 0 t)) (by simp [results, Tryz.results19, go_sem, flat]) rfl ⟨rfl, ?_⟩
  with_reducible (repeat (first | refine Below.setCell ?_ (by first | exact Nat.le_refl _ | (simp; done) | (simp; omega) | omega) _ | refine Below.drew ?_ | refine below_drewN ?_ _ | refine Below.alloc ?_ (by first | exact Nat.le_refl _ | (simp; done) | (simp; omega) | omega) _ | exact Below.refl _ _ | refine Below.trans ?_ (Below.mono (by assumption) (by first | exact Nat.le_refl _ | (simp; done) | (simp; omega) | omega))))
set_option maxHeartbeats 1000000 in
set_option maxRecDepth 100000 in
theorem law_num (i : Int) (w : World) : Calls Tryz.prog 20 #[.int .i64 i] w fun e w' => e = .returned (.agg (flat 2 i 0 ⟨#[]⟩)) ∧ Below w.heap.size w w' := by
  go_enter Tryz.func20, Tryz.ntmps20
  go_wp2
  refine bodyPost_ret (v := .agg (flat 2 i 0 ⟨#[]⟩)) (by simp [results, Tryz.results20, go_sem, flat]) rfl ⟨rfl, ?_⟩
  with_reducible (repeat (first | refine Below.setCell ?_ (by first | exact Nat.le_refl _ | (simp; done) | (simp; omega) | omega) _ | refine Below.drew ?_ | refine below_drewN ?_ _ | refine Below.alloc ?_ (by first | exact Nat.le_refl _ | (simp; done) | (simp; omega) | omega) _ | exact Below.refl _ _ | refine Below.trans ?_ (Below.mono (by assumption) (by first | exact Nat.le_refl _ | (simp; done) | (simp; omega) | omega))))
end Go.Proofs.YtokclcilpekfiaaGreatDoor
