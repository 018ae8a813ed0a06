/- The contract of awake: it is true. Condition: the library's variables lie as their text lays them. -/
import Derived.Test.YtokclcilpekfiaaGreatDoorLaw
namespace Go.Proofs.YtokclcilpekfiaaGreatDoor
open Go.RowKit
set_option linter.unusedVariables false
set_option linter.unusedSimpArgs false
theorem aw_h0 : holeOfM (⟨#[60, 112, 32, 116, 105, 116, 108, 101, 61, 39]⟩ : ByteArray) = (0, 0) := by decide +kernel
theorem aw_h1 : holeOfM (⟨#[60, 97, 32, 104, 114, 101, 102, 61, 34]⟩ : ByteArray) = (1, 0) := by decide +kernel
theorem aw_h2 : holeOfM (⟨#[60, 115, 99, 114, 105, 112, 116, 62, 120, 61]⟩ : ByteArray) = (3, 0) := by decide +kernel
theorem aw_h3 : holeOfM (⟨#[60, 112, 32]⟩ : ByteArray) = (0, 2001) := by decide +kernel
theorem aw_h4 : holeOfM (⟨#[97, 38, 98]⟩ : ByteArray) = (0, 2002) := by decide +kernel
theorem aw_h5 : holeOfM (⟨#[60, 97, 32, 104, 114, 101, 102, 61, 39, 106, 97, 118, 97]⟩ : ByteArray) = (0, 2003) := by decide +kernel
theorem aw_e : encS (jput2 (⟨#[60]⟩ : ByteArray)).1 = (⟨#[32, 38, 113, 117, 111, 116, 59, 92, 117, 48, 48, 51, 99, 38, 113, 117, 111, 116, 59, 32]⟩ : ByteArray) ∧ (jput2 (⟨#[60]⟩ : ByteArray)).2 = 0 := by decide +kernel
set_option maxHeartbeats 1000000 in
set_option maxRecDepth 100000 in
theorem law_awake (m : Int) (w : World) (hE : Env m w) : Calls Tryz.prog 10 #[] w fun e w' => e = .returned (.bool true) ∧ Below w.heap.size w w' := by
  have HE := Lib.hid hE
  clear hE
  have a0 := congrArg Prod.fst aw_h0
  have b0 := congrArg Prod.snd aw_h0
  dsimp only at a0 b0
  have a1 := congrArg Prod.fst aw_h1
  have b1 := congrArg Prod.snd aw_h1
  dsimp only at a1 b1
  have a2 := congrArg Prod.fst aw_h2
  have b2 := congrArg Prod.snd aw_h2
  dsimp only at a2 b2
  have a3 := congrArg Prod.fst aw_h3
  have b3 := congrArg Prod.snd aw_h3
  dsimp only at a3 b3
  have a4 := congrArg Prod.fst aw_h4
  have b4 := congrArg Prod.snd aw_h4
  dsimp only at a4 b4
  have a5 := congrArg Prod.fst aw_h5
  have b5 := congrArg Prod.snd aw_h5
  dsimp only at a5 b5
  obtain ⟨e1, e2⟩ := aw_e
  go_enter Tryz.func10, Tryz.ntmps10
  go_wp2_with (first | (go_at_call 17; refine (law_holeOf _ _ (by decide)).mono ?_; rintro e w1 ⟨rfl, hb1⟩; have hs1 := hb1.size) | (go_at_call 19; refine (law_text _ _).mono ?_; rintro e w2 ⟨rfl, hb2⟩; have hs2 := hb2.size) | (go_at_call 13; refine (law_Num _ _).mono ?_; rintro e w3 ⟨rfl, rfl⟩))
  (go_at_call 14; refine (ctx_EscapeT ⟨#[60]⟩ (by decide) m _ (HE.out.below (by with_reducible (repeat (first | refine Below.setCell ?_ (by first | exact Nat.le_refl _ | (simp; done) | (simp; omega) | omega) _ | refine Below.drew ?_ | refine below_drewN ?_ _ | refine Below.alloc ?_ (by first | exact Nat.le_refl _ | (simp; done) | (simp; omega) | omega) _ | exact Below.refl _ _ | refine Below.trans ?_ (Below.mono (by assumption) (by first | exact Nat.le_refl _ | (simp; done) | (simp; omega) | omega))))))).mono ?_; rintro e w4 ⟨rfl, hb4⟩; have hs4 := hb4.size)
  go_wp2_with fail
  (go_at_call 14; refine (ctx_EscapeL m _ (HE.out.below (by with_reducible (repeat (first | refine Below.setCell ?_ (by first | exact Nat.le_refl _ | (simp; done) | (simp; omega) | omega) _ | refine Below.drew ?_ | refine below_drewN ?_ _ | refine Below.alloc ?_ (by first | exact Nat.le_refl _ | (simp; done) | (simp; omega) | omega) _ | exact Below.refl _ _ | refine Below.trans ?_ (Below.mono (by assumption) (by first | exact Nat.le_refl _ | (simp; done) | (simp; omega) | omega))))))).mono ?_; rintro e w5 ⟨rfl, hb5⟩; have hs5 := hb5.size)
  go_wp2_with (first | (go_at_call 13; refine (law_Num _ _).mono ?_; rintro e w3 ⟨rfl, rfl⟩))
  go_ret
  exact ⟨by simp, by with_reducible (repeat (first | refine Below.setCell ?_ (by first | exact Nat.le_refl _ | (simp; done) | (simp; omega) | omega) _ | refine Below.drew ?_ | refine below_drewN ?_ _ | refine Below.alloc ?_ (by first | exact Nat.le_refl _ | (simp; done) | (simp; omega) | omega) _ | exact Below.refl _ _ | refine Below.trans ?_ (Below.mono (by assumption) (by first | exact Nat.le_refl _ | (simp; done) | (simp; omega) | omega))))⟩
end Go.Proofs.YtokclcilpekfiaaGreatDoor
