/- Contracts of ctx.Escape at a text as JSON in an attribute, and at a list as text. Condition: the text is no longer than 65536 bytes. -/
import Derived.Test.YtokclcilpekfiaaGreatDoorEsc
import Derived.Deep.WholeRow
import Derived.Laws.Tables
namespace Go.Proofs.YtokclcilpekfiaaGreatDoor
open Go.RowKit
set_option linter.unusedVariables false
set_option linter.unusedSimpArgs false
set_option maxHeartbeats 1000000 in
set_option maxRecDepth 100000 in
theorem ctx_EscapeL  (m : Int) (w : World) (hE : Env m w) : Calls Tryz.prog 14 #[.int .i64 0, .agg (flat 5 0 0 ⟨#[]⟩)] w (fun e w' => e = .returned (.tuple #[.string ⟨#[]⟩, .int .i64 402]) ∧ Below w.heap.size w w') := by
  have HE := Lib.hid hE
  clear hE
  unfold flat
  go_enter Tryz.func14, Tryz.ntmps14
  go_wp2_with (first | (go_at_call 24; refine (ctx_said _ _ _ _).mono ?_; rintro e w1 ⟨rfl, rfl⟩) | (go_at_call 26; refine (ctx_within _ _ _ _).mono ?_; rintro e w1 ⟨rfl, rfl⟩))
  refine (value_MayL _).mono ?_
  rintro e w2 ⟨rfl, hb2⟩
  have hf := FlatAt.below (w' := w2) (k := 5) (i := 0) (u := 0) (t := ⟨#[]⟩) (b := w.heap.size) (off := 0) (by refine ⟨?_, ?_, ?_, ?_, ?_, ?_⟩ <;> (simp [go_sem]; done)) hb2
  have HF := Lib.hid hf
  have hc2 := bcell hb2
  have hbw : Below w.heap.size w w2 := by with_reducible (repeat (first | refine Below.setCell ?_ (by first | exact Nat.le_refl _ | (simp; done) | (simp; omega) | omega) _ | refine Below.drew ?_ | refine below_drewN ?_ _ | refine Below.alloc ?_ (by first | exact Nat.le_refl _ | (simp; done) | (simp; omega) | omega) _ | exact Below.refl _ _ | refine Below.trans ?_ (Below.mono (by assumption) (by first | exact Nat.le_refl _ | (simp; done) | (simp; omega) | omega))))
  have HBW := Lib.hid hbw
  have HB2 := Lib.hid hb2
  clear hbw
  clear hf hb2
  go_wp2_with (first | (go_at_call 48; refine (ctx_said1L _ _ _ HF.out).mono ?_; rintro e w3 ⟨rfl, rfl⟩))
  go_ret2
  exact ⟨rfl, HBW.out⟩

set_option maxHeartbeats 1000000 in
set_option maxRecDepth 100000 in
theorem ctx_EscapeT (t : ByteArray) (ht : t.size ≤ 65536) (m : Int) (w : World) (hE : Env m w) : Calls Tryz.prog 14 #[.int .i64 6, .agg (flat 4 0 0 t)] w (EncPut t w) := by
  have HE := Lib.hid hE
  clear hE
  unfold flat
  go_enter Tryz.func14, Tryz.ntmps14
  go_wp2_with (first | (go_at_call 24; refine (ctx_said _ _ _ _).mono ?_; rintro e w1 ⟨rfl, rfl⟩) | (go_at_call 26; refine (ctx_within _ _ _ _).mono ?_; rintro e w1 ⟨rfl, rfl⟩))
  refine (value_MayT t _ ht).mono ?_
  rintro e w2 ⟨rfl, hb2⟩
  have hf := FlatAt.below (w' := w2) (k := 4) (i := 0) (u := 0) (t := t) (b := w.heap.size) (off := 0) (by refine ⟨?_, ?_, ?_, ?_, ?_, ?_⟩ <;> (simp [go_sem]; done)) hb2
  have HF := Lib.hid hf
  have hc2 := bcell hb2
  have hbw : Below w.heap.size w w2 := by with_reducible (repeat (first | refine Below.setCell ?_ (by first | exact Nat.le_refl _ | (simp; done) | (simp; omega) | omega) _ | refine Below.drew ?_ | refine below_drewN ?_ _ | refine Below.alloc ?_ (by first | exact Nat.le_refl _ | (simp; done) | (simp; omega) | omega) _ | exact Below.refl _ _ | refine Below.trans ?_ (Below.mono (by assumption) (by first | exact Nat.le_refl _ | (simp; done) | (simp; omega) | omega))))
  have HBW := Lib.hid hbw
  have HB2 := Lib.hid hb2
  clear hbw
  clear hf hb2
  go_wp2_with (first | (go_at_call 55; refine (ctx_within1T _ _ t m _ (HE.out.below HBW.out) HF.out ht ((HB2.out.cell (p := ⟨_, 0, none⟩) (by simp)).trans (by simp [go_sem]; done))).mono ?_; rintro e w3 ⟨rfl, hb3⟩))
  go_ret2
  exact ⟨rfl, HBW.out.trans (hb3.mono HBW.out.size)⟩
end Go.Proofs.YtokclcilpekfiaaGreatDoor
