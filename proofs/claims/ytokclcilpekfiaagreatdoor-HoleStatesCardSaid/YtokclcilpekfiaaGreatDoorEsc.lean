/- Contracts of package ctx around Escape at the values that 'awake' asks: jsoned, the closures of said and within, said, within. Condition: the text is no longer than 65536 bytes. -/
import Derived.Test.YtokclcilpekfiaaGreatDoorPut
import Derived.Laws.EntriesVeiled
namespace Go.Proofs.YtokclcilpekfiaaGreatDoor
open Go.RowKit
set_option linter.unusedVariables false
set_option linter.unusedSimpArgs false
/-- A text as JSON with blanks around it. -/
def jput2 (t : ByteArray) : ByteArray × Int := if 65536 < (jtext t).length then (⟨#[]⟩, 1001) else (((⟨#[32]⟩ : ByteArray) ++ (jput t).1) ++ ⟨#[32]⟩, 0)
def Put2Post (t : ByteArray) (w : World) (e : Ending) (w' : World) : Prop := e = .returned (.tuple #[.string (jput2 t).1, .int .i64 (jput2 t).2]) ∧ Below w.heap.size w w'
theorem jput_size (t : ByteArray) (ht : t.size ≤ 65536) : (jput t).1.size ≤ 100000000 := by
  unfold jput
  split
  · show (0 : Nat) ≤ _; omega
  · show (jtext t).toArray.size ≤ _
    rw [List.size_toArray]
    omega
set_option maxHeartbeats 1000000 in
set_option maxRecDepth 100000 in
theorem ctx_jsonedT (b : Nat) (t : ByteArray) (m : Int) (w : World) (hE : Env m w) (h : FlatAt w b 0 4 0 0 t) (ht : t.size ≤ 65536) : Calls Tryz.prog 29 #[.pointer (some ⟨b, 0, none⟩)] w (Put2Post t w) := by
  have HE := Lib.hid hE
  obtain ⟨g0, g1, g2, g3, g4, g5⟩ := h
  clear hE
  have hz := jput_size t ht
  have z1 : ¬ 9223372036854775807 < 1 + (jput t).1.size := by omega
  have z2 : ¬ 9223372036854775807 < 1 + (jput t).1.size + 1 := by omega
  by_cases hbj : 65536 < (jtext t).length
  · skip
    have hj : (jput t).2 = 1001 := by unfold jput; rw [if_pos hbj]
    have hj0 : ((jput t).2 != 0) = true := by rw [hj]; rfl
    clear hj
    go_enter Tryz.func29, Tryz.ntmps29
    go_wp2_with (first | (go_at_call 60; refine (json_PutT t m _ HE.out ht).mono ?_; rintro e w1 ⟨rfl, hb1⟩))
    go_ret2
    exact ⟨by simp [jput2, jput, hbj], hb1⟩
  · skip
    have hj : (jput t).2 = 0 := by unfold jput; rw [if_neg hbj]
    have hj0 : ((jput t).2 != 0) = false := by rw [hj]; rfl
    clear hj
    go_enter Tryz.func29, Tryz.ntmps29
    go_wp2_with (first | (go_at_call 60; refine (json_PutT t m _ HE.out ht).mono ?_; rintro e w1 ⟨rfl, hb1⟩))
    go_ret2
    exact ⟨by simp [jput2, jput, hbj], hb1⟩
set_option maxHeartbeats 1000000 in
set_option maxRecDepth 100000 in
theorem value_SaidL (b : Nat) (w : World) (h : FlatAt w b 0 5 0 0 ⟨#[]⟩) : Calls Tryz.prog 49 #[.pointer (some ⟨b, 0, none⟩)] w fun e w' => e = .returned (.tuple #[.string ⟨#[]⟩, .int .i64 402]) ∧ w = w' := by
  obtain ⟨g0, g1, g2, g3, g4, g5⟩ := h
  go_enter Tryz.func49, Tryz.ntmps49
  go_wp2
  go_ret2
  exact ⟨rfl, rfl⟩
set_option maxHeartbeats 1000000 in
set_option maxRecDepth 100000 in
theorem ctx_said1L (b c : Nat) (w : World) (h : FlatAt w b 0 5 0 0 ⟨#[]⟩) : Calls Tryz.prog 48 #[.pointer (some ⟨b, 0, none⟩), .pointer (some ⟨c, 0, none⟩)] w fun e w' => e = .returned (.tuple #[.string ⟨#[]⟩, .int .i64 402]) ∧ w = w' := by
  have H := Lib.hid h
  clear h
  go_enter Tryz.func48, Tryz.ntmps48
  go_wp2_with (first | (go_at_call 49; refine (value_SaidL _ _ H.out).mono ?_; rintro e w1 ⟨rfl, rfl⟩))
  go_ret2
  exact ⟨rfl, rfl⟩
def EncPut (t : ByteArray) (w : World) (e : Ending) (w' : World) : Prop := e = .returned (.tuple #[.string (encS (jput2 t).1), .int .i64 (jput2 t).2]) ∧ Below w.heap.size w w'
theorem jput2_size (t : ByteArray) (ht : t.size ≤ 65536) : (jput2 t).1.size ≤ 100000002 := by
  unfold jput2
  split
  · show (0 : Nat) ≤ _; omega
  · rw [q_size]
    have := jput_size t ht
    omega
set_option maxHeartbeats 1000000 in
set_option maxRecDepth 100000 in
theorem ctx_within1T (b c : Nat) (t : ByteArray) (m : Int) (w : World) (hE : Env m w) (h : FlatAt w b 0 4 0 0 t) (ht : t.size ≤ 65536) (hc : w.cell? ⟨c, 0, none⟩ = some (.func (.func 29) #[] #[])) : Calls Tryz.prog 55 #[.pointer (some ⟨b, 0, none⟩), .pointer (some ⟨c, 0, none⟩)] w (EncPut t w) := by
  have HE := Lib.hid hE
  have H := Lib.hid h
  clear hE h
  have hz := jput2_size t ht
  go_enter Tryz.func55, Tryz.ntmps55
  go_wp2_with (first | (go_at_call 29; refine (ctx_jsonedT _ t m _ HE.out H.out ht).mono ?_; rintro e w1 ⟨rfl, hb1⟩; have HB1 := Lib.hid hb1; clear hb1) | (go_at_call 25; refine (refs_Encode _ m _ (HE.out.below HB1.out) (by omega)).mono ?_; rintro e w2 ⟨rfl, hb2⟩))
  go_ret2
  exact ⟨rfl, HB1.out.trans (hb2.mono HB1.out.size)⟩
set_option maxHeartbeats 1000000 in
set_option maxRecDepth 100000 in
theorem ctx_said (f : Fn) (fs cs : Array Value) (w : World) : Calls Tryz.prog 24 #[.func f fs cs] w fun e w' => e = .returned (.func (.func 48) #[] #[.pointer (some ⟨w.heap.size, 0, none⟩)]) ∧ w' = w.alloc (.cells #[.func f fs cs] 65) := by
  have hmf : ∀ (fn : Fn) (first cap : Array Value) (w : World), (Instr.makeFunc fn first cap).run Tryz.prog w = .ok (.func fn first cap) w := fun _ _ _ _ => rfl
  go_enter Tryz.func24, Tryz.ntmps24
  go_wp2
  go_ret
  exact ⟨rfl, rfl⟩
set_option maxHeartbeats 1000000 in
set_option maxRecDepth 100000 in
theorem ctx_within (f : Fn) (fs cs : Array Value) (w : World) : Calls Tryz.prog 26 #[.func f fs cs] w fun e w' => e = .returned (.func (.func 55) #[] #[.pointer (some ⟨w.heap.size, 0, none⟩)]) ∧ w' = w.alloc (.cells #[.func f fs cs] 63) := by
  have hmf : ∀ (fn : Fn) (first cap : Array Value) (w : World), (Instr.makeFunc fn first cap).run Tryz.prog w = .ok (.func fn first cap) w := fun _ _ _ _ => rfl
  go_enter Tryz.func26, Tryz.ntmps26
  go_wp2
  go_ret
  exact ⟨rfl, rfl⟩
end Go.Proofs.YtokclcilpekfiaaGreatDoor
