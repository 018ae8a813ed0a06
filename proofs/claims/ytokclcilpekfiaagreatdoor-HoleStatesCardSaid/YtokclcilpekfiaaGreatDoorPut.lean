/- Contracts at a text: json's value, Put; ctx.jsoned; value.Said. Condition: the text is no longer than 65536 bytes. -/
import Derived.Test.YtokclcilpekfiaaGreatDoorWr
import Derived.Test.YtokclcilpekfiaaGreatDoorVal2
namespace Go.Proofs.YtokclcilpekfiaaGreatDoor
open Go.RowKit
set_option linter.unusedVariables false
set_option linter.unusedSimpArgs false
set_option maxHeartbeats 1000000 in
set_option maxRecDepth 100000 in
theorem writer_valueT (B b bv : Nat) (l : List UInt8) (t : ByteArray) (m : Int) (w : World) (hE : Env m w) (h : WrAt B b l w) (hv : FlatAt w bv 0 4 0 0 t) (ht : t.size ≤ 65536) (hlen : l.length ≤ 1099511627776) (hB : B ≤ w.heap.size) :
    Calls Tryz.prog 90 #[.pointer (some ⟨b, 0, none⟩), .pointer (some ⟨bv, 0, none⟩)] w (AddPost B b (l ++ jtext t) w) := by
  have HE := Lib.hid hE
  have HW := Lib.hid h
  obtain ⟨g0, g1, g2, g3, g4, g5⟩ := hv
  clear hE h
  go_enter Tryz.func90, Tryz.ntmps90
  go_wp2_with (first | (go_at_call 147; refine (writer_text _ _ l _ m _ HE.out HW.out ht hlen hB).mono ?_; rintro e w1 ⟨rfl, hw1, hb1⟩))
  go_end0
  exact ⟨rfl, hw1, hb1⟩
theorem flat_new (w : World) (k i u : Int) (t : ByteArray) : FlatAt (w.alloc (.cells (flat k i u t) 26)) w.heap.size 0 k i u t := by
  refine ⟨?_, ?_, ?_, ?_, ?_, ?_⟩ <;> simp [go_sem, flat]
/-- A text as JSON, or the error that it is too long. -/
def jput (t : ByteArray) : ByteArray × Int := if 65536 < (jtext t).length then (⟨#[]⟩, 1001) else (⟨(jtext t).toArray⟩, 0)
def PutPost (t : ByteArray) (w : World) (e : Ending) (w' : World) : Prop := e = .returned (.tuple #[.string (jput t).1, .int .i64 (jput t).2]) ∧ Below w.heap.size w w'
set_option maxHeartbeats 1000000 in
set_option maxRecDepth 100000 in
theorem json_PutT (t : ByteArray) (m : Int) (w : World) (hE : Env m w) (ht : t.size ≤ 65536) : Calls Tryz.prog 60 #[.agg (flat 4 0 0 t)] w (PutPost t w) := by
  have HE := Lib.hid hE
  clear hE
  unfold flat
  have HF := Lib.hid (flat_new w 4 0 0 t)
  unfold flat at HF
  by_cases hbj : 65536 < (jtext t).length
  · have hb1 : tooMuch (jtext t) = true := by simp [tooMuch]; omega
    go_enter Tryz.func60, Tryz.ntmps60
    go_wp2_with (first | (go_at_call 32; refine (value_MayT t _ ht).mono ?_; rintro e w1 ⟨rfl, hb1⟩; have HB1 := Lib.hid hb1; have hs1 := hb1.size; clear hb1))
    have HE1 : Hid (Env m (w1.alloc (.cells #[.slice none 0 0] 118))) := HE.out.below (((below_alloc1 _ _).trans (HB1.out.mono (by simp))).alloc (by simp at hs1; omega) _)
    have HF1 : Hid (FlatAt (w1.alloc (.cells #[.slice none 0 0] 118)) w.heap.size 0 4 0 0 t) := (HF.out.below HB1.out).below (below_alloc1 _ _)
    refine (writer_valueT _ _ _ [] t m _ HE1.out (WrAt.fresh w1) HF1.out ht (by simp) (by simp)).mono ?_
    rintro e w2 ⟨rfl, hw2, hb2⟩
    rw [List.nil_append] at hw2
    have HW2 := Lib.hid hw2
    have HB2 := Lib.hid hb2
    obtain ⟨-, v2, hv2, hown2, -⟩ := hw2
    obtain ⟨p2, c2, rfl⟩ := own_slice hown2
    have d0 := cell_of_one hv2
    have hcv := conv_own hown2
    clear hv2 hown2 hb2
    go_wp2_with (first | (go_at_call 91; refine (writer_full _ _ _ _ HW2.out).mono ?_; rintro e w3 ⟨rfl, rfl⟩))
    go_ret2
    refine ⟨?_, ((below_alloc1 _ _).trans (HB1.out.mono (by simp))).trans (((below_alloc1 _ _).trans (HB2.out.mono (by simp))).mono (by simp at hs1; omega))⟩
    simp [jput, hbj]
  · have hb1 : tooMuch (jtext t) = false := by simp [tooMuch]; omega
    go_enter Tryz.func60, Tryz.ntmps60
    go_wp2_with (first | (go_at_call 32; refine (value_MayT t _ ht).mono ?_; rintro e w1 ⟨rfl, hb1⟩; have HB1 := Lib.hid hb1; have hs1 := hb1.size; clear hb1))
    have HE1 : Hid (Env m (w1.alloc (.cells #[.slice none 0 0] 118))) := HE.out.below (((below_alloc1 _ _).trans (HB1.out.mono (by simp))).alloc (by simp at hs1; omega) _)
    have HF1 : Hid (FlatAt (w1.alloc (.cells #[.slice none 0 0] 118)) w.heap.size 0 4 0 0 t) := (HF.out.below HB1.out).below (below_alloc1 _ _)
    refine (writer_valueT _ _ _ [] t m _ HE1.out (WrAt.fresh w1) HF1.out ht (by simp) (by simp)).mono ?_
    rintro e w2 ⟨rfl, hw2, hb2⟩
    rw [List.nil_append] at hw2
    have HW2 := Lib.hid hw2
    have HB2 := Lib.hid hb2
    obtain ⟨-, v2, hv2, hown2, -⟩ := hw2
    obtain ⟨p2, c2, rfl⟩ := own_slice hown2
    have d0 := cell_of_one hv2
    have hcv := conv_own hown2
    clear hv2 hown2 hb2
    go_wp2_with (first | (go_at_call 91; refine (writer_full _ _ _ _ HW2.out).mono ?_; rintro e w3 ⟨rfl, rfl⟩))
    go_ret2
    refine ⟨?_, ((below_alloc1 _ _).trans (HB1.out.mono (by simp))).trans (((below_alloc1 _ _).trans (HB2.out.mono (by simp))).mono (by simp at hs1; omega))⟩
    simp [jput, hbj]
end Go.Proofs.YtokclcilpekfiaaGreatDoor
