/- Contracts of package ctx: inUrl, place. Condition: the pointer holds a context that fills its block. -/
import Derived.Test.YtokclcilpekfiaaGreatDoorAddr
import Derived.Test.YtokclcilpekfiaaGreatDoorBlk
import Derived.Test.YtokclcilpekfiaaGreatDoorCtx1
namespace Go.Proofs.YtokclcilpekfiaaGreatDoor
open Go.RowKit
set_option linter.unusedVariables false
set_option linter.unusedSimpArgs false
/-- The call returns v; the block holds c; nothing else has turned. -/
def PostCx (b : Nat) (w : World) (v : Value) (c : Cx) (e : Ending) (w' : World) : Prop := e = .returned v ∧ CxBlk w' b c ∧ Tch b w w'
set_option maxHeartbeats 1000000 in
set_option maxRecDepth 100000 in
theorem ctx_inUrl (b : Nat) (c : Cx)   (w : World) (h : CxBlk w b c) : Calls Tryz.prog 47 #[.pointer (some ⟨b, 0, none⟩)] w (PostCx b w (.tuple #[.int .i64 (cInUrl c).1, .int .i64 (cInUrl c).2.2]) ((cInUrl c).2.1)) := by
  have hA := h.at
  obtain ⟨⟨g0, -⟩, g6, g7, g8, g9⟩ := hA
  have H := Lib.hid h.at
  have hfr := h.free
  rcases chain2 (c.url == 1) (c.url == 0) with k0 | ⟨k0, k1⟩ | ⟨k0, k1⟩
  · go_enter Tryz.func47, Tryz.ntmps47
    go_wp2
    go_ret2
    exact ⟨by simp [cInUrl, *], by simpa [cInUrl, k0] using h, Tch.refl _ _⟩
  · go_enter Tryz.func47, Tryz.ntmps47
    go_wp2
    go_ret2
    exact ⟨by simp [cInUrl, *], by simpa [cInUrl, k0, k1] using h.setUrl 2, (Tch.refl _ _).setCell _ _ _⟩
  · go_enter Tryz.func47, Tryz.ntmps47
    go_wp2
    go_ret2
    exact ⟨by simp [cInUrl, *], by simpa [cInUrl, k0, k1] using h, Tch.refl _ _⟩

set_option maxHeartbeats 1000000 in
set_option maxRecDepth 100000 in
theorem ctx_place (b : Nat) (c : Cx)   (w : World) (h : CxBlk w b c) : Calls Tryz.prog 23 #[.pointer (some ⟨b, 0, none⟩)] w (PostCx b w (.tuple #[.int .i64 (cPlace c).1, .int .i64 (cPlace c).2.2]) ((cPlace c).2.1)) := by
  have hA := h.at
  obtain ⟨⟨g0, -⟩, g6, g7, g8, g9⟩ := hA
  have H := Lib.hid h.at
  have hfr := h.free

  rcases chain3 (c.st.at_ == 0) (c.st.at_ == 19) (cQuoted c.st) with k0 | ⟨k0, k1⟩ | ⟨k0, k1, k2⟩ | ⟨k0, k1, k2⟩ <;> rcases chain4 (cCoded c.st) c.ref (c.kind == 1) (c.kind == 0) with k3 | ⟨k3, k4⟩ | ⟨k3, k4, k5⟩ | ⟨k3, k4, k5, k6⟩ | ⟨k3, k4, k5, k6⟩ <;>
  (go_enter Tryz.func23, Tryz.ntmps23
   go_wp2_with (first | (go_at_call 44; refine (ctx_quoted _ _ c.st _ H.out.1).mono ?_; rintro e w1 ⟨rfl, rfl⟩) | (go_at_call 45; refine (ctx_coded _ _ c.st _ H.out.1).mono ?_; rintro e w1 ⟨rfl, rfl⟩) | (go_at_call 46; refine (ctx_inLang _ _ c _ _ _ _ H.out).mono ?_; rintro e w1 ⟨rfl, rfl⟩) | (go_at_call 47; refine (ctx_inUrl _ c _ h).mono ?_; rintro e w1 ⟨rfl, hB1, ht1⟩))
   go_ret2
   exact ⟨by simp [cPlace, *], by first | (simp [cPlace, *]; done) | simpa [cPlace, *] using h | simpa [cPlace, *] using hB1, by first | exact Tch.refl _ _ | exact ht1⟩)
end Go.Proofs.YtokclcilpekfiaaGreatDoor
