/- The contract of ctx.step. Conditions: the pointer holds a context that fills its block, its Lang is a place; the byte is one. -/
import Derived.Test.YtokclcilpekfiaaGreatDoorPlace
import Derived.Test.YtokclcilpekfiaaGreatDoorTok9
import Derived.Deep.DeepCutAuto
namespace Go.Proofs.YtokclcilpekfiaaGreatDoor
open Go.RowKit
set_option linter.unusedVariables false
set_option linter.unusedSimpArgs false
def refOf (c : Cx) (x : Int) : Bool := cReferred (tStep c.st x) && (x == 38 || (c.ref && cWord x))
def AfterRef (b : Nat) (c : Cx) (x : Int) (w : World) (e : Ending) (w' : World) : Prop := e = .returned (.int .i64 (cStep c x).2) ∧ CxBlk w' b (cStep c x).1 ∧ Tch b w w'
set_option maxHeartbeats 1000000 in
set_option maxRecDepth 100000 in
theorem ctx_step (b : Nat) (c : Cx) (x : Int) (h0 : 0 ≤ x) (h1 : x ≤ 255) (hl : 0 ≤ c.lang) (hl' : c.lang ≤ 9) (w : World) (h : CxBlk w b c) : Calls Tryz.prog 40 #[.pointer (some ⟨b, 0, none⟩), .int .u8 x] w (AfterRef b c x w) := by
  have hlt : b < w.heap.size := h.lt
  have hA := h.at
  obtain ⟨⟨g0, g1, g2, g3, g4, g5⟩, g6, g7, g8, g9⟩ := hA
  have H := Lib.hid h.at
  have hfr := h.free
  go_enter Tryz.func40, Tryz.ntmps40
  go_wp2_with fail
  (go_at_call 75; refine (ctx_zone _ _ c.st _ H.out.1).mono ?_; rintro e w1 ⟨rfl, rfl⟩)
  go_wp2_with fail
  (go_at_call 76; refine (tok_Step c.st x (by omega) (by omega) _).mono ?_; rintro e w1 ⟨rfl, hb1⟩; have hc1 := bcell hb1)
  go_wp2_with fail
  have hS := (h.below hb1).setSt (tStep c.st x)
  have hT := (Tch.of_below (b := b) hb1 (Nat.le_refl _)).setSt (tStep c.st x)
  show Calls _ _ _ (setSt w1 b (tStep c.st x)) _
  generalize setSt w1 b (tStep c.st x) = w2 at hS hT ⊢
  have HT := Lib.hid hT
  obtain ⟨st, hst⟩ : ∃ st, st = tStep c.st x := ⟨_, rfl⟩
  have HST := Lib.hid hst
  have HS : Hid (CxBlk w2 b ⟨st, c.ref, c.kind, c.url, c.lang⟩) := by rw [hst]; exact hS
  have H2 : Hid (CxAt w2 b 0 ⟨st, c.ref, c.kind, c.url, c.lang⟩) := by rw [hst]; exact hS.at
  have hlt2 := hS.lt
  have hfr2 := hS.free
  clear hS hT hst hb1 hc1 w1 g0 g1 g2 g3 g4 g5 g6 g7 g8 g9 hfr
  obtain ⟨⟨g0, -⟩, g6, g7, g8, g9⟩ := H2.out
  (go_at_call 75; refine (ctx_zone _ _ st _ H2.out.1).mono ?_; rintro e w1 ⟨rfl, rfl⟩)
  go_upto_region 4 with fail
  go_cut [7] (fun s7 wx => s7 = .bool (cWord x) ∧ wx = w2)
  case first =>
    rcases chain2 (letter x) (digit x) with k0 | ⟨k0, k1⟩ | ⟨k0, k1⟩ <;>
    (go_wp2_with (first | (go_at_call 62; refine (utf_Letter _ _ (by omega) (by omega)).mono ?_; rintro e w3 ⟨rfl, rfl⟩) | (go_at_call 63; refine (utf_Digit _ _ (by omega) (by omega)).mono ?_; rintro e w3 ⟨rfl, rfl⟩))
     go_meet
     exact ⟨by simp [cWord, *], rfl⟩)
  case rest =>
    obtain ⟨rfl, rfl⟩ := hcut
    go_upto_region 5 with fail
    go_cut [] (fun wx => CxBlk wx b ⟨st, cReferred st && (x == 38 || (c.ref && cWord x)), c.kind, c.url, c.lang⟩ ∧ Tch b w wx)
    case first =>
      rcases Bool.eq_false_or_eq_true (cReferred st) with k0 | k0 <;> rcases Bool.eq_false_or_eq_true (x == 38) with k1 | k1 <;> rcases Bool.eq_false_or_eq_true c.ref with k2 | k2 <;>
      (go_wp2_with (first | (go_at_call 43; refine (ctx_referred _ _ st _ H2.out.1).mono ?_; rintro e w3 ⟨rfl, rfl⟩))
       go_meet
       exact ⟨by simpa [*] using HS.out.setRef _, HT.out.setCell _ _ _⟩)
    case rest =>
      obtain ⟨rf, hrf⟩ : ∃ rf, rf = (cReferred st && (x == 38 || (c.ref && cWord x))) := ⟨_, rfl⟩
      rw [← hrf] at hcut
      have HRF := Lib.hid hrf
      clear hrf
      obtain ⟨hB3, hT3⟩ := hcut
      have HB3 := Lib.hid hB3
      have HT3 := Lib.hid hT3
      have hA3 := hB3.at
      have H3 := Lib.hid hA3
      have hfr3 := hB3.free
      have hlt3 := hB3.lt
      clear hB3 hT3 hA3 g0 g6 g7 g8 g9 hfr2
      obtain ⟨⟨g0, -⟩, g6, g7, g8, g9⟩ := H3.out
      rcases chain2 (cZone st == 0) (cZone st != cZone c.st) with z0 | ⟨z0, z1⟩ | ⟨z0, z1⟩
      iterate 2
       · go_wp2_with (first | (go_at_call 42; refine (ctx_kind _ _ st _ H3.out.1).mono ?_; rintro e w3 ⟨rfl, rfl⟩))
         go_ret
         obtain rfl := HST.out
         obtain rfl := HRF.out
         exact ⟨by simp [cStep, *], by simpa [cStep, *] using ((HB3.out.setKind _).setUrl 0).setLang 0, ((HT3.out.setCell _ _ _).setCell _ _ _).setCell _ _ _⟩
      · rcases chain3 (c.kind == 1) (c.kind == 2) (c.kind == 3) with q1 | ⟨q1, q2⟩ | ⟨q1, q2, q3⟩ | ⟨q1, q2, q3⟩
        · rcases Bool.eq_false_or_eq_true (cAddress c.url x).2 with k0 | k0 <;>
          (go_wp2_with (first | (go_at_call 77; refine (ctx_address _ _ _).mono ?_; rintro e w3 ⟨rfl, rfl⟩))
           go_ret
           obtain rfl := HST.out
           obtain rfl := HRF.out
           exact ⟨by simp [cStep, *], by first | simpa [cStep, *] using HB3.out | simpa [cStep, *] using HB3.out.setUrl _, by first | exact HT3.out | exact HT3.out.setCell _ _ _⟩)
        · rcases chain2 (cZone st != 1) (x != 38) with n0 | ⟨n0, n1⟩ | ⟨n0, n1⟩ <;> simp only [bne, Bool.not_eq_true', Bool.not_eq_false'] at n0 <;> (try simp only [bne, Bool.not_eq_true', Bool.not_eq_false'] at n1)
          all_goals
            go_wp2_with fail
            refine wp_tail_drew 10 (by kernel_rfl) (by kernel_rfl) ?_
            simp only [List.take_succ_cons, List.take_zero, List.drop_succ_cons, List.drop_zero]
            repeat still_step
            refine wpStill_nil ?_
            go_wp2_with (first | (go_at_call 78; refine (lang_next _ _ c.lang true x (by omega) (by omega) hl hl' _ (by refine ⟨?_, ?_⟩ <;> (simp [go_sem]; done))).mono ?_; rintro e w3 ⟨rfl, hb3⟩; have hb4 : Below wc.heap.size wc w3 := ((Below.refl _ _).drew.alloc (by simp) _).trans (hb3.mono (by simp)); have HB4 := Lib.hid (HB3.out.below hb4); have kf := HB4.out.free; obtain ⟨-, -, -, -, k9⟩ := HB4.out.at))
            go_ret
            have HT4 := HT3.out.trans (Tch.of_below hb4 (Nat.le_refl _))
            obtain rfl := HST.out
            obtain rfl := HRF.out
            exact ⟨by simp [cStep, *], by first | simpa [cStep, *] using HB4.out.setLang _ | simpa [cStep, *] using (HB4.out.setLang _).setLang _, by first | exact HT4.setCell _ _ _ | exact (HT4.setCell _ _ _).setCell _ _ _⟩
        · rcases chain2 (cZone st != 1) (x != 38) with n0 | ⟨n0, n1⟩ | ⟨n0, n1⟩ <;> simp only [bne, Bool.not_eq_true', Bool.not_eq_false'] at n0 <;> (try simp only [bne, Bool.not_eq_true', Bool.not_eq_false'] at n1)
          all_goals
            go_wp2_with fail
            refine wp_tail_drew 10 (by kernel_rfl) (by kernel_rfl) ?_
            simp only [List.take_succ_cons, List.take_zero, List.drop_succ_cons, List.drop_zero]
            repeat still_step
            refine wpStill_nil ?_
            go_wp2_with (first | (go_at_call 78; refine (lang_next _ _ c.lang false x (by omega) (by omega) hl hl' _ (by refine ⟨?_, ?_⟩ <;> (simp [go_sem]; done))).mono ?_; rintro e w3 ⟨rfl, hb3⟩; have hb4 : Below wc.heap.size wc w3 := ((Below.refl _ _).drew.alloc (by simp) _).trans (hb3.mono (by simp)); have HB4 := Lib.hid (HB3.out.below hb4); have kf := HB4.out.free; obtain ⟨-, -, -, -, k9⟩ := HB4.out.at))
            go_ret
            have HT4 := HT3.out.trans (Tch.of_below hb4 (Nat.le_refl _))
            obtain rfl := HST.out
            obtain rfl := HRF.out
            exact ⟨by simp [cStep, *], by first | simpa [cStep, *] using HB4.out.setLang _ | simpa [cStep, *] using (HB4.out.setLang _).setLang _, by first | exact HT4.setCell _ _ _ | exact (HT4.setCell _ _ _).setCell _ _ _⟩
        · go_wp2_with fail
          go_ret
          obtain rfl := HST.out
          obtain rfl := HRF.out
          exact ⟨by simp [cStep, *], by simpa [cStep, *] using HB3.out, HT3.out⟩
end Go.Proofs.YtokclcilpekfiaaGreatDoor
