/- Contracts of package ctx: Text, Hole. Condition: a text is no longer than 2^48. -/
import Derived.Test.YtokclcilpekfiaaGreatDoorText
import Derived.Test.YtokclcilpekfiaaGreatDoorMay
namespace Go.Proofs.YtokclcilpekfiaaGreatDoor
open Go.RowKit
set_option linter.unusedVariables false
set_option linter.unusedSimpArgs false
theorem CxBlk.new2 (w : World) (o : Obj) (c : Cx) : CxBlk ((w.alloc o).alloc (.cells (cxCells c) 31)) (w.heap.size + 1) c := by
  have h := CxBlk.new (w.alloc o) c
  have e : (w.alloc o).heap.size = w.heap.size + 1 := by simp
  rw [e] at h
  exact h
def HolePost (c : Cx) (w : World) (e : Ending) (w' : World) : Prop := e = .returned (.tuple #[.int .i64 (cHole c).1, Cx.val (cHole c).2.1, .int .i64 (cHole c).2.2]) ∧ Below w.heap.size w w'
set_option maxHeartbeats 1000000 in
set_option maxRecDepth 100000 in
theorem ctx_Hole (c : Cx) (w : World) : Calls Tryz.prog 12 #[Cx.val c] w (HolePost c w) := by
  rcases Bool.eq_false_or_eq_true (cMay c) with k0 | k0
  · rcases Bool.eq_false_or_eq_true ((cPlace c).2.2 != 0) with k1 | k1
    · have k1' : ¬ (cPlace c).2.2 = 0 := by simpa using k1
      go_enter Tryz.func12, Tryz.ntmps12
      go_wp2_with (first | (go_at_call 22; refine (ctx_may _ _ c _ ((CxBlk.new w c).below (below_alloc1 _ _)).at).mono ?_; rintro e w1 ⟨rfl, hb1⟩; have HN1 := Lib.hid (((CxBlk.new w c).below (below_alloc1 _ _)).below hb1); have HZ1 := Lib.hid ((CxBlk.new2 w _ Cx.zero).below hb1); have HW1 : Hid (Below w.heap.size w w1) := ((below_alloc1 _ _).alloc (by simp) _).trans (hb1.mono (by simp; omega)); have hs1 := hb1.size; simp only [World.size_alloc] at hs1; clear hb1; obtain ⟨⟨z0, z1, z2, z3, z4, z5⟩, z6, z7, z8, z9⟩ := HZ1.out.at; have zf := HZ1.out.free) | (go_at_call 23; refine (ctx_place _ c _ HN1.out).mono ?_; rintro e w2 ⟨rfl, hB2, ht2⟩; have HB2 := Lib.hid hB2; have HT2 := Lib.hid ht2; have HZ2 := Lib.hid (HZ1.out.tch ht2 (by omega)); clear hB2 ht2 z0 z1 z2 z3 z4 z5 z6 z7 z8 z9 zf; obtain ⟨⟨z0, z1, z2, z3, z4, z5⟩, z6, z7, z8, z9⟩ := HZ2.out.at; have zf := HZ2.out.free))
      refine bodyPost_ret (v := .tuple #[.int .i64 (cHole c).1, Cx.val (cHole c).2.1, .int .i64 (cHole c).2.2]) (by simp (maxDischargeDepth := 8) [results, Tryz.results12, go_sem, cHole, k0, k1', Cx.zero, St.zero, *]) rfl ⟨rfl, ?_⟩
      exact HW1.out.trans ((HT2.out.below (by omega) (by omega)).trans (by with_reducible (repeat (first | refine Below.setCell ?_ (by first | exact Nat.le_refl _ | (simp; done) | (simp; omega) | omega) _ | refine Below.drew ?_ | refine below_drewN ?_ _ | refine Below.alloc ?_ (by first | exact Nat.le_refl _ | (simp; done) | (simp; omega) | omega) _ | exact Below.refl _ _ | refine Below.trans ?_ (Below.mono (by assumption) (by first | exact Nat.le_refl _ | (simp; done) | (simp; omega) | omega))))))
    · have k1' : (cPlace c).2.2 = 0 := by simpa using k1
      go_enter Tryz.func12, Tryz.ntmps12
      go_wp2_with (first | (go_at_call 22; refine (ctx_may _ _ c _ ((CxBlk.new w c).below (below_alloc1 _ _)).at).mono ?_; rintro e w1 ⟨rfl, hb1⟩; have HN1 := Lib.hid (((CxBlk.new w c).below (below_alloc1 _ _)).below hb1); have HZ1 := Lib.hid ((CxBlk.new2 w _ Cx.zero).below hb1); have HW1 : Hid (Below w.heap.size w w1) := ((below_alloc1 _ _).alloc (by simp) _).trans (hb1.mono (by simp; omega)); have hs1 := hb1.size; simp only [World.size_alloc] at hs1; clear hb1; obtain ⟨⟨z0, z1, z2, z3, z4, z5⟩, z6, z7, z8, z9⟩ := HZ1.out.at; have zf := HZ1.out.free) | (go_at_call 23; refine (ctx_place _ c _ HN1.out).mono ?_; rintro e w2 ⟨rfl, hB2, ht2⟩; have HB2 := Lib.hid hB2; have HT2 := Lib.hid ht2; have HZ2 := Lib.hid (HZ1.out.tch ht2 (by omega)); clear hB2 ht2 z0 z1 z2 z3 z4 z5 z6 z7 z8 z9 zf; obtain ⟨⟨z0, z1, z2, z3, z4, z5⟩, z6, z7, z8, z9⟩ := HZ2.out.at; have zf := HZ2.out.free))
      obtain ⟨⟨y0, y1, y2, y3, y4, y5⟩, y6, y7, y8, y9⟩ := HB2.out.at
      refine wp_tail_drew 3 (by kernel_rfl) (by kernel_rfl) ?_
      simp only [List.take_succ_cons, List.take_zero, List.drop_succ_cons, List.drop_zero]
      repeat still_step
      refine wpStill_nil ?_
      go_wp2
      refine bodyPost_ret (v := .tuple #[.int .i64 (cHole c).1, Cx.val (cHole c).2.1, .int .i64 (cHole c).2.2]) (by simp (maxDischargeDepth := 8) [results, Tryz.results12, go_sem, cHole, k0, k1', Cx.zero, St.zero, *]) rfl ⟨rfl, ?_⟩
      exact HW1.out.trans ((HT2.out.below (by omega) (by omega)).trans (by with_reducible (repeat (first | refine Below.setCell ?_ (by first | exact Nat.le_refl _ | (simp; done) | (simp; omega) | omega) _ | refine Below.drew ?_ | refine below_drewN ?_ _ | refine Below.alloc ?_ (by first | exact Nat.le_refl _ | (simp; done) | (simp; omega) | omega) _ | exact Below.refl _ _ | refine Below.trans ?_ (Below.mono (by assumption) (by first | exact Nat.le_refl _ | (simp; done) | (simp; omega) | omega))))))
  · go_enter Tryz.func12, Tryz.ntmps12
    go_wp2_with (first | (go_at_call 22; refine (ctx_may _ _ c _ ((CxBlk.new w c).below (below_alloc1 _ _)).at).mono ?_; rintro e w1 ⟨rfl, hb1⟩; have HN1 := Lib.hid (((CxBlk.new w c).below (below_alloc1 _ _)).below hb1); have HZ1 := Lib.hid ((CxBlk.new2 w _ Cx.zero).below hb1); have HW1 : Hid (Below w.heap.size w w1) := ((below_alloc1 _ _).alloc (by simp) _).trans (hb1.mono (by simp; omega)); have hs1 := hb1.size; simp only [World.size_alloc] at hs1; clear hb1; obtain ⟨⟨z0, z1, z2, z3, z4, z5⟩, z6, z7, z8, z9⟩ := HZ1.out.at; have zf := HZ1.out.free))
    refine bodyPost_ret (v := .tuple #[.int .i64 (cHole c).1, Cx.val (cHole c).2.1, .int .i64 (cHole c).2.2]) (by simp (maxDischargeDepth := 8) [results, Tryz.results12, go_sem, cHole, k0,  Cx.zero, St.zero, *]) rfl ⟨rfl, ?_⟩
    exact HW1.out.trans (by with_reducible (repeat (first | refine Below.setCell ?_ (by first | exact Nat.le_refl _ | (simp; done) | (simp; omega) | omega) _ | refine Below.drew ?_ | refine below_drewN ?_ _ | refine Below.alloc ?_ (by first | exact Nat.le_refl _ | (simp; done) | (simp; omega) | omega) _ | exact Below.refl _ _ | refine Below.trans ?_ (Below.mono (by assumption) (by first | exact Nat.le_refl _ | (simp; done) | (simp; omega) | omega)))))

def TextPost (c : Cx) (s : ByteArray) (w : World) (e : Ending) (w' : World) : Prop := e = .returned (.tuple #[Cx.val (cText c s).1, .int .i64 (cText c s).2]) ∧ Below w.heap.size w w'
def TRel (c : Cx) (s : ByteArray) (w : World) (v : Value) (wr : World) : Prop :=
  ∃ (k : Nat) (d : Cx), v = .int .i64 k ∧ k ≤ s.size ∧ CxBlk wr w.heap.size d ∧ CxBlk wr (w.heap.size + 1) Cx.zero ∧ cSteps c (s.data.toList.take k) = (d, 0) ∧ (0 ≤ d.lang ∧ d.lang ≤ 9) ∧ Below w.heap.size w wr
set_option maxHeartbeats 1000000 in
set_option maxRecDepth 100000 in
theorem ctx_Text (c : Cx) (s : ByteArray) (w : World) (hs : s.size ≤ 281474976710656) : Calls Tryz.prog 18 #[Cx.val c, .string s] w (TextPost c s w) := by
  rcases Bool.eq_false_or_eq_true (cMay c) with k0 | k0
  · go_enter Tryz.func18, Tryz.ntmps18
    go_wp2_with (first | (go_at_call 22; refine (ctx_may _ _ c _ ((CxBlk.new w c).below (below_alloc1 _ _)).at).mono ?_; rintro e w1 ⟨rfl, hb1⟩; have HN1 := Lib.hid (((CxBlk.new w c).below (below_alloc1 _ _)).below hb1); have HZ1 := Lib.hid ((CxBlk.new2 w _ Cx.zero).below hb1); have HW1 : Hid (Below w.heap.size w w1) := ((below_alloc1 _ _).alloc (by simp) _).trans (hb1.mono (by simp; omega)); have hs1 := hb1.size; simp only [World.size_alloc] at hs1; clear hb1; obtain ⟨⟨z0, z1, z2, z3, z4, z5⟩, z6, z7, z8, z9⟩ := HZ1.out.at; have zf := HZ1.out.free))
    clear z0 z1 z2 z3 z4 z5 z6 z7 z8 z9 zf
    go_loopw [13] (fun v wr => TRel c s w v wr) (fun v _ => s.size - (intOf v).toNat)
    case atStart => exact ⟨0, c, rfl, Nat.zero_le _, HN1.out, HZ1.out, rfl, cMay_lang c k0, HW1.out⟩
    case round =>
      obtain ⟨k, d, rfl, hk, hD, hZ, hst, hl, hw⟩ := hrel
      have HD := Lib.hid hD
      have HZ := Lib.hid hZ
      have HST := Lib.hid hst
      have HW := Lib.hid hw
      have hsz := hZ.lt
      clear hD hZ hst hw
      obtain ⟨⟨z0, z1, z2, z3, z4, z5⟩, z6, z7, z8, z9⟩ := HZ.out.at
      have zf := HZ.out.free
      by_cases hlt : k < s.size
      · have hb0 : 0 ≤ ((s[k]).toNat : Int) := by omega
        have hb255 : ((s[k]).toNat : Int) ≤ 255 := by have := s[k].toNat_lt; omega
        rcases Bool.eq_false_or_eq_true ((cStep d ((s[k]).toNat : Int)).2 != 0) with k1 | k1
        · go_wp2_with (first | (go_at_call 40; refine (ctx_step _ d _ (by omega) (by omega) hl.1 hl.2 _ HD.out).mono ?_; rintro e w3 ⟨rfl, hB3, ht3⟩; have HB3 := Lib.hid hB3; have HT3 := Lib.hid ht3; have HZ3 := Lib.hid (HZ.out.tch ht3 (by omega)); clear hB3 ht3 z0 z1 z2 z3 z4 z5 z6 z7 z8 z9 zf; obtain ⟨⟨z0, z1, z2, z3, z4, z5⟩, z6, z7, z8, z9⟩ := HZ3.out.at; have zf := HZ3.out.free))
          have k2 : (cStep d ((s[k]).toNat : Int)).2 ≠ 0 := by simpa using k1
          have k3 := cSteps_end c d s k hlt HST.out k2
          refine bodyPost_ret (v := .tuple #[Cx.val (cText c s).1, .int .i64 (cText c s).2]) (by simp (maxDischargeDepth := 8) [results, Tryz.results18, go_sem, cText, k0, k3, Cx.zero, St.zero, *]) rfl ⟨rfl, ?_⟩
          exact (HW.out.trans (HT3.out.below (by omega) (by omega))).trans (by with_reducible (repeat (first | refine Below.setCell ?_ (by first | exact Nat.le_refl _ | (simp; done) | (simp; omega) | omega) _ | refine Below.drew ?_ | refine below_drewN ?_ _ | refine Below.alloc ?_ (by first | exact Nat.le_refl _ | (simp; done) | (simp; omega) | omega) _ | exact Below.refl _ _ | refine Below.trans ?_ (Below.mono (by assumption) (by first | exact Nat.le_refl _ | (simp; done) | (simp; omega) | omega)))))
        · have k2 : (cStep d ((s[k]).toNat : Int)).2 = 0 := by simpa using k1
          have hln := Lib.hid (cStep_lang d ((s[k]).toNat : Int) hl.1 hl.2)
          have k4 := Lib.hid k2
          clear k2
          go_wp2_with (first | (go_at_call 40; refine (ctx_step _ d _ (by omega) (by omega) hl.1 hl.2 _ HD.out).mono ?_; rintro e w3 ⟨rfl, hB3, ht3⟩; have HB3 := Lib.hid hB3; have HT3 := Lib.hid ht3; have HZ3 := Lib.hid (HZ.out.tch ht3 (by omega)); clear hB3 ht3 z0 z1 z2 z3 z4 z5 z6 z7 z8 z9 zf; obtain ⟨⟨z0, z1, z2, z3, z4, z5⟩, z6, z7, z8, z9⟩ := HZ3.out.at; have zf := HZ3.out.free))
          exact ⟨⟨k + 1, _, by simp, by omega, HB3.out, HZ3.out, cSteps_snoc c d s k hlt HST.out k4.out, hln.out, HW.out.trans (HT3.out.below (by omega) (by omega))⟩, by simp [intOf]; omega⟩
      · obtain rfl : k = s.size := by omega
        obtain ⟨⟨y0, y1, y2, y3, y4, y5⟩, y6, y7, y8, y9⟩ := HD.out.at
        go_wp2
        have k3 : cSteps c s.data.toList = (d, 0) := by
          have h := HST.out
          rw [List.take_of_length_le (by simp)] at h
          exact h
        refine bodyPost_ret (v := .tuple #[Cx.val (cText c s).1, .int .i64 (cText c s).2]) (by simp (maxDischargeDepth := 8) [results, Tryz.results18, go_sem, cText, k0, k3, Cx.zero, St.zero, *]) rfl ⟨rfl, ?_⟩
        exact HW.out.trans (by with_reducible (repeat (first | refine Below.setCell ?_ (by first | exact Nat.le_refl _ | (simp; done) | (simp; omega) | omega) _ | refine Below.drew ?_ | refine below_drewN ?_ _ | refine Below.alloc ?_ (by first | exact Nat.le_refl _ | (simp; done) | (simp; omega) | omega) _ | exact Below.refl _ _ | refine Below.trans ?_ (Below.mono (by assumption) (by first | exact Nat.le_refl _ | (simp; done) | (simp; omega) | omega)))))
  · go_enter Tryz.func18, Tryz.ntmps18
    go_wp2_with (first | (go_at_call 22; refine (ctx_may _ _ c _ ((CxBlk.new w c).below (below_alloc1 _ _)).at).mono ?_; rintro e w1 ⟨rfl, hb1⟩; have HN1 := Lib.hid (((CxBlk.new w c).below (below_alloc1 _ _)).below hb1); have HZ1 := Lib.hid ((CxBlk.new2 w _ Cx.zero).below hb1); have HW1 : Hid (Below w.heap.size w w1) := ((below_alloc1 _ _).alloc (by simp) _).trans (hb1.mono (by simp; omega)); have hs1 := hb1.size; simp only [World.size_alloc] at hs1; clear hb1; obtain ⟨⟨z0, z1, z2, z3, z4, z5⟩, z6, z7, z8, z9⟩ := HZ1.out.at; have zf := HZ1.out.free))
    refine bodyPost_ret (v := .tuple #[Cx.val (cText c s).1, .int .i64 (cText c s).2]) (by simp (maxDischargeDepth := 8) [results, Tryz.results18, go_sem, cText, k0,  Cx.zero, St.zero, *]) rfl ⟨rfl, ?_⟩
    exact HW1.out.trans (by with_reducible (repeat (first | refine Below.setCell ?_ (by first | exact Nat.le_refl _ | (simp; done) | (simp; omega) | omega) _ | refine Below.drew ?_ | refine below_drewN ?_ _ | refine Below.alloc ?_ (by first | exact Nat.le_refl _ | (simp; done) | (simp; omega) | omega) _ | exact Below.refl _ _ | refine Below.trans ?_ (Below.mono (by assumption) (by first | exact Nat.le_refl _ | (simp; done) | (simp; omega) | omega)))))
end Go.Proofs.YtokclcilpekfiaaGreatDoor
