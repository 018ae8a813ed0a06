/- The contract of jstr.bits. No condition. -/
import Derived.Test.YtokclcilpekfiaaGreatDoorBlk
import Derived.LoopTactic
import Derived.Deep.WholeRow
namespace Go.Proofs.YtokclcilpekfiaaGreatDoor
open Go.RowKit
set_option linter.unusedVariables false
set_option linter.unusedSimpArgs false
def jsSigns : List Nat := [32, 33, 35, 36, 37, 40, 41, 42, 43, 44, 45, 46, 47, 58, 59, 61, 63, 64, 91, 93, 94, 95, 123, 124, 125, 126]
def bitsOf (l : List Nat) : Nat × Nat := l.foldl (fun p c => if c < 64 then (p.1 ||| (1 <<< c), p.2) else (p.1, p.2 ||| (1 <<< (c - 64)))) (0, 0)
def loAt (k : Nat) : Int := ((bitsOf (jsSigns.take k)).1 : Nat)
def hiAt (k : Nat) : Int := ((bitsOf (jsSigns.take k)).2 : Nat)
def BitsRel (w : World) (v : Value) (wr : World) : Prop :=
  ∃ k : Nat, v = .int .i64 k ∧ k ≤ 26 ∧ wr.heap[w.heap.size]? = some (.cells #[.int .u64 0, .int .u64 0] 93 (0, 0)) ∧ wr.heap[w.heap.size + 1]? = some (.cells #[.int .u64 (loAt k), .int .u64 (hiAt k)] 93 (0, 0)) ∧ Below w.heap.size w wr
def BitsPost (w : World) (e : Ending) (w' : World) : Prop := e = .returned (.agg #[.int .u64 (loAt 26), .int .u64 (hiAt 26)]) ∧ Below w.heap.size w w'
theorem two_at {w : World} {b : Nat} {x y : Value} {t : TypeId} (h : w.heap[b]? = some (.cells #[x, y] t (0, 0))) : w.cell? ⟨b, 0, none⟩ = some x ∧ w.cell? ⟨b, 1, none⟩ = some y ∧ (∀ o, w.frozen? ⟨b, o, none⟩ = false) ∧ b < w.heap.size :=
  ⟨by simp [World.cell?, h], by simp [World.cell?, h], fun o => by simp [World.frozen?, h], lt_of_block h⟩
theorem six26 (k : Nat) (h : k < 26) : k = 0 ∨ k = 1 ∨ k = 2 ∨ k = 3 ∨ k = 4 ∨ k = 5 ∨ k = 6 ∨ k = 7 ∨ k = 8 ∨ k = 9 ∨ k = 10 ∨ k = 11 ∨ k = 12 ∨ k = 13 ∨ k = 14 ∨ k = 15 ∨ k = 16 ∨ k = 17 ∨ k = 18 ∨ k = 19 ∨ k = 20 ∨ k = 21 ∨ k = 22 ∨ k = 23 ∨ k = 24 ∨ k = 25 := by omega
theorem bits_lo {w wr : World} {k : Nat} {v : Int} (hv : v = loAt (k + 1)) (hh : hiAt (k + 1) = hiAt k) (h : wr.heap[w.heap.size + 1]? = some (.cells #[.int .u64 (loAt k), .int .u64 (hiAt k)] 93 (0, 0))) :
    (wr.setCell ⟨w.heap.size + 1, 0, none⟩ (.int .u64 v)).heap[w.heap.size + 1]? = some (.cells #[.int .u64 (loAt (k + 1)), .int .u64 (hiAt (k + 1))] 93 (0, 0)) := by
  rw [hh, ← hv]; exact blk_setCell h _ _
theorem bits_hi {w wr : World} {k : Nat} {v : Int} (hv : v = hiAt (k + 1)) (hh : loAt (k + 1) = loAt k) (h : wr.heap[w.heap.size + 1]? = some (.cells #[.int .u64 (loAt k), .int .u64 (hiAt k)] 93 (0, 0))) :
    (wr.setCell ⟨w.heap.size + 1, 1, none⟩ (.int .u64 v)).heap[w.heap.size + 1]? = some (.cells #[.int .u64 (loAt (k + 1)), .int .u64 (hiAt (k + 1))] 93 (0, 0)) := by
  rw [hh, ← hv]; exact blk_setCell h _ _
theorem bits_rel {w wr : World} {k : Nat} {o : Nat} {u : Value} (hk : k < 26) (_ : 0 ≤ k) (h1 : (wr.setCell ⟨w.heap.size + 1, o, none⟩ u).heap[w.heap.size + 1]? = some (.cells #[.int .u64 (loAt (k + 1)), .int .u64 (hiAt (k + 1))] 93 (0, 0)))
    (hw : Below w.heap.size w wr) (h0 : wr.heap[w.heap.size]? = some (.cells #[.int .u64 0, .int .u64 0] 93 (0, 0))) (hx : wr.heap[w.heap.size + 1]? = some (.cells #[.int .u64 (loAt k), .int .u64 (hiAt k)] 93 (0, 0))) :
    BitsRel w (.int .i64 ((k + 1 : Nat) : Int)) ((wr.setCell ⟨w.heap.size + 1, o, none⟩ u).drew) :=
  ⟨k + 1, rfl, by omega, by rw [show ((wr.setCell ⟨w.heap.size + 1, o, none⟩ u).drew).heap = (wr.setCell ⟨w.heap.size + 1, o, none⟩ u).heap from rfl, Below.heap_setCell _ _ _ _ (by simp)]; exact h0, h1, (hw.setCell (by simp) u).drew⟩
set_option maxHeartbeats 1000000 in
set_option maxRecDepth 100000 in
theorem jstr_bits (w : World) : Calls Tryz.prog 61 #[] w (BitsPost w) := by
  go_enter Tryz.func61, Tryz.ntmps61
  go_wp2
  go_loopw [3] (fun v wr => BitsRel w v wr) (fun v _ => 26 - (intOf v).toNat)
  case atStart => exact ⟨0, rfl, by omega, by rw [Below.heap_alloc _ _ _ (by simp)]; exact heap_alloc_last _ _, by rw [show loAt 0 = 0 from rfl, show hiAt 0 = 0 from rfl]; have := heap_alloc_last (w.alloc (.cells #[.int .u64 0, .int .u64 0] 93)) (.cells #[.int .u64 0, .int .u64 0] 93); simpa using this, (below_alloc1 _ _).alloc (by simp) _⟩
  case round =>
    obtain ⟨k, rfl, hk, hb0, hb1, hbw⟩ := hrel
    obtain ⟨c0, c1, cf, cl⟩ := two_at hb1
    obtain ⟨d0, d1, df, dl⟩ := two_at hb0
    have H0 := Lib.hid hb0
    have H1 := Lib.hid hb1
    have HW := Lib.hid hbw
    clear hb0 hb1 hbw
    by_cases hlt : k < 26
    · skip
      rcases six26 k hlt with rfl | rfl | rfl | rfl | rfl | rfl | rfl | rfl | rfl | rfl | rfl | rfl | rfl | rfl | rfl | rfl | rfl | rfl | rfl | rfl | rfl | rfl | rfl | rfl | rfl | rfl
      · have e1 : ∀ h, (((⟨#[32, 33, 35, 36, 37, 40, 41, 42, 43, 44, 45, 46, 47, 58, 59, 61, 63, 64, 91, 93, 94, 95, 123, 124, 125, 126]⟩ : ByteArray))[0]'h).toNat = 32 := fun _ => rfl
        have e2 : bits .and .u8 32 63 = 32 := by decide
        have e3 : ∀ w, (Op.shift .shl .u64 1 .u8 32).run Tryz.prog w = .ok (.int .u64 4294967296) w := fun _ => by kernel_rfl
        go_wp2_with fail
        refine wp_tail_drew 11 (by kernel_rfl) (by kernel_rfl) ?_
        simp only [List.take_succ_cons, List.take_zero, List.drop_succ_cons, List.drop_zero]
        repeat still_step
        refine wpStill_nil ?_
        go_wp2
        exact ⟨bits_rel (k := 0) (by omega) (by omega) (bits_lo (by decide +kernel) (by decide +kernel) H1.out) HW.out H0.out H1.out, by simp [intOf]⟩
      · have e1 : ∀ h, (((⟨#[32, 33, 35, 36, 37, 40, 41, 42, 43, 44, 45, 46, 47, 58, 59, 61, 63, 64, 91, 93, 94, 95, 123, 124, 125, 126]⟩ : ByteArray))[1]'h).toNat = 33 := fun _ => rfl
        have e2 : bits .and .u8 33 63 = 33 := by decide
        have e3 : ∀ w, (Op.shift .shl .u64 1 .u8 33).run Tryz.prog w = .ok (.int .u64 8589934592) w := fun _ => by kernel_rfl
        go_wp2_with fail
        refine wp_tail_drew 11 (by kernel_rfl) (by kernel_rfl) ?_
        simp only [List.take_succ_cons, List.take_zero, List.drop_succ_cons, List.drop_zero]
        repeat still_step
        refine wpStill_nil ?_
        go_wp2
        exact ⟨bits_rel (k := 1) (by omega) (by omega) (bits_lo (by decide +kernel) (by decide +kernel) H1.out) HW.out H0.out H1.out, by simp [intOf]⟩
      · have e1 : ∀ h, (((⟨#[32, 33, 35, 36, 37, 40, 41, 42, 43, 44, 45, 46, 47, 58, 59, 61, 63, 64, 91, 93, 94, 95, 123, 124, 125, 126]⟩ : ByteArray))[2]'h).toNat = 35 := fun _ => rfl
        have e2 : bits .and .u8 35 63 = 35 := by decide
        have e3 : ∀ w, (Op.shift .shl .u64 1 .u8 35).run Tryz.prog w = .ok (.int .u64 34359738368) w := fun _ => by kernel_rfl
        go_wp2_with fail
        refine wp_tail_drew 11 (by kernel_rfl) (by kernel_rfl) ?_
        simp only [List.take_succ_cons, List.take_zero, List.drop_succ_cons, List.drop_zero]
        repeat still_step
        refine wpStill_nil ?_
        go_wp2
        exact ⟨bits_rel (k := 2) (by omega) (by omega) (bits_lo (by decide +kernel) (by decide +kernel) H1.out) HW.out H0.out H1.out, by simp [intOf]⟩
      · have e1 : ∀ h, (((⟨#[32, 33, 35, 36, 37, 40, 41, 42, 43, 44, 45, 46, 47, 58, 59, 61, 63, 64, 91, 93, 94, 95, 123, 124, 125, 126]⟩ : ByteArray))[3]'h).toNat = 36 := fun _ => rfl
        have e2 : bits .and .u8 36 63 = 36 := by decide
        have e3 : ∀ w, (Op.shift .shl .u64 1 .u8 36).run Tryz.prog w = .ok (.int .u64 68719476736) w := fun _ => by kernel_rfl
        go_wp2_with fail
        refine wp_tail_drew 11 (by kernel_rfl) (by kernel_rfl) ?_
        simp only [List.take_succ_cons, List.take_zero, List.drop_succ_cons, List.drop_zero]
        repeat still_step
        refine wpStill_nil ?_
        go_wp2
        exact ⟨bits_rel (k := 3) (by omega) (by omega) (bits_lo (by decide +kernel) (by decide +kernel) H1.out) HW.out H0.out H1.out, by simp [intOf]⟩
      · have e1 : ∀ h, (((⟨#[32, 33, 35, 36, 37, 40, 41, 42, 43, 44, 45, 46, 47, 58, 59, 61, 63, 64, 91, 93, 94, 95, 123, 124, 125, 126]⟩ : ByteArray))[4]'h).toNat = 37 := fun _ => rfl
        have e2 : bits .and .u8 37 63 = 37 := by decide
        have e3 : ∀ w, (Op.shift .shl .u64 1 .u8 37).run Tryz.prog w = .ok (.int .u64 137438953472) w := fun _ => by kernel_rfl
        go_wp2_with fail
        refine wp_tail_drew 11 (by kernel_rfl) (by kernel_rfl) ?_
        simp only [List.take_succ_cons, List.take_zero, List.drop_succ_cons, List.drop_zero]
        repeat still_step
        refine wpStill_nil ?_
        go_wp2
        exact ⟨bits_rel (k := 4) (by omega) (by omega) (bits_lo (by decide +kernel) (by decide +kernel) H1.out) HW.out H0.out H1.out, by simp [intOf]⟩
      · have e1 : ∀ h, (((⟨#[32, 33, 35, 36, 37, 40, 41, 42, 43, 44, 45, 46, 47, 58, 59, 61, 63, 64, 91, 93, 94, 95, 123, 124, 125, 126]⟩ : ByteArray))[5]'h).toNat = 40 := fun _ => rfl
        have e2 : bits .and .u8 40 63 = 40 := by decide
        have e3 : ∀ w, (Op.shift .shl .u64 1 .u8 40).run Tryz.prog w = .ok (.int .u64 1099511627776) w := fun _ => by kernel_rfl
        go_wp2_with fail
        refine wp_tail_drew 11 (by kernel_rfl) (by kernel_rfl) ?_
        simp only [List.take_succ_cons, List.take_zero, List.drop_succ_cons, List.drop_zero]
        repeat still_step
        refine wpStill_nil ?_
        go_wp2
        exact ⟨bits_rel (k := 5) (by omega) (by omega) (bits_lo (by decide +kernel) (by decide +kernel) H1.out) HW.out H0.out H1.out, by simp [intOf]⟩
      · have e1 : ∀ h, (((⟨#[32, 33, 35, 36, 37, 40, 41, 42, 43, 44, 45, 46, 47, 58, 59, 61, 63, 64, 91, 93, 94, 95, 123, 124, 125, 126]⟩ : ByteArray))[6]'h).toNat = 41 := fun _ => rfl
        have e2 : bits .and .u8 41 63 = 41 := by decide
        have e3 : ∀ w, (Op.shift .shl .u64 1 .u8 41).run Tryz.prog w = .ok (.int .u64 2199023255552) w := fun _ => by kernel_rfl
        go_wp2_with fail
        refine wp_tail_drew 11 (by kernel_rfl) (by kernel_rfl) ?_
        simp only [List.take_succ_cons, List.take_zero, List.drop_succ_cons, List.drop_zero]
        repeat still_step
        refine wpStill_nil ?_
        go_wp2
        exact ⟨bits_rel (k := 6) (by omega) (by omega) (bits_lo (by decide +kernel) (by decide +kernel) H1.out) HW.out H0.out H1.out, by simp [intOf]⟩
      · have e1 : ∀ h, (((⟨#[32, 33, 35, 36, 37, 40, 41, 42, 43, 44, 45, 46, 47, 58, 59, 61, 63, 64, 91, 93, 94, 95, 123, 124, 125, 126]⟩ : ByteArray))[7]'h).toNat = 42 := fun _ => rfl
        have e2 : bits .and .u8 42 63 = 42 := by decide
        have e3 : ∀ w, (Op.shift .shl .u64 1 .u8 42).run Tryz.prog w = .ok (.int .u64 4398046511104) w := fun _ => by kernel_rfl
        go_wp2_with fail
        refine wp_tail_drew 11 (by kernel_rfl) (by kernel_rfl) ?_
        simp only [List.take_succ_cons, List.take_zero, List.drop_succ_cons, List.drop_zero]
        repeat still_step
        refine wpStill_nil ?_
        go_wp2
        exact ⟨bits_rel (k := 7) (by omega) (by omega) (bits_lo (by decide +kernel) (by decide +kernel) H1.out) HW.out H0.out H1.out, by simp [intOf]⟩
      · have e1 : ∀ h, (((⟨#[32, 33, 35, 36, 37, 40, 41, 42, 43, 44, 45, 46, 47, 58, 59, 61, 63, 64, 91, 93, 94, 95, 123, 124, 125, 126]⟩ : ByteArray))[8]'h).toNat = 43 := fun _ => rfl
        have e2 : bits .and .u8 43 63 = 43 := by decide
        have e3 : ∀ w, (Op.shift .shl .u64 1 .u8 43).run Tryz.prog w = .ok (.int .u64 8796093022208) w := fun _ => by kernel_rfl
        go_wp2_with fail
        refine wp_tail_drew 11 (by kernel_rfl) (by kernel_rfl) ?_
        simp only [List.take_succ_cons, List.take_zero, List.drop_succ_cons, List.drop_zero]
        repeat still_step
        refine wpStill_nil ?_
        go_wp2
        exact ⟨bits_rel (k := 8) (by omega) (by omega) (bits_lo (by decide +kernel) (by decide +kernel) H1.out) HW.out H0.out H1.out, by simp [intOf]⟩
      · have e1 : ∀ h, (((⟨#[32, 33, 35, 36, 37, 40, 41, 42, 43, 44, 45, 46, 47, 58, 59, 61, 63, 64, 91, 93, 94, 95, 123, 124, 125, 126]⟩ : ByteArray))[9]'h).toNat = 44 := fun _ => rfl
        have e2 : bits .and .u8 44 63 = 44 := by decide
        have e3 : ∀ w, (Op.shift .shl .u64 1 .u8 44).run Tryz.prog w = .ok (.int .u64 17592186044416) w := fun _ => by kernel_rfl
        go_wp2_with fail
        refine wp_tail_drew 11 (by kernel_rfl) (by kernel_rfl) ?_
        simp only [List.take_succ_cons, List.take_zero, List.drop_succ_cons, List.drop_zero]
        repeat still_step
        refine wpStill_nil ?_
        go_wp2
        exact ⟨bits_rel (k := 9) (by omega) (by omega) (bits_lo (by decide +kernel) (by decide +kernel) H1.out) HW.out H0.out H1.out, by simp [intOf]⟩
      · have e1 : ∀ h, (((⟨#[32, 33, 35, 36, 37, 40, 41, 42, 43, 44, 45, 46, 47, 58, 59, 61, 63, 64, 91, 93, 94, 95, 123, 124, 125, 126]⟩ : ByteArray))[10]'h).toNat = 45 := fun _ => rfl
        have e2 : bits .and .u8 45 63 = 45 := by decide
        have e3 : ∀ w, (Op.shift .shl .u64 1 .u8 45).run Tryz.prog w = .ok (.int .u64 35184372088832) w := fun _ => by kernel_rfl
        go_wp2_with fail
        refine wp_tail_drew 11 (by kernel_rfl) (by kernel_rfl) ?_
        simp only [List.take_succ_cons, List.take_zero, List.drop_succ_cons, List.drop_zero]
        repeat still_step
        refine wpStill_nil ?_
        go_wp2
        exact ⟨bits_rel (k := 10) (by omega) (by omega) (bits_lo (by decide +kernel) (by decide +kernel) H1.out) HW.out H0.out H1.out, by simp [intOf]⟩
      · have e1 : ∀ h, (((⟨#[32, 33, 35, 36, 37, 40, 41, 42, 43, 44, 45, 46, 47, 58, 59, 61, 63, 64, 91, 93, 94, 95, 123, 124, 125, 126]⟩ : ByteArray))[11]'h).toNat = 46 := fun _ => rfl
        have e2 : bits .and .u8 46 63 = 46 := by decide
        have e3 : ∀ w, (Op.shift .shl .u64 1 .u8 46).run Tryz.prog w = .ok (.int .u64 70368744177664) w := fun _ => by kernel_rfl
        go_wp2_with fail
        refine wp_tail_drew 11 (by kernel_rfl) (by kernel_rfl) ?_
        simp only [List.take_succ_cons, List.take_zero, List.drop_succ_cons, List.drop_zero]
        repeat still_step
        refine wpStill_nil ?_
        go_wp2
        exact ⟨bits_rel (k := 11) (by omega) (by omega) (bits_lo (by decide +kernel) (by decide +kernel) H1.out) HW.out H0.out H1.out, by simp [intOf]⟩
      · have e1 : ∀ h, (((⟨#[32, 33, 35, 36, 37, 40, 41, 42, 43, 44, 45, 46, 47, 58, 59, 61, 63, 64, 91, 93, 94, 95, 123, 124, 125, 126]⟩ : ByteArray))[12]'h).toNat = 47 := fun _ => rfl
        have e2 : bits .and .u8 47 63 = 47 := by decide
        have e3 : ∀ w, (Op.shift .shl .u64 1 .u8 47).run Tryz.prog w = .ok (.int .u64 140737488355328) w := fun _ => by kernel_rfl
        go_wp2_with fail
        refine wp_tail_drew 11 (by kernel_rfl) (by kernel_rfl) ?_
        simp only [List.take_succ_cons, List.take_zero, List.drop_succ_cons, List.drop_zero]
        repeat still_step
        refine wpStill_nil ?_
        go_wp2
        exact ⟨bits_rel (k := 12) (by omega) (by omega) (bits_lo (by decide +kernel) (by decide +kernel) H1.out) HW.out H0.out H1.out, by simp [intOf]⟩
      · have e1 : ∀ h, (((⟨#[32, 33, 35, 36, 37, 40, 41, 42, 43, 44, 45, 46, 47, 58, 59, 61, 63, 64, 91, 93, 94, 95, 123, 124, 125, 126]⟩ : ByteArray))[13]'h).toNat = 58 := fun _ => rfl
        have e2 : bits .and .u8 58 63 = 58 := by decide
        have e3 : ∀ w, (Op.shift .shl .u64 1 .u8 58).run Tryz.prog w = .ok (.int .u64 288230376151711744) w := fun _ => by kernel_rfl
        go_wp2_with fail
        refine wp_tail_drew 11 (by kernel_rfl) (by kernel_rfl) ?_
        simp only [List.take_succ_cons, List.take_zero, List.drop_succ_cons, List.drop_zero]
        repeat still_step
        refine wpStill_nil ?_
        go_wp2
        exact ⟨bits_rel (k := 13) (by omega) (by omega) (bits_lo (by decide +kernel) (by decide +kernel) H1.out) HW.out H0.out H1.out, by simp [intOf]⟩
      · have e1 : ∀ h, (((⟨#[32, 33, 35, 36, 37, 40, 41, 42, 43, 44, 45, 46, 47, 58, 59, 61, 63, 64, 91, 93, 94, 95, 123, 124, 125, 126]⟩ : ByteArray))[14]'h).toNat = 59 := fun _ => rfl
        have e2 : bits .and .u8 59 63 = 59 := by decide
        have e3 : ∀ w, (Op.shift .shl .u64 1 .u8 59).run Tryz.prog w = .ok (.int .u64 576460752303423488) w := fun _ => by kernel_rfl
        go_wp2_with fail
        refine wp_tail_drew 11 (by kernel_rfl) (by kernel_rfl) ?_
        simp only [List.take_succ_cons, List.take_zero, List.drop_succ_cons, List.drop_zero]
        repeat still_step
        refine wpStill_nil ?_
        go_wp2
        exact ⟨bits_rel (k := 14) (by omega) (by omega) (bits_lo (by decide +kernel) (by decide +kernel) H1.out) HW.out H0.out H1.out, by simp [intOf]⟩
      · have e1 : ∀ h, (((⟨#[32, 33, 35, 36, 37, 40, 41, 42, 43, 44, 45, 46, 47, 58, 59, 61, 63, 64, 91, 93, 94, 95, 123, 124, 125, 126]⟩ : ByteArray))[15]'h).toNat = 61 := fun _ => rfl
        have e2 : bits .and .u8 61 63 = 61 := by decide
        have e3 : ∀ w, (Op.shift .shl .u64 1 .u8 61).run Tryz.prog w = .ok (.int .u64 2305843009213693952) w := fun _ => by kernel_rfl
        go_wp2_with fail
        refine wp_tail_drew 11 (by kernel_rfl) (by kernel_rfl) ?_
        simp only [List.take_succ_cons, List.take_zero, List.drop_succ_cons, List.drop_zero]
        repeat still_step
        refine wpStill_nil ?_
        go_wp2
        exact ⟨bits_rel (k := 15) (by omega) (by omega) (bits_lo (by decide +kernel) (by decide +kernel) H1.out) HW.out H0.out H1.out, by simp [intOf]⟩
      · have e1 : ∀ h, (((⟨#[32, 33, 35, 36, 37, 40, 41, 42, 43, 44, 45, 46, 47, 58, 59, 61, 63, 64, 91, 93, 94, 95, 123, 124, 125, 126]⟩ : ByteArray))[16]'h).toNat = 63 := fun _ => rfl
        have e2 : bits .and .u8 63 63 = 63 := by decide
        have e3 : ∀ w, (Op.shift .shl .u64 1 .u8 63).run Tryz.prog w = .ok (.int .u64 9223372036854775808) w := fun _ => by kernel_rfl
        go_wp2_with fail
        refine wp_tail_drew 11 (by kernel_rfl) (by kernel_rfl) ?_
        simp only [List.take_succ_cons, List.take_zero, List.drop_succ_cons, List.drop_zero]
        repeat still_step
        refine wpStill_nil ?_
        go_wp2
        exact ⟨bits_rel (k := 16) (by omega) (by omega) (bits_lo (by decide +kernel) (by decide +kernel) H1.out) HW.out H0.out H1.out, by simp [intOf]⟩
      · have e1 : ∀ h, (((⟨#[32, 33, 35, 36, 37, 40, 41, 42, 43, 44, 45, 46, 47, 58, 59, 61, 63, 64, 91, 93, 94, 95, 123, 124, 125, 126]⟩ : ByteArray))[17]'h).toNat = 64 := fun _ => rfl
        have e2 : bits .and .u8 64 63 = 0 := by decide
        have e3 : ∀ w, (Op.shift .shl .u64 1 .u8 0).run Tryz.prog w = .ok (.int .u64 1) w := fun _ => by kernel_rfl
        go_wp2_with fail
        refine wp_tail_drew 11 (by kernel_rfl) (by kernel_rfl) ?_
        simp only [List.take_succ_cons, List.take_zero, List.drop_succ_cons, List.drop_zero]
        repeat still_step
        refine wpStill_nil ?_
        go_wp2
        exact ⟨bits_rel (k := 17) (by omega) (by omega) (bits_hi (by decide +kernel) (by decide +kernel) H1.out) HW.out H0.out H1.out, by simp [intOf]⟩
      · have e1 : ∀ h, (((⟨#[32, 33, 35, 36, 37, 40, 41, 42, 43, 44, 45, 46, 47, 58, 59, 61, 63, 64, 91, 93, 94, 95, 123, 124, 125, 126]⟩ : ByteArray))[18]'h).toNat = 91 := fun _ => rfl
        have e2 : bits .and .u8 91 63 = 27 := by decide
        have e3 : ∀ w, (Op.shift .shl .u64 1 .u8 27).run Tryz.prog w = .ok (.int .u64 134217728) w := fun _ => by kernel_rfl
        go_wp2_with fail
        refine wp_tail_drew 11 (by kernel_rfl) (by kernel_rfl) ?_
        simp only [List.take_succ_cons, List.take_zero, List.drop_succ_cons, List.drop_zero]
        repeat still_step
        refine wpStill_nil ?_
        go_wp2
        exact ⟨bits_rel (k := 18) (by omega) (by omega) (bits_hi (by decide +kernel) (by decide +kernel) H1.out) HW.out H0.out H1.out, by simp [intOf]⟩
      · have e1 : ∀ h, (((⟨#[32, 33, 35, 36, 37, 40, 41, 42, 43, 44, 45, 46, 47, 58, 59, 61, 63, 64, 91, 93, 94, 95, 123, 124, 125, 126]⟩ : ByteArray))[19]'h).toNat = 93 := fun _ => rfl
        have e2 : bits .and .u8 93 63 = 29 := by decide
        have e3 : ∀ w, (Op.shift .shl .u64 1 .u8 29).run Tryz.prog w = .ok (.int .u64 536870912) w := fun _ => by kernel_rfl
        go_wp2_with fail
        refine wp_tail_drew 11 (by kernel_rfl) (by kernel_rfl) ?_
        simp only [List.take_succ_cons, List.take_zero, List.drop_succ_cons, List.drop_zero]
        repeat still_step
        refine wpStill_nil ?_
        go_wp2
        exact ⟨bits_rel (k := 19) (by omega) (by omega) (bits_hi (by decide +kernel) (by decide +kernel) H1.out) HW.out H0.out H1.out, by simp [intOf]⟩
      · have e1 : ∀ h, (((⟨#[32, 33, 35, 36, 37, 40, 41, 42, 43, 44, 45, 46, 47, 58, 59, 61, 63, 64, 91, 93, 94, 95, 123, 124, 125, 126]⟩ : ByteArray))[20]'h).toNat = 94 := fun _ => rfl
        have e2 : bits .and .u8 94 63 = 30 := by decide
        have e3 : ∀ w, (Op.shift .shl .u64 1 .u8 30).run Tryz.prog w = .ok (.int .u64 1073741824) w := fun _ => by kernel_rfl
        go_wp2_with fail
        refine wp_tail_drew 11 (by kernel_rfl) (by kernel_rfl) ?_
        simp only [List.take_succ_cons, List.take_zero, List.drop_succ_cons, List.drop_zero]
        repeat still_step
        refine wpStill_nil ?_
        go_wp2
        exact ⟨bits_rel (k := 20) (by omega) (by omega) (bits_hi (by decide +kernel) (by decide +kernel) H1.out) HW.out H0.out H1.out, by simp [intOf]⟩
      · have e1 : ∀ h, (((⟨#[32, 33, 35, 36, 37, 40, 41, 42, 43, 44, 45, 46, 47, 58, 59, 61, 63, 64, 91, 93, 94, 95, 123, 124, 125, 126]⟩ : ByteArray))[21]'h).toNat = 95 := fun _ => rfl
        have e2 : bits .and .u8 95 63 = 31 := by decide
        have e3 : ∀ w, (Op.shift .shl .u64 1 .u8 31).run Tryz.prog w = .ok (.int .u64 2147483648) w := fun _ => by kernel_rfl
        go_wp2_with fail
        refine wp_tail_drew 11 (by kernel_rfl) (by kernel_rfl) ?_
        simp only [List.take_succ_cons, List.take_zero, List.drop_succ_cons, List.drop_zero]
        repeat still_step
        refine wpStill_nil ?_
        go_wp2
        exact ⟨bits_rel (k := 21) (by omega) (by omega) (bits_hi (by decide +kernel) (by decide +kernel) H1.out) HW.out H0.out H1.out, by simp [intOf]⟩
      · have e1 : ∀ h, (((⟨#[32, 33, 35, 36, 37, 40, 41, 42, 43, 44, 45, 46, 47, 58, 59, 61, 63, 64, 91, 93, 94, 95, 123, 124, 125, 126]⟩ : ByteArray))[22]'h).toNat = 123 := fun _ => rfl
        have e2 : bits .and .u8 123 63 = 59 := by decide
        have e3 : ∀ w, (Op.shift .shl .u64 1 .u8 59).run Tryz.prog w = .ok (.int .u64 576460752303423488) w := fun _ => by kernel_rfl
        go_wp2_with fail
        refine wp_tail_drew 11 (by kernel_rfl) (by kernel_rfl) ?_
        simp only [List.take_succ_cons, List.take_zero, List.drop_succ_cons, List.drop_zero]
        repeat still_step
        refine wpStill_nil ?_
        go_wp2
        exact ⟨bits_rel (k := 22) (by omega) (by omega) (bits_hi (by decide +kernel) (by decide +kernel) H1.out) HW.out H0.out H1.out, by simp [intOf]⟩
      · have e1 : ∀ h, (((⟨#[32, 33, 35, 36, 37, 40, 41, 42, 43, 44, 45, 46, 47, 58, 59, 61, 63, 64, 91, 93, 94, 95, 123, 124, 125, 126]⟩ : ByteArray))[23]'h).toNat = 124 := fun _ => rfl
        have e2 : bits .and .u8 124 63 = 60 := by decide
        have e3 : ∀ w, (Op.shift .shl .u64 1 .u8 60).run Tryz.prog w = .ok (.int .u64 1152921504606846976) w := fun _ => by kernel_rfl
        go_wp2_with fail
        refine wp_tail_drew 11 (by kernel_rfl) (by kernel_rfl) ?_
        simp only [List.take_succ_cons, List.take_zero, List.drop_succ_cons, List.drop_zero]
        repeat still_step
        refine wpStill_nil ?_
        go_wp2
        exact ⟨bits_rel (k := 23) (by omega) (by omega) (bits_hi (by decide +kernel) (by decide +kernel) H1.out) HW.out H0.out H1.out, by simp [intOf]⟩
      · have e1 : ∀ h, (((⟨#[32, 33, 35, 36, 37, 40, 41, 42, 43, 44, 45, 46, 47, 58, 59, 61, 63, 64, 91, 93, 94, 95, 123, 124, 125, 126]⟩ : ByteArray))[24]'h).toNat = 125 := fun _ => rfl
        have e2 : bits .and .u8 125 63 = 61 := by decide
        have e3 : ∀ w, (Op.shift .shl .u64 1 .u8 61).run Tryz.prog w = .ok (.int .u64 2305843009213693952) w := fun _ => by kernel_rfl
        go_wp2_with fail
        refine wp_tail_drew 11 (by kernel_rfl) (by kernel_rfl) ?_
        simp only [List.take_succ_cons, List.take_zero, List.drop_succ_cons, List.drop_zero]
        repeat still_step
        refine wpStill_nil ?_
        go_wp2
        exact ⟨bits_rel (k := 24) (by omega) (by omega) (bits_hi (by decide +kernel) (by decide +kernel) H1.out) HW.out H0.out H1.out, by simp [intOf]⟩
      · have e1 : ∀ h, (((⟨#[32, 33, 35, 36, 37, 40, 41, 42, 43, 44, 45, 46, 47, 58, 59, 61, 63, 64, 91, 93, 94, 95, 123, 124, 125, 126]⟩ : ByteArray))[25]'h).toNat = 126 := fun _ => rfl
        have e2 : bits .and .u8 126 63 = 62 := by decide
        have e3 : ∀ w, (Op.shift .shl .u64 1 .u8 62).run Tryz.prog w = .ok (.int .u64 4611686018427387904) w := fun _ => by kernel_rfl
        go_wp2_with fail
        refine wp_tail_drew 11 (by kernel_rfl) (by kernel_rfl) ?_
        simp only [List.take_succ_cons, List.take_zero, List.drop_succ_cons, List.drop_zero]
        repeat still_step
        refine wpStill_nil ?_
        go_wp2
        exact ⟨bits_rel (k := 25) (by omega) (by omega) (bits_hi (by decide +kernel) (by decide +kernel) H1.out) HW.out H0.out H1.out, by simp [intOf]⟩
    · obtain rfl : k = 26 := by omega
      go_wp2
      refine bodyPost_ret (v := .agg #[.int .u64 (loAt 26), .int .u64 (hiAt 26)]) (by simp [results, Tryz.results61, go_sem, *]) rfl ⟨rfl, ?_⟩
      exact (HW.out.setCell (by simp) _).setCell (by simp) _
end Go.Proofs.YtokclcilpekfiaaGreatDoor
