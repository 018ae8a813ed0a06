/- The contract of jstr.Escape. Conditions as at utf.Norm; a text is shorter than 2^24. -/
import Derived.Test.YtokclcilpekfiaaGreatDoorEnc
import Derived.Test.YtokclcilpekfiaaGreatDoorBits
import Derived.Test.YtokclcilpekfiaaGreatDoorTok1
namespace Go.Proofs.YtokclcilpekfiaaGreatDoor
open Go.RowKit
set_option linter.unusedVariables false
set_option linter.unusedSimpArgs false
def jStays (c : Int) : Bool := decide (128 ≤ c) || (letter c || (digit c || jsSigns.contains c.toNat))
def jHex : List UInt8 := [48, 49, 50, 51, 52, 53, 54, 55, 56, 57, 97, 98, 99, 100, 101, 102]
def jB (b : UInt8) : List UInt8 := if jStays (b.toNat : Int) then [b] else [92, 117, 48, 48, jHex.getD (b.toNat / 16) 0, jHex.getD (b.toNat % 16) 0]
def jes (l : List UInt8) : List UInt8 := l.flatMap jB
theorem jB_le (b : UInt8) : (jB b).length ≤ 6 := by
  unfold jB
  split <;> simp
theorem jes_len (l : List UInt8) : (jes l).length ≤ 6 * l.length := by
  induction l with
  | nil => simp [jes]
  | cons a l ih =>
    have := jB_le a
    unfold jes at ih ⊢
    simp only [List.flatMap_cons, List.length_append, List.length_cons]
    omega
theorem jes_snoc (s : ByteArray) (k : Nat) (h : k < s.size) : jes (s.data.toList.take (k + 1)) = jes (s.data.toList.take k) ++ jB s[k] := by
  rw [take_snoc s k h]
  simp [jes]
theorem and63 (b : UInt8) : bits .and .u8 (b.toNat : Int) 63 = (b.toNat : Int) % 64 := by
  have h : ∀ x : Fin 256, bits .and .u8 ((x.val : Nat) : Int) 63 = ((x.val : Nat) : Int) % 64 := by decide +kernel
  exact h ⟨b.toNat, b.toNat_lt⟩
theorem and15 (b : UInt8) : bits .and .u8 (b.toNat : Int) 15 = (b.toNat : Int) % 16 := by
  have h : ∀ x : Fin 256, bits .and .u8 ((x.val : Nat) : Int) 15 = ((x.val : Nat) : Int) % 16 := by decide +kernel
  exact h ⟨b.toNat, b.toNat_lt⟩
theorem wrapu8 {x : Int} (h0 : 0 ≤ x) (h1 : x < 256) : IntKind.u8.wrap x = x := by
  unfold IntKind.wrap
  simp [IntKind.signed, IntKind.bits]
  omega
def hexS : ByteArray := ⟨#[48, 49, 50, 51, 52, 53, 54, 55, 56, 57, 97, 98, 99, 100, 101, 102]⟩
def hexAt (i : Int) : ByteArray := ⟨#[jHex.getD i.toNat 0]⟩
theorem hex_run (i : Int) (h0 : 0 ≤ i) (h1 : i < 16) : ∀ w, (Instr.slice 9 (.string hexS) (some (.int .u8 i)) (some (.int .u8 (i + 1))) none).run Tryz.prog w = .ok (.string (hexAt i)) w := by
  have h : i = 0 ∨ i = 1 ∨ i = 2 ∨ i = 3 ∨ i = 4 ∨ i = 5 ∨ i = 6 ∨ i = 7 ∨ i = 8 ∨ i = 9 ∨ i = 10 ∨ i = 11 ∨ i = 12 ∨ i = 13 ∨ i = 14 ∨ i = 15 := by omega
  intro w
  rcases h with rfl | rfl | rfl | rfl | rfl | rfl | rfl | rfl | rfl | rfl | rfl | rfl | rfl | rfl | rfl | rfl <;> kernel_rfl
theorem jB_stay (b : UInt8) (h : jStays (b.toNat : Int) = true) : [UInt8.ofNat ((b.toNat : Int)).toNat] = jB b := by
  unfold jB
  rw [if_pos h]
  simp
theorem jB_esc (b : UInt8) (h : jStays (b.toNat : Int) = false) : (((⟨#[92, 117, 48, 48]⟩ : ByteArray) ++ hexAt ((b.toNat : Int) / 16)) ++ hexAt ((b.toNat : Int) % 16)).data.toList = jB b := by
  unfold jB
  rw [if_neg (by simp [h])]
  rfl
theorem jStays_last {c : Int} (k0 : decide (128 ≤ c) = false) (k1 : letter c = false) (k2 : digit c = false) : jStays c = jsSigns.contains c.toNat := by
  unfold jStays
  rw [k0, k1, k2]
  simp
def JRel (n : ByteArray) (W B : Nat) (w : World) (v : Value) (wr : World) : Prop :=
  ∃ k : Nat, v = .int .i64 k ∧ k ≤ n.size ∧ YtokclcilpekfiaaGreatDoor.Bld (B + 1) (B + 1) (jes (n.data.toList.take k)) wr ∧ wr.heap[B]? = some (.cells #[.int .u64 (loAt 26), .int .u64 (hiAt 26)] 93 (0, 0)) ∧ Below B w wr ∧ B + 1 < wr.heap.size
theorem hex6 (a b : Int) : (((⟨#[92, 117, 48, 48]⟩ : ByteArray) ++ hexAt a) ++ hexAt b).size = 6 := rfl
theorem loAt_bit (b : UInt8) (h : b.toNat < 64) : (bits .and .u64 (loAt 26 / 2 ^ (b.toNat % 64)) 1 == 1) = jsSigns.contains b.toNat := by
  have hh : ∀ x : Fin 64, (bits .and .u64 (loAt 26 / 2 ^ (x.val % 64)) 1 == 1) = jsSigns.contains x.val := by decide +kernel
  exact hh ⟨b.toNat, h⟩
theorem hiAt_bit (b : UInt8) (h : b.toNat < 128) (h' : 64 ≤ b.toNat) : (bits .and .u64 (hiAt 26 / 2 ^ (b.toNat % 64)) 1 == 1) = jsSigns.contains b.toNat := by
  have hh : ∀ x : Fin 64, (bits .and .u64 (hiAt 26 / 2 ^ (x.val % 64)) 1 == 1) = jsSigns.contains (x.val + 64) := by decide +kernel
  have h2 := hh ⟨b.toNat - 64, by omega⟩
  simp only [show b.toNat - 64 + 64 = b.toNat by omega] at h2
  rw [← h2, show b.toNat % 64 = (b.toNat - 64) % 64 by omega]
theorem jrel_next {n : ByteArray} {W B k : Nat} {w2 wr w4 : World} {x : List UInt8} (hk : k < n.size) (hB2 : YtokclcilpekfiaaGreatDoor.Bld (B + 1) (B + 1) (jes (n.data.toList.take k) ++ x) w4) (hx : x = jB n[k]) (hb3 : Below (B + 1) wr w4)
    (HS : wr.heap[B]? = some (.cells #[.int .u64 (loAt 26), .int .u64 (hiAt 26)] 93 (0, 0))) (HW : Below B w2 wr) (hsz : B + 1 < wr.heap.size) :
    JRel n W B w2 (.int .i64 (↑k + 1)) w4 ∧ n.size - (intOf (.int .i64 (↑k + 1))).toNat < n.size - (intOf (.int .i64 ↑k)).toNat :=
  ⟨⟨k + 1, by simp, by omega, by rw [jes_snoc n k hk, ← hx]; exact hB2, (hb3.block B (by omega)).trans HS, HW.trans (hb3.mono (by omega)), by have := hb3.size; omega⟩, by simp [intOf]; omega⟩
/-- How a text stands in a script's text. -/
def jesL (s : ByteArray) : List UInt8 := Lib.replaceAll (Lib.replaceAll (jes (norm s)) [226, 128, 168] [92, 117, 50, 48, 50, 56]) [226, 128, 169] [92, 117, 50, 48, 50, 57]
def jesc (s : ByteArray) : ByteArray := ⟨(jesL s).toArray⟩
theorem replaceK_len (old new : List UInt8) : ∀ (k : Nat) (s : List UInt8), (Lib.replaceK old new k s).length ≤ s.length + k * new.length
  | 0, s => by simp [Lib.replaceK]
  | k + 1, s => by
    unfold Lib.replaceK
    split
    · have : 0 ≤ (k + 1) * new.length := Nat.zero_le _
      omega
    · have := replaceK_len old new k (s.drop ((Lib.index s old).toNat + old.length))
      simp only [List.length_append, List.length_take, List.length_drop] at this ⊢
      rw [Nat.succ_mul]
      omega
theorem replaceAll_len (s old new : List UInt8) : (Lib.replaceAll s old new).length ≤ s.length + (s.length + 1) * new.length := by
  unfold Lib.replaceAll Lib.replace
  split
  · exact Nat.le_add_right _ _
  · have h1 := replaceK_len old new (Lib.replaceNum s old (-1)) s
    have h2 : Lib.replaceNum s old (-1) = Lib.count s old := by simp [Lib.replaceNum]
    have h3 := Lib.count_le s old
    rw [h2] at h1 ⊢
    exact Nat.le_trans h1 (Nat.add_le_add_left (Nat.mul_le_mul_right _ h3) _)
def JPost (s : ByteArray) (w : World) (e : Ending) (w' : World) : Prop := e = .returned (.string (jesc s)) ∧ Below w.heap.size w w'
set_option maxHeartbeats 1000000 in
set_option maxRecDepth 100000 in
theorem jstr_Escape (s : ByteArray) (m : Int) (w : World) (hE : Env m w) (hs : s.size ≤ 16777216) : Calls Tryz.prog 30 #[.string s] w (JPost s w) := by
  have HE := Lib.hid hE
  clear hE
  go_enter Tryz.func30, Tryz.ntmps30
  go_wp2_with (first | (go_at_call 50; refine (utf_Norm s m _ HE.out (by omega)).mono ?_; rintro e w1 ⟨rfl, hb1⟩) | (go_at_call 61; refine (jstr_bits _).mono ?_; rintro e w2 ⟨rfl, hb2⟩))
  have hn := normB_le s
  have hnl := normB_list s
  have HNL := Lib.hid hnl
  clear hnl
  have HF := Lib.hid (YtokclcilpekfiaaGreatDoor.bld_fresh (w2.alloc (.cells #[.int .u64 (loAt 26), .int .u64 (hiAt 26)] 93)))
  go_loopw [12] (fun v wr => JRel (normB s) w.heap.size w2.heap.size w2 v wr) (fun v _ => (normB s).size - (intOf v).toNat)
  case atStart => exact ⟨0, rfl, Nat.zero_le _, by simpa [jes] using HF.out, by rw [Below.heap_alloc _ _ _ (by simp)]; exact heap_alloc_last _ _, (below_alloc1 _ _).alloc (by simp) _, by simp⟩
  case round =>
    obtain ⟨k, rfl, hk, hB, hst, hbw, hsz⟩ := hrel
    obtain ⟨c0, c1, cf, cl⟩ := two_at hst
    have HB := Lib.hid hB
    have HW := Lib.hid hbw
    have HS := Lib.hid hst
    clear hB hbw hst
    have he6 : (jes (List.take k (normB s).data.toList)).length ≤ 6 * k := Nat.le_trans (jes_len _) (by have : (List.take k (normB s).data.toList).length ≤ k := List.length_take_le _ _; omega)
    by_cases hlt : k < (normB s).size
    · have hsn := Lib.hid (jes_snoc (normB s) k hlt)
      have hb0 : 0 ≤ (((normB s)[k]).toNat : Int) := by omega
      have hb255 : (((normB s)[k]).toNat : Int) ≤ 255 := by have := (normB s)[k].toNat_lt; omega
      rcases Bool.eq_false_or_eq_true (decide (128 ≤ (((normB s)[k]).toNat : Int))) with k0 | k0
      · go_wp2_with (first | (go_at_call 62; refine (utf_Letter _ _ (by omega) (by omega)).mono ?_; rintro e w3 ⟨rfl, rfl⟩) | (go_at_call 63; refine (utf_Digit _ _ (by omega) (by omega)).mono ?_; rintro e w3 ⟨rfl, rfl⟩) | (go_at_call 53; refine (YtokclcilpekfiaaGreatDoor.bld_byte _ _ _ _ (by omega) (by omega) _ HB.out (by omega) (by omega)).mono ?_; rintro e w4 ⟨rfl, hB2, hb3⟩))
        exact jrel_next hlt hB2 (by simp [jB, jStays, k0]) hb3 HS.out HW.out hsz
      · rcases Bool.eq_false_or_eq_true (letter (((normB s)[k]).toNat : Int)) with k1 | k1
        · go_wp2_with (first | (go_at_call 62; refine (utf_Letter _ _ (by omega) (by omega)).mono ?_; rintro e w3 ⟨rfl, rfl⟩) | (go_at_call 63; refine (utf_Digit _ _ (by omega) (by omega)).mono ?_; rintro e w3 ⟨rfl, rfl⟩) | (go_at_call 53; refine (YtokclcilpekfiaaGreatDoor.bld_byte _ _ _ _ (by omega) (by omega) _ HB.out (by omega) (by omega)).mono ?_; rintro e w4 ⟨rfl, hB2, hb3⟩))
          exact jrel_next hlt hB2 (by simp [jB, jStays, k0, k1]) hb3 HS.out HW.out hsz
        · rcases Bool.eq_false_or_eq_true (digit (((normB s)[k]).toNat : Int)) with k2 | k2
          · go_wp2_with (first | (go_at_call 62; refine (utf_Letter _ _ (by omega) (by omega)).mono ?_; rintro e w3 ⟨rfl, rfl⟩) | (go_at_call 63; refine (utf_Digit _ _ (by omega) (by omega)).mono ?_; rintro e w3 ⟨rfl, rfl⟩) | (go_at_call 53; refine (YtokclcilpekfiaaGreatDoor.bld_byte _ _ _ _ (by omega) (by omega) _ HB.out (by omega) (by omega)).mono ?_; rintro e w4 ⟨rfl, hB2, hb3⟩))
            exact jrel_next hlt hB2 (by simp [jB, jStays, k0, k1, k2]) hb3 HS.out HW.out hsz
          · have hc127 : (((normB s)[k]).toNat : Int) < 128 := by simpa using k0
            have e2 := and63 (normB s)[k]
            have e5 := and15 (normB s)[k]
            have e6 : IntKind.u8.wrap ((((normB s)[k]).toNat : Int) / 16 + 1) = (((normB s)[k]).toNat : Int) / 16 + 1 := wrapu8 (by omega) (by omega)
            have e7 : IntKind.u8.wrap ((((normB s)[k]).toNat : Int) % 16 + 1) = (((normB s)[k]).toNat : Int) % 16 + 1 := wrapu8 (by omega) (by omega)
            by_cases h64 : (((normB s)[k]).toNat : Int) < 64
            · have c2 : wr.cell? ⟨w2.heap.size, ((normB s)[k]).toNat / 64, none⟩ = some (.int .u64 (loAt 26)) := by rw [show ((normB s)[k]).toNat / 64 = 0 by omega]; exact c0
              rcases Bool.eq_false_or_eq_true (bits .and .u64 (loAt 26 / 2 ^ (((normB s)[k]).toNat % 64)) 1 == 1) with k3 | k3
              · go_wp2_with (first | (go_at_call 62; refine (utf_Letter _ _ (by omega) (by omega)).mono ?_; rintro e w3 ⟨rfl, rfl⟩) | (go_at_call 63; refine (utf_Digit _ _ (by omega) (by omega)).mono ?_; rintro e w3 ⟨rfl, rfl⟩) | (go_at_call 53; refine (YtokclcilpekfiaaGreatDoor.bld_byte _ _ _ _ (by omega) (by omega) _ HB.out (by omega) (by omega)).mono ?_; rintro e w4 ⟨rfl, hB2, hb3⟩))
                exact jrel_next hlt hB2 (jB_stay _ (by rw [jStays_last k0 k1 k2, Int.toNat_natCast, ← loAt_bit _ (show ((normB s)[k]).toNat < 64 by omega)]; exact k3)) hb3 HS.out HW.out hsz
              · go_wp2_with (first | (go_at_call 62; refine (utf_Letter _ _ (by omega) (by omega)).mono ?_; rintro e w3 ⟨rfl, rfl⟩) | (go_at_call 63; refine (utf_Digit _ _ (by omega) (by omega)).mono ?_; rintro e w3 ⟨rfl, rfl⟩))
                clear e2
                refine wp_tail_drew 14 (by kernel_rfl) (by kernel_rfl) ?_
                simp only [List.take_succ_cons, List.take_zero, List.drop_succ_cons, List.drop_zero]
                have i1 : 0 ≤ (((normB s)[k]).toNat : Int) / 16 := by omega
                have i2 : (((normB s)[k]).toNat : Int) / 16 + 1 ≤ 16 := by omega
                have i3 : 0 ≤ (((normB s)[k]).toNat : Int) % 16 := by omega
                have i4 : (((normB s)[k]).toNat : Int) % 16 + 1 ≤ 16 := by omega
                have s1 : ∀ w, (Instr.slice 9 (.string hexS) (some (.int .u8 ((((normB s)[k]).toNat : Int) / 16))) (some (.int .u8 ((((normB s)[k]).toNat : Int) / 16 + 1))) none).run Tryz.prog w = .ok (.string (hexAt ((((normB s)[k]).toNat : Int) / 16))) w := hex_run _ (by omega) (by omega)
                have s2 : ∀ w, (Instr.slice 9 (.string hexS) (some (.int .u8 ((((normB s)[k]).toNat : Int) % 16))) (some (.int .u8 ((((normB s)[k]).toNat : Int) % 16 + 1))) none).run Tryz.prog w = .ok (.string (hexAt ((((normB s)[k]).toNat : Int) % 16))) w := hex_run _ (by omega) (by omega)
                unfold hexS at s1 s2
                have z1 : ∀ i, (hexAt i).size = 1 := fun _ => rfl
                repeat still_step
                refine wpStill_nil ?_
                go_wp2_with (first | (go_at_call 52; refine (YtokclcilpekfiaaGreatDoor.bld_string _ _ _ _ _ (YtokclcilpekfiaaGreatDoor.bld_below HB.out ((Below.refl _ _).drew)) (by rw [hex6]; omega) (by simp; omega)).mono ?_; rintro e w4 ⟨rfl, hB2, hb3⟩))
                exact jrel_next hlt hB2 (jB_esc _ (by rw [jStays_last k0 k1 k2, Int.toNat_natCast, ← loAt_bit _ (show ((normB s)[k]).toNat < 64 by omega)]; exact k3)) ((Below.refl _ _).drew.trans hb3) HS.out HW.out hsz
            · have c2 : wr.cell? ⟨w2.heap.size, ((normB s)[k]).toNat / 64, none⟩ = some (.int .u64 (hiAt 26)) := by rw [show ((normB s)[k]).toNat / 64 = 1 by omega]; exact c1
              rcases Bool.eq_false_or_eq_true (bits .and .u64 (hiAt 26 / 2 ^ (((normB s)[k]).toNat % 64)) 1 == 1) with k3 | k3
              · go_wp2_with (first | (go_at_call 62; refine (utf_Letter _ _ (by omega) (by omega)).mono ?_; rintro e w3 ⟨rfl, rfl⟩) | (go_at_call 63; refine (utf_Digit _ _ (by omega) (by omega)).mono ?_; rintro e w3 ⟨rfl, rfl⟩) | (go_at_call 53; refine (YtokclcilpekfiaaGreatDoor.bld_byte _ _ _ _ (by omega) (by omega) _ HB.out (by omega) (by omega)).mono ?_; rintro e w4 ⟨rfl, hB2, hb3⟩))
                exact jrel_next hlt hB2 (jB_stay _ (by rw [jStays_last k0 k1 k2, Int.toNat_natCast, ← hiAt_bit _ (show ((normB s)[k]).toNat < 128 by omega) (by omega)]; exact k3)) hb3 HS.out HW.out hsz
              · go_wp2_with (first | (go_at_call 62; refine (utf_Letter _ _ (by omega) (by omega)).mono ?_; rintro e w3 ⟨rfl, rfl⟩) | (go_at_call 63; refine (utf_Digit _ _ (by omega) (by omega)).mono ?_; rintro e w3 ⟨rfl, rfl⟩))
                clear e2
                refine wp_tail_drew 14 (by kernel_rfl) (by kernel_rfl) ?_
                simp only [List.take_succ_cons, List.take_zero, List.drop_succ_cons, List.drop_zero]
                have i1 : 0 ≤ (((normB s)[k]).toNat : Int) / 16 := by omega
                have i2 : (((normB s)[k]).toNat : Int) / 16 + 1 ≤ 16 := by omega
                have i3 : 0 ≤ (((normB s)[k]).toNat : Int) % 16 := by omega
                have i4 : (((normB s)[k]).toNat : Int) % 16 + 1 ≤ 16 := by omega
                have s1 : ∀ w, (Instr.slice 9 (.string hexS) (some (.int .u8 ((((normB s)[k]).toNat : Int) / 16))) (some (.int .u8 ((((normB s)[k]).toNat : Int) / 16 + 1))) none).run Tryz.prog w = .ok (.string (hexAt ((((normB s)[k]).toNat : Int) / 16))) w := hex_run _ (by omega) (by omega)
                have s2 : ∀ w, (Instr.slice 9 (.string hexS) (some (.int .u8 ((((normB s)[k]).toNat : Int) % 16))) (some (.int .u8 ((((normB s)[k]).toNat : Int) % 16 + 1))) none).run Tryz.prog w = .ok (.string (hexAt ((((normB s)[k]).toNat : Int) % 16))) w := hex_run _ (by omega) (by omega)
                unfold hexS at s1 s2
                have z1 : ∀ i, (hexAt i).size = 1 := fun _ => rfl
                repeat still_step
                refine wpStill_nil ?_
                go_wp2_with (first | (go_at_call 52; refine (YtokclcilpekfiaaGreatDoor.bld_string _ _ _ _ _ (YtokclcilpekfiaaGreatDoor.bld_below HB.out ((Below.refl _ _).drew)) (by rw [hex6]; omega) (by simp; omega)).mono ?_; rintro e w4 ⟨rfl, hB2, hb3⟩))
                exact jrel_next hlt hB2 (jB_esc _ (by rw [jStays_last k0 k1 k2, Int.toNat_natCast, ← hiAt_bit _ (show ((normB s)[k]).toNat < 128 by omega) (by omega)]; exact k3)) ((Below.refl _ _).drew.trans hb3) HS.out HW.out hsz
    · obtain rfl : k = (normB s).size := by omega
      have ht : List.take (normB s).size (normB s).data.toList = norm s := by rw [List.take_of_length_le (by simp)]; exact HNL.out
      rw [ht] at he6
      have HB' : Hid (YtokclcilpekfiaaGreatDoor.Bld (w2.heap.size + 1) (w2.heap.size + 1) (jes (norm s)) wr) := by have h := HB.out; rw [ht] at h; exact h
      have hs1 := hb1.size
      have hs2 := hb2.size
      have hw0 : Below w.heap.size w wr := hb1.trans ((hb2.mono hb1.size).trans (HW.out.mono (by omega)))
      have HW0 := Lib.hid hw0
      have hl1 := replaceAll_len (jes (norm s)) [226, 128, 168] [92, 117, 50, 48, 50, 56]
      simp only [List.length_cons, List.length_nil] at hl1
      have hc1 := Lib.count_le (jes (norm s)) [226, 128, 168]
      have hc2 := Lib.count_le (Lib.replaceAll (jes (norm s)) [226, 128, 168] [92, 117, 50, 48, 50, 56]) [226, 128, 169]
      clear ht hw0 c0 c1 cf
      go_wp2_with (first | (go_at_call 54; refine (YtokclcilpekfiaaGreatDoor.bld_text _ _ _ _ HB'.out (by omega)).mono ?_; rintro e w5 ⟨rfl, hb5⟩))
      refine (Tryz.strings_ReplaceAll _ _ _ m _ (by show (jes (norm s)).toArray.size < _; rw [List.size_toArray]; omega) (HE.out.below (HW0.out.trans (hb5.mono (by omega)))).max (by decide) (by show (jes (norm s)).toArray.size + Lib.count (jes (norm s)) [226, 128, 168] * 6 ≤ _; rw [List.size_toArray]; omega)).mono ?_
      rintro e w6 ⟨rfl, hb6⟩
      go_wp2_with fail
      have hs5 := hb5.size
      have hs6 := hb6.size
      refine (Tryz.strings_ReplaceAll _ _ _ m _ (by show (Lib.replaceAll (jes (norm s)) [226, 128, 168] [92, 117, 50, 48, 50, 56]).toArray.size < _; rw [List.size_toArray]; omega) (HE.out.below (HW0.out.trans ((hb5.mono (by omega)).trans (hb6.mono (by omega))))).max (by decide) (by show (Lib.replaceAll (jes (norm s)) [226, 128, 168] [92, 117, 50, 48, 50, 56]).toArray.size + Lib.count (Lib.replaceAll (jes (norm s)) [226, 128, 168] [92, 117, 50, 48, 50, 56]) [226, 128, 169] * 6 ≤ _; rw [List.size_toArray]; omega)).mono ?_
      rintro e w7 ⟨rfl, hb7⟩
      go_wp2_with fail
      go_ret
      refine ⟨?_, HW0.out.trans ((hb5.mono (by omega)).trans ((hb6.mono (by omega)).trans (hb7.mono (by omega))))⟩
      simp [jesc, jesL]
end Go.Proofs.YtokclcilpekfiaaGreatDoor
